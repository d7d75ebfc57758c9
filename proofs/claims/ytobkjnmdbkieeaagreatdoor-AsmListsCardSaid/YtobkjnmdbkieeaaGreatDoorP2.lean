/- Part 2 of what the law AsmLists stands on: formulas of the functions that it reaches, and what each of them does; conditions: those of each theorem. -/
import Derived.Test.YtobkjnmdbkieeaaGreatDoorP1
set_option linter.unusedVariables false
set_option linter.unusedSimpArgs false
namespace Go.Proofs.YtobkjnmdbkieeaaGreatDoor
open Go.Fx
set_option maxRecDepth 100000
theorem mixedX : Tryz.prog.follows .mixedOrders = true := by kernel_rfl
section
variable (P : Program) (w : World) (K : Value -> World -> Prop)
def F6 (t0 : Value) : Prop :=
 kV P (Instr.alloc 25 true (.tuple #[])) w fun v2 w =>
 kV P (convert 28 55 t0) w fun v14 w =>
 kN P (callN (.func (.func 20) #[] #[]) #[]) w fun v15 w =>
 loopT (fun R0 s0 w => ∀ _ : Nat -> Value,
 kV P (binV .lss 3 (.tmp 16) (.const (.int .i64 69)) (s0.getD 0 undef) (.int .i64 69)) w fun v17 w =>
 condK v17
 (kV P (Instr.index 58 v15 (s0.getD 0 undef)) w fun v19 w =>
 kV P (Instr.alloc 57 true (.tuple #[])) w fun v6 w =>
 kU P (Instr.storeAt 57 v6 v19) w fun _ w =>
 kV P (Instr.loadAt 57 v6) w fun v21 w =>
 kN P (callN (.func (.func 21) #[] #[]) #[v21]) w fun v22 w =>
 kV P (Instr.extract v22 0) w fun v23 w =>
 kV P (Instr.extract v22 1) w fun v24 w =>
 kV P (binV .and 55 (.tmp 25) (.tmp 26) v14 v24) w fun v27 w =>
 kV P (binV .neq 55 (.tmp 27) (.tmp 28) v27 v23) w fun v29 w =>
 condK v29
 (kV P (binV .add 3 (.tmp 16) (.const (.int .i64 1)) (s0.getD 0 undef) (.int .i64 1)) w fun v61 w =>
 R0 [v61] w)
 (kV P (binV .add 3 (.tmp 30) (.const (.int .i64 1)) (s0.getD 0 undef) (.int .i64 1)) w fun v31 w =>
 kV P (Instr.fieldAt 57 v6 1) w fun v32 w =>
 kV P (Instr.loadAt 5 v32) w fun v33 w =>
 kN P (callN (.func (.func 22) #[] #[]) #[v33]) w fun v34 w =>
 kN P (callN (.func (.func 23) #[] #[]) #[v34, v14]) w fun v36 w =>
 kV P (Instr.build 25 #[(0, v31), (4, v36)]) w fun v37 w =>
 kV P (Instr.alloc 25 true (.tuple #[])) w fun v9 w =>
 kU P (Instr.storeAt 25 v9 v37) w fun _ w =>
 kV P (Instr.fieldAt 57 v6 1) w fun v39 w =>
 kV P (Instr.loadAt 5 v39) w fun v40 w =>
 kN P (callN (.func (.func 24) #[] #[]) #[v40]) w fun v41 w =>
 kV P (Instr.extract v41 0) w fun v42 w =>
 kV P (Instr.extract v41 1) w fun v43 w =>
 kV P (Instr.extract v41 2) w fun v44 w =>
 joinL (fun J2 =>
 condK v42
 (kN P (callN (.func (.func 25) #[] #[]) #[v14, (.int .i64 7), (.int .i64 5)]) w fun v47 w =>
 kV P (convert 55 3 v47) w fun v48 w =>
 kV P (Instr.fieldAt 25 v9 1) w fun v49 w =>
 kU P (Instr.storeAt 3 v49 v48) w fun _ w =>
 J2 [] w)
 (J2 [] w)) fun s2 w => ∀ _ : Nat -> Value,
 joinL (fun J4 =>
 condK v43
 (kN P (callN (.func (.func 25) #[] #[]) #[v14, (.int .i64 15), (.int .i64 5)]) w fun v52 w =>
 kV P (convert 55 3 v52) w fun v53 w =>
 kV P (Instr.fieldAt 25 v9 2) w fun v54 w =>
 kU P (Instr.storeAt 3 v54 v53) w fun _ w =>
 J4 [] w)
 (J4 [] w)) fun s4 w => ∀ _ : Nat -> Value,
 joinL (fun J6 =>
 condK v44
 (kN P (callN (.func (.func 25) #[] #[]) #[v14, (.int .i64 20), (.int .i64 5)]) w fun v57 w =>
 kV P (convert 55 3 v57) w fun v58 w =>
 kV P (Instr.fieldAt 25 v9 3) w fun v59 w =>
 kU P (Instr.storeAt 3 v59 v58) w fun _ w =>
 J6 [] w)
 (J6 [] w)) fun s6 w => ∀ _ : Nat -> Value,
 kV P (Instr.loadAt 25 v9) w fun v60 w =>
 kU P (Instr.storeAt 25 v2 v60) w fun _ w =>
 retV P 25 v2 w fun r8 =>
 K (.tuple #[r8, (.bool true)]) w))
 (kV P (Instr.build 25 #[]) w fun v62 w =>
 kU P (Instr.storeAt 25 v2 v62) w fun _ w =>
 retV P 25 v2 w fun r9 =>
 K (.tuple #[r9, (.bool false)]) w)) [(.int .i64 0)] w
theorem F6_eq (t0 : Value) : funE P ⟨[], [(3, [16])], [(11, []), (13, []), (15, [])]⟩ Tryz.f6 [t0] w K = F6 P w K t0 := by kernel_rfl
theorem F6_ok (t0 : Value) (h : F6 Tryz.prog w K t0) : callsK Tryz.prog 6 #[t0] w K := calls_of_eq mixedX Tryz.func6 (F6_eq _ w K t0) h
def F20 : Prop :=
 kV P (Instr.alloc 58 true (.tuple #[])) w fun v0 w =>
 kV P (Instr.build 57 #[(0, (.string ⟨#[108, 117, 105]⟩)), (1, (.int .u8 85)), (2, (.int .u64 55)), (3, (.int .u64 0)), (4, (.int .u64 0))]) w fun v1 w =>
 kV P (Instr.build 57 #[(0, (.string ⟨#[97, 117, 105, 112, 99]⟩)), (1, (.int .u8 85)), (2, (.int .u64 23)), (3, (.int .u64 0)), (4, (.int .u64 0))]) w fun v2 w =>
 kV P (Instr.build 57 #[(0, (.string ⟨#[106, 97, 108]⟩)), (1, (.int .u8 74)), (2, (.int .u64 111)), (3, (.int .u64 0)), (4, (.int .u64 0))]) w fun v3 w =>
 kV P (Instr.build 57 #[(0, (.string ⟨#[106, 97, 108, 114]⟩)), (1, (.int .u8 73)), (2, (.int .u64 103)), (3, (.int .u64 0)), (4, (.int .u64 0))]) w fun v4 w =>
 kV P (Instr.build 57 #[(0, (.string ⟨#[98, 101, 113]⟩)), (1, (.int .u8 66)), (2, (.int .u64 99)), (3, (.int .u64 0)), (4, (.int .u64 0))]) w fun v5 w =>
 kV P (Instr.build 57 #[(0, (.string ⟨#[98, 110, 101]⟩)), (1, (.int .u8 66)), (2, (.int .u64 99)), (3, (.int .u64 1)), (4, (.int .u64 0))]) w fun v6 w =>
 kV P (Instr.build 57 #[(0, (.string ⟨#[98, 108, 116]⟩)), (1, (.int .u8 66)), (2, (.int .u64 99)), (3, (.int .u64 4)), (4, (.int .u64 0))]) w fun v7 w =>
 kV P (Instr.build 57 #[(0, (.string ⟨#[98, 103, 101]⟩)), (1, (.int .u8 66)), (2, (.int .u64 99)), (3, (.int .u64 5)), (4, (.int .u64 0))]) w fun v8 w =>
 kV P (Instr.build 57 #[(0, (.string ⟨#[98, 108, 116, 117]⟩)), (1, (.int .u8 66)), (2, (.int .u64 99)), (3, (.int .u64 6)), (4, (.int .u64 0))]) w fun v9 w =>
 kV P (Instr.build 57 #[(0, (.string ⟨#[98, 103, 101, 117]⟩)), (1, (.int .u8 66)), (2, (.int .u64 99)), (3, (.int .u64 7)), (4, (.int .u64 0))]) w fun v10 w =>
 kV P (Instr.build 57 #[(0, (.string ⟨#[108, 98]⟩)), (1, (.int .u8 73)), (2, (.int .u64 3)), (3, (.int .u64 0)), (4, (.int .u64 0))]) w fun v11 w =>
 kV P (Instr.build 57 #[(0, (.string ⟨#[108, 104]⟩)), (1, (.int .u8 73)), (2, (.int .u64 3)), (3, (.int .u64 1)), (4, (.int .u64 0))]) w fun v12 w =>
 kV P (Instr.build 57 #[(0, (.string ⟨#[108, 119]⟩)), (1, (.int .u8 73)), (2, (.int .u64 3)), (3, (.int .u64 2)), (4, (.int .u64 0))]) w fun v13 w =>
 kV P (Instr.build 57 #[(0, (.string ⟨#[108, 100]⟩)), (1, (.int .u8 73)), (2, (.int .u64 3)), (3, (.int .u64 3)), (4, (.int .u64 0))]) w fun v14 w =>
 kV P (Instr.build 57 #[(0, (.string ⟨#[108, 98, 117]⟩)), (1, (.int .u8 73)), (2, (.int .u64 3)), (3, (.int .u64 4)), (4, (.int .u64 0))]) w fun v15 w =>
 kV P (Instr.build 57 #[(0, (.string ⟨#[108, 104, 117]⟩)), (1, (.int .u8 73)), (2, (.int .u64 3)), (3, (.int .u64 5)), (4, (.int .u64 0))]) w fun v16 w =>
 kV P (Instr.build 57 #[(0, (.string ⟨#[108, 119, 117]⟩)), (1, (.int .u8 73)), (2, (.int .u64 3)), (3, (.int .u64 6)), (4, (.int .u64 0))]) w fun v17 w =>
 kV P (Instr.build 57 #[(0, (.string ⟨#[115, 98]⟩)), (1, (.int .u8 83)), (2, (.int .u64 35)), (3, (.int .u64 0)), (4, (.int .u64 0))]) w fun v18 w =>
 kV P (Instr.build 57 #[(0, (.string ⟨#[115, 104]⟩)), (1, (.int .u8 83)), (2, (.int .u64 35)), (3, (.int .u64 1)), (4, (.int .u64 0))]) w fun v19 w =>
 kV P (Instr.build 57 #[(0, (.string ⟨#[115, 119]⟩)), (1, (.int .u8 83)), (2, (.int .u64 35)), (3, (.int .u64 2)), (4, (.int .u64 0))]) w fun v20 w =>
 kV P (Instr.build 57 #[(0, (.string ⟨#[115, 100]⟩)), (1, (.int .u8 83)), (2, (.int .u64 35)), (3, (.int .u64 3)), (4, (.int .u64 0))]) w fun v21 w =>
 kV P (Instr.build 57 #[(0, (.string ⟨#[97, 100, 100, 105]⟩)), (1, (.int .u8 73)), (2, (.int .u64 19)), (3, (.int .u64 0)), (4, (.int .u64 0))]) w fun v22 w =>
 kV P (Instr.build 57 #[(0, (.string ⟨#[115, 108, 116, 105]⟩)), (1, (.int .u8 73)), (2, (.int .u64 19)), (3, (.int .u64 2)), (4, (.int .u64 0))]) w fun v23 w =>
 kV P (Instr.build 57 #[(0, (.string ⟨#[115, 108, 116, 105, 117]⟩)), (1, (.int .u8 73)), (2, (.int .u64 19)), (3, (.int .u64 3)), (4, (.int .u64 0))]) w fun v24 w =>
 kV P (Instr.build 57 #[(0, (.string ⟨#[120, 111, 114, 105]⟩)), (1, (.int .u8 73)), (2, (.int .u64 19)), (3, (.int .u64 4)), (4, (.int .u64 0))]) w fun v25 w =>
 kV P (Instr.build 57 #[(0, (.string ⟨#[111, 114, 105]⟩)), (1, (.int .u8 73)), (2, (.int .u64 19)), (3, (.int .u64 6)), (4, (.int .u64 0))]) w fun v26 w =>
 kV P (Instr.build 57 #[(0, (.string ⟨#[97, 110, 100, 105]⟩)), (1, (.int .u8 73)), (2, (.int .u64 19)), (3, (.int .u64 7)), (4, (.int .u64 0))]) w fun v27 w =>
 kV P (Instr.build 57 #[(0, (.string ⟨#[115, 108, 108, 105]⟩)), (1, (.int .u8 72)), (2, (.int .u64 19)), (3, (.int .u64 1)), (4, (.int .u64 0))]) w fun v28 w =>
 kV P (Instr.build 57 #[(0, (.string ⟨#[115, 114, 108, 105]⟩)), (1, (.int .u8 72)), (2, (.int .u64 19)), (3, (.int .u64 5)), (4, (.int .u64 0))]) w fun v29 w =>
 kV P (Instr.build 57 #[(0, (.string ⟨#[115, 114, 97, 105]⟩)), (1, (.int .u8 72)), (2, (.int .u64 19)), (3, (.int .u64 5)), (4, (.int .u64 16))]) w fun v30 w =>
 kV P (Instr.build 57 #[(0, (.string ⟨#[97, 100, 100]⟩)), (1, (.int .u8 82)), (2, (.int .u64 51)), (3, (.int .u64 0)), (4, (.int .u64 0))]) w fun v31 w =>
 kV P (Instr.build 57 #[(0, (.string ⟨#[115, 117, 98]⟩)), (1, (.int .u8 82)), (2, (.int .u64 51)), (3, (.int .u64 0)), (4, (.int .u64 32))]) w fun v32 w =>
 kV P (Instr.build 57 #[(0, (.string ⟨#[115, 108, 108]⟩)), (1, (.int .u8 82)), (2, (.int .u64 51)), (3, (.int .u64 1)), (4, (.int .u64 0))]) w fun v33 w =>
 kV P (Instr.build 57 #[(0, (.string ⟨#[115, 108, 116]⟩)), (1, (.int .u8 82)), (2, (.int .u64 51)), (3, (.int .u64 2)), (4, (.int .u64 0))]) w fun v34 w =>
 kV P (Instr.build 57 #[(0, (.string ⟨#[115, 108, 116, 117]⟩)), (1, (.int .u8 82)), (2, (.int .u64 51)), (3, (.int .u64 3)), (4, (.int .u64 0))]) w fun v35 w =>
 kV P (Instr.build 57 #[(0, (.string ⟨#[120, 111, 114]⟩)), (1, (.int .u8 82)), (2, (.int .u64 51)), (3, (.int .u64 4)), (4, (.int .u64 0))]) w fun v36 w =>
 kV P (Instr.build 57 #[(0, (.string ⟨#[115, 114, 108]⟩)), (1, (.int .u8 82)), (2, (.int .u64 51)), (3, (.int .u64 5)), (4, (.int .u64 0))]) w fun v37 w =>
 kV P (Instr.build 57 #[(0, (.string ⟨#[115, 114, 97]⟩)), (1, (.int .u8 82)), (2, (.int .u64 51)), (3, (.int .u64 5)), (4, (.int .u64 32))]) w fun v38 w =>
 kV P (Instr.build 57 #[(0, (.string ⟨#[111, 114]⟩)), (1, (.int .u8 82)), (2, (.int .u64 51)), (3, (.int .u64 6)), (4, (.int .u64 0))]) w fun v39 w =>
 kV P (Instr.build 57 #[(0, (.string ⟨#[97, 110, 100]⟩)), (1, (.int .u8 82)), (2, (.int .u64 51)), (3, (.int .u64 7)), (4, (.int .u64 0))]) w fun v40 w =>
 kV P (Instr.build 57 #[(0, (.string ⟨#[101, 99, 97, 108, 108]⟩)), (1, (.int .u8 78)), (2, (.int .u64 115)), (3, (.int .u64 0)), (4, (.int .u64 0))]) w fun v41 w =>
 kV P (Instr.build 57 #[(0, (.string ⟨#[101, 98, 114, 101, 97, 107]⟩)), (1, (.int .u8 78)), (2, (.int .u64 115)), (3, (.int .u64 0)), (4, (.int .u64 1))]) w fun v42 w =>
 kV P (Instr.build 57 #[(0, (.string ⟨#[99, 108, 99]⟩)), (1, (.int .u8 73)), (2, (.int .u64 15)), (3, (.int .u64 2)), (4, (.int .u64 0))]) w fun v43 w =>
 kV P (Instr.build 57 #[(0, (.string ⟨#[99, 115, 99]⟩)), (1, (.int .u8 83)), (2, (.int .u64 35)), (3, (.int .u64 4)), (4, (.int .u64 0))]) w fun v44 w =>
 kV P (Instr.build 57 #[(0, (.string ⟨#[99, 115, 101, 116, 98, 111, 117, 110, 100, 115]⟩)), (1, (.int .u8 82)), (2, (.int .u64 91)), (3, (.int .u64 0)), (4, (.int .u64 8))]) w fun v45 w =>
 kV P (Instr.build 57 #[(0, (.string ⟨#[99, 115, 101, 116, 98, 111, 117, 110, 100, 115, 101, 120, 97, 99, 116]⟩)), (1, (.int .u8 82)), (2, (.int .u64 91)), (3, (.int .u64 0)), (4, (.int .u64 9))]) w fun v46 w =>
 kV P (Instr.build 57 #[(0, (.string ⟨#[99, 115, 101, 97, 108]⟩)), (1, (.int .u8 82)), (2, (.int .u64 91)), (3, (.int .u64 0)), (4, (.int .u64 11))]) w fun v47 w =>
 kV P (Instr.build 57 #[(0, (.string ⟨#[99, 117, 110, 115, 101, 97, 108]⟩)), (1, (.int .u8 82)), (2, (.int .u64 91)), (3, (.int .u64 0)), (4, (.int .u64 12))]) w fun v48 w =>
 kV P (Instr.build 57 #[(0, (.string ⟨#[99, 97, 110, 100, 112, 101, 114, 109]⟩)), (1, (.int .u8 82)), (2, (.int .u64 91)), (3, (.int .u64 0)), (4, (.int .u64 13))]) w fun v49 w =>
 kV P (Instr.build 57 #[(0, (.string ⟨#[99, 115, 101, 116, 97, 100, 100, 114]⟩)), (1, (.int .u8 82)), (2, (.int .u64 91)), (3, (.int .u64 0)), (4, (.int .u64 16))]) w fun v50 w =>
 kV P (Instr.build 57 #[(0, (.string ⟨#[99, 105, 110, 99, 111, 102, 102, 115, 101, 116]⟩)), (1, (.int .u8 82)), (2, (.int .u64 91)), (3, (.int .u64 0)), (4, (.int .u64 17))]) w fun v51 w =>
 kV P (Instr.build 57 #[(0, (.string ⟨#[99, 115, 117, 98]⟩)), (1, (.int .u8 82)), (2, (.int .u64 91)), (3, (.int .u64 0)), (4, (.int .u64 20))]) w fun v52 w =>
 kV P (Instr.build 57 #[(0, (.string ⟨#[99, 98, 117, 105, 108, 100, 99, 97, 112]⟩)), (1, (.int .u8 82)), (2, (.int .u64 91)), (3, (.int .u64 0)), (4, (.int .u64 29))]) w fun v53 w =>
 kV P (Instr.build 57 #[(0, (.string ⟨#[99, 116, 101, 115, 116, 115, 117, 98, 115, 101, 116]⟩)), (1, (.int .u8 82)), (2, (.int .u64 91)), (3, (.int .u64 0)), (4, (.int .u64 32))]) w fun v54 w =>
 kV P (Instr.build 57 #[(0, (.string ⟨#[99, 115, 101, 116, 101, 113, 117, 97, 108]⟩)), (1, (.int .u8 82)), (2, (.int .u64 91)), (3, (.int .u64 0)), (4, (.int .u64 33))]) w fun v55 w =>
 kV P (Instr.build 57 #[(0, (.string ⟨#[99, 103, 101, 116, 112, 101, 114, 109]⟩)), (1, (.int .u8 71)), (2, (.int .u64 91)), (3, (.int .u64 0)), (4, (.int .u64 0))]) w fun v56 w =>
 kV P (Instr.build 57 #[(0, (.string ⟨#[99, 103, 101, 116, 116, 121, 112, 101]⟩)), (1, (.int .u8 71)), (2, (.int .u64 91)), (3, (.int .u64 0)), (4, (.int .u64 1))]) w fun v57 w =>
 kV P (Instr.build 57 #[(0, (.string ⟨#[99, 103, 101, 116, 98, 97, 115, 101]⟩)), (1, (.int .u8 71)), (2, (.int .u64 91)), (3, (.int .u64 0)), (4, (.int .u64 2))]) w fun v58 w =>
 kV P (Instr.build 57 #[(0, (.string ⟨#[99, 103, 101, 116, 108, 101, 110]⟩)), (1, (.int .u8 71)), (2, (.int .u64 91)), (3, (.int .u64 0)), (4, (.int .u64 3))]) w fun v59 w =>
 kV P (Instr.build 57 #[(0, (.string ⟨#[99, 103, 101, 116, 116, 97, 103]⟩)), (1, (.int .u8 71)), (2, (.int .u64 91)), (3, (.int .u64 0)), (4, (.int .u64 4))]) w fun v60 w =>
 kV P (Instr.build 57 #[(0, (.string ⟨#[99, 103, 101, 116, 111, 102, 102, 115, 101, 116]⟩)), (1, (.int .u8 71)), (2, (.int .u64 91)), (3, (.int .u64 0)), (4, (.int .u64 6))]) w fun v61 w =>
 kV P (Instr.build 57 #[(0, (.string ⟨#[99, 114, 114, 108]⟩)), (1, (.int .u8 71)), (2, (.int .u64 91)), (3, (.int .u64 0)), (4, (.int .u64 8))]) w fun v62 w =>
 kV P (Instr.build 57 #[(0, (.string ⟨#[99, 114, 97, 109]⟩)), (1, (.int .u8 71)), (2, (.int .u64 91)), (3, (.int .u64 0)), (4, (.int .u64 9))]) w fun v63 w =>
 kV P (Instr.build 57 #[(0, (.string ⟨#[99, 109, 111, 118, 101]⟩)), (1, (.int .u8 71)), (2, (.int .u64 91)), (3, (.int .u64 0)), (4, (.int .u64 10))]) w fun v64 w =>
 kV P (Instr.build 57 #[(0, (.string ⟨#[99, 99, 108, 101, 97, 114, 116, 97, 103]⟩)), (1, (.int .u8 71)), (2, (.int .u64 91)), (3, (.int .u64 0)), (4, (.int .u64 11))]) w fun v65 w =>
 kV P (Instr.build 57 #[(0, (.string ⟨#[99, 103, 101, 116, 97, 100, 100, 114]⟩)), (1, (.int .u8 71)), (2, (.int .u64 91)), (3, (.int .u64 0)), (4, (.int .u64 15))]) w fun v66 w =>
 kV P (Instr.build 57 #[(0, (.string ⟨#[99, 115, 101, 97, 108, 101, 110, 116, 114, 121]⟩)), (1, (.int .u8 71)), (2, (.int .u64 91)), (3, (.int .u64 0)), (4, (.int .u64 17))]) w fun v67 w =>
 kV P (Instr.build 57 #[(0, (.string ⟨#[99, 105, 110, 99, 111, 102, 102, 115, 101, 116, 105, 109, 109]⟩)), (1, (.int .u8 73)), (2, (.int .u64 91)), (3, (.int .u64 1)), (4, (.int .u64 0))]) w fun v68 w =>
 kV P (Instr.build 57 #[(0, (.string ⟨#[99, 115, 101, 116, 98, 111, 117, 110, 100, 115, 105, 109, 109]⟩)), (1, (.int .u8 67)), (2, (.int .u64 91)), (3, (.int .u64 2)), (4, (.int .u64 0))]) w fun v69 w =>
 kV P (Instr.build 58 #[(0, v1), (1, v2), (2, v3), (3, v4), (4, v5), (5, v6), (6, v7), (7, v8), (8, v9), (9, v10), (10, v11), (11, v12), (12, v13), (13, v14), (14, v15), (15, v16), (16, v17), (17, v18), (18, v19), (19, v20), (20, v21), (21, v22), (22, v23), (23, v24), (24, v25), (25, v26), (26, v27), (27, v28), (28, v29), (29, v30), (30, v31), (31, v32), (32, v33), (33, v34), (34, v35), (35, v36), (36, v37), (37, v38), (38, v39), (39, v40), (40, v41), (41, v42), (42, v43), (43, v44), (44, v45), (45, v46), (46, v47), (47, v48), (48, v49), (49, v50), (50, v51), (51, v52), (52, v53), (53, v54), (54, v55), (55, v56), (56, v57), (57, v58), (58, v59), (59, v60), (60, v61), (61, v62), (62, v63), (63, v64), (64, v65), (65, v66), (66, v67), (67, v68), (68, v69)]) w fun v70 w =>
 kU P (Instr.storeAt 58 v0 v70) w fun _ w =>
 retV P 58 v0 w fun r0 =>
 K r0 w
theorem F20_eq : funE P ⟨[], [], []⟩ Tryz.f20 [] w K = F20 P w K  := by kernel_rfl
theorem F20_ok  (h : F20 Tryz.prog w K ) : callsK Tryz.prog 20 #[] w K := calls_of_eq mixedX Tryz.func20 (F20_eq _ w K ) h
def F21 (t0 : Value) : Prop :=
 kV P (Instr.box 57 t0) w fun v1 w =>
 kV P (Instr.alloc 55 true (.tuple #[])) w fun v2 w =>
 kV P (Instr.alloc 55 true (.tuple #[])) w fun v3 w =>
 kV P (Instr.fieldAt 57 v1 2) w fun v7 w =>
 kV P (Instr.loadAt 55 v7) w fun v8 w =>
 kN P (callN (.func (.func 43) #[] #[v2, v3]) #[(.int .i64 0), (.int .i64 7), v8]) w fun v9 w =>
 kV P (Instr.fieldAt 57 v1 1) w fun v10 w =>
 kV P (Instr.loadAt 5 v10) w fun v11 w =>
 joinL (fun J0 =>
 kV P (binV .eql 5 (.tmp 11) (.const (.int .u8 85)) v11 (.int .u8 85)) w fun v13 w =>
 condK v13
 (J0 [v13] w)
 (kV P (binV .eql 5 (.tmp 11) (.const (.int .u8 74)) v11 (.int .u8 74)) w fun v14 w =>
 J0 [v14] w)) fun s0 w => ∀ _ : Nat -> Value,
 condK (s0.getD 0 undef)
 (drewK (fun w =>
 relX fun R2 =>
 postX R2 (fun p2_15 => allX R2 w fun V2 w => True -> kV P (Instr.loadAt 55 v2) w (okX R2 w p2_15)) fun p2_15 =>
 postX R2 (fun p2_16 => allX R2 w fun V2 w => True -> kV P (Instr.loadAt 55 v3) w (okX R2 w p2_16)) fun p2_16 =>
 postX R2 (fun p2_n2 => allX R2 w fun V2 w => p2_15 (V2 15) w /\ True -> kU P (Instr.storeAt 55 v2 (V2 15)) w (okX R2 w p2_n2)) fun p2_n2 =>
 allX R2 w fun V2 w => p2_15 (V2 15) w /\ p2_16 (V2 16) w /\ (∃ u, p2_n2 u w) /\ True -> xDist V2 [] ->
 kU P (Instr.storeAt 55 v3 (V2 16)) w fun _ w =>
 retV P 55 v2 w fun r3 =>
 retV P 55 v3 w fun r4 =>
 K (.tuple #[r3, r4]) w) w)
 (kV P (binV .eql 5 (.tmp 11) (.const (.int .u8 78)) v11 (.int .u8 78)) w fun v18 w =>
 condK v18
 (kN P (callN (.func (.func 43) #[] #[v2, v3]) #[(.int .i64 7), (.int .i64 13), (.int .u64 0)]) w fun v20 w =>
 kV P (Instr.fieldAt 57 v1 4) w fun v22 w =>
 kV P (Instr.loadAt 55 v22) w fun v23 w =>
 kN P (callN (.func (.func 43) #[] #[v2, v3]) #[(.int .i64 20), (.int .i64 12), v23]) w fun v24 w =>
 drewK (fun w =>
 relX fun R5 =>
 postX R5 (fun p5_25 => allX R5 w fun V5 w => True -> kV P (Instr.loadAt 55 v2) w (okX R5 w p5_25)) fun p5_25 =>
 postX R5 (fun p5_26 => allX R5 w fun V5 w => True -> kV P (Instr.loadAt 55 v3) w (okX R5 w p5_26)) fun p5_26 =>
 postX R5 (fun p5_n2 => allX R5 w fun V5 w => p5_25 (V5 25) w /\ True -> kU P (Instr.storeAt 55 v2 (V5 25)) w (okX R5 w p5_n2)) fun p5_n2 =>
 allX R5 w fun V5 w => p5_25 (V5 25) w /\ p5_26 (V5 26) w /\ (∃ u, p5_n2 u w) /\ True -> xDist V5 [] ->
 kU P (Instr.storeAt 55 v3 (V5 26)) w fun _ w =>
 retV P 55 v2 w fun r6 =>
 retV P 55 v3 w fun r7 =>
 K (.tuple #[r6, r7]) w) w)
 (kV P (Instr.fieldAt 57 v1 3) w fun v28 w =>
 kV P (Instr.loadAt 55 v28) w fun v29 w =>
 kN P (callN (.func (.func 43) #[] #[v2, v3]) #[(.int .i64 12), (.int .i64 3), v29]) w fun v30 w =>
 joinL (fun J8 =>
 kV P (Instr.fieldAt 57 v1 1) w fun v31 w =>
 kV P (Instr.loadAt 5 v31) w fun v32 w =>
 kV P (binV .eql 5 (.tmp 32) (.const (.int .u8 82)) v32 (.int .u8 82)) w fun v34 w =>
 condK v34
 (kV P (Instr.fieldAt 57 v1 4) w fun v36 w =>
 kV P (Instr.loadAt 55 v36) w fun v37 w =>
 kN P (callN (.func (.func 43) #[] #[v2, v3]) #[(.int .i64 25), (.int .i64 7), v37]) w fun v38 w =>
 J8 [] w)
 (kV P (binV .eql 5 (.tmp 32) (.const (.int .u8 71)) v32 (.int .u8 71)) w fun v40 w =>
 condK v40
 (kV P (Instr.fieldAt 57 v1 4) w fun v42 w =>
 kV P (Instr.loadAt 55 v42) w fun v43 w =>
 kN P (callN (.func (.func 43) #[] #[v2, v3]) #[(.int .i64 20), (.int .i64 5), v43]) w fun v44 w =>
 kN P (callN (.func (.func 43) #[] #[v2, v3]) #[(.int .i64 25), (.int .i64 7), (.int .u64 127)]) w fun v46 w =>
 J8 [] w)
 (kV P (binV .eql 5 (.tmp 32) (.const (.int .u8 72)) v32 (.int .u8 72)) w fun v48 w =>
 condK v48
 (kV P (Instr.fieldAt 57 v1 4) w fun v50 w =>
 kV P (Instr.loadAt 55 v50) w fun v51 w =>
 kN P (callN (.func (.func 43) #[] #[v2, v3]) #[(.int .i64 26), (.int .i64 6), v51]) w fun v52 w =>
 J8 [] w)
 (J8 [] w)))) fun s8 w => ∀ _ : Nat -> Value,
 drewK (fun w =>
 relX fun R10 =>
 postX R10 (fun p10_53 => allX R10 w fun V10 w => True -> kV P (Instr.loadAt 55 v2) w (okX R10 w p10_53)) fun p10_53 =>
 postX R10 (fun p10_54 => allX R10 w fun V10 w => True -> kV P (Instr.loadAt 55 v3) w (okX R10 w p10_54)) fun p10_54 =>
 postX R10 (fun p10_n2 => allX R10 w fun V10 w => p10_53 (V10 53) w /\ True -> kU P (Instr.storeAt 55 v2 (V10 53)) w (okX R10 w p10_n2)) fun p10_n2 =>
 allX R10 w fun V10 w => p10_53 (V10 53) w /\ p10_54 (V10 54) w /\ (∃ u, p10_n2 u w) /\ True -> xDist V10 [] ->
 kU P (Instr.storeAt 55 v3 (V10 54)) w fun _ w =>
 retV P 55 v2 w fun r11 =>
 retV P 55 v3 w fun r12 =>
 K (.tuple #[r11, r12]) w) w))
theorem F21_eq (t0 : Value) : funE P ⟨[(20, 1003), (10, 1003), (6, 1003)], [], [(6, [12]), (20, [])]⟩ Tryz.f21 [t0] w K = F21 P w K t0 := by kernel_rfl
theorem F21_ok (t0 : Value) (h : F21 Tryz.prog w K t0) : callsK Tryz.prog 21 #[t0] w K := calls_of_eq mixedX Tryz.func21 (F21_eq _ w K t0) h
def F22 (t0 : Value) : Prop :=
 kV P (Instr.alloc 64 true (.tuple #[])) w fun v2 w =>
 joinL (fun J0 =>
 kV P (binV .eql 5 (.tmp 3) (.const (.int .u8 73)) t0 (.int .u8 73)) w fun v5 w =>
 condK v5
 (J0 [v5] w)
 (kV P (binV .eql 5 (.tmp 3) (.const (.int .u8 67)) t0 (.int .u8 67)) w fun v6 w =>
 J0 [v6] w)) fun s0 w => ∀ _ : Nat -> Value,
 condK (s0.getD 0 undef)
 (kV P (Instr.build 105 #[(0, (.int .i64 0)), (1, (.int .i64 12)), (2, (.int .i64 20))]) w fun v7 w =>
 kV P (Instr.buildSlice 62 1 #[(0, v7)]) w fun v8 w =>
 kV P (binV .eql 5 (.tmp 9) (.const (.int .u8 73)) t0 (.int .u8 73)) w fun v10 w =>
 kV P (Instr.build 64 #[(0, v8), (1, (.int .i64 12)), (2, v10), (3, (.int .i64 0))]) w fun v11 w =>
 kU P (Instr.storeAt 64 v2 v11) w fun _ w =>
 retV P 64 v2 w fun r2 =>
 K r2 w)
 (kV P (binV .eql 5 (.tmp 3) (.const (.int .u8 72)) t0 (.int .u8 72)) w fun v13 w =>
 condK v13
 (kV P (Instr.build 105 #[(0, (.int .i64 0)), (1, (.int .i64 6)), (2, (.int .i64 20))]) w fun v14 w =>
 kV P (Instr.buildSlice 62 1 #[(0, v14)]) w fun v15 w =>
 kV P (Instr.build 64 #[(0, v15), (1, (.int .i64 6)), (2, (.bool false)), (3, (.int .i64 0))]) w fun v16 w =>
 kU P (Instr.storeAt 64 v2 v16) w fun _ w =>
 retV P 64 v2 w fun r3 =>
 K r3 w)
 (kV P (binV .eql 5 (.tmp 3) (.const (.int .u8 83)) t0 (.int .u8 83)) w fun v18 w =>
 condK v18
 (kV P (Instr.build 105 #[(0, (.int .i64 0)), (1, (.int .i64 5)), (2, (.int .i64 7))]) w fun v19 w =>
 kV P (Instr.build 105 #[(0, (.int .i64 5)), (1, (.int .i64 7)), (2, (.int .i64 25))]) w fun v20 w =>
 kV P (Instr.buildSlice 62 2 #[(0, v19), (1, v20)]) w fun v21 w =>
 kV P (Instr.build 64 #[(0, v21), (1, (.int .i64 12)), (2, (.bool true)), (3, (.int .i64 0))]) w fun v22 w =>
 kU P (Instr.storeAt 64 v2 v22) w fun _ w =>
 retV P 64 v2 w fun r4 =>
 K r4 w)
 (kV P (binV .eql 5 (.tmp 3) (.const (.int .u8 66)) t0 (.int .u8 66)) w fun v24 w =>
 condK v24
 (kV P (Instr.build 105 #[(0, (.int .i64 1)), (1, (.int .i64 4)), (2, (.int .i64 8))]) w fun v25 w =>
 kV P (Instr.build 105 #[(0, (.int .i64 5)), (1, (.int .i64 6)), (2, (.int .i64 25))]) w fun v26 w =>
 kV P (Instr.build 105 #[(0, (.int .i64 11)), (1, (.int .i64 1)), (2, (.int .i64 7))]) w fun v27 w =>
 kV P (Instr.build 105 #[(0, (.int .i64 12)), (1, (.int .i64 1)), (2, (.int .i64 31))]) w fun v28 w =>
 kV P (Instr.buildSlice 62 4 #[(0, v25), (1, v26), (2, v27), (3, v28)]) w fun v29 w =>
 kV P (Instr.build 64 #[(0, v29), (1, (.int .i64 13)), (2, (.bool true)), (3, (.int .i64 1))]) w fun v30 w =>
 kU P (Instr.storeAt 64 v2 v30) w fun _ w =>
 retV P 64 v2 w fun r5 =>
 K r5 w)
 (kV P (binV .eql 5 (.tmp 3) (.const (.int .u8 85)) t0 (.int .u8 85)) w fun v32 w =>
 condK v32
 (kV P (Instr.build 105 #[(0, (.int .i64 12)), (1, (.int .i64 20)), (2, (.int .i64 12))]) w fun v33 w =>
 kV P (Instr.buildSlice 62 1 #[(0, v33)]) w fun v34 w =>
 kV P (Instr.build 64 #[(0, v34), (1, (.int .i64 32)), (2, (.bool true)), (3, (.int .i64 12))]) w fun v35 w =>
 kU P (Instr.storeAt 64 v2 v35) w fun _ w =>
 retV P 64 v2 w fun r6 =>
 K r6 w)
 (kV P (binV .eql 5 (.tmp 3) (.const (.int .u8 74)) t0 (.int .u8 74)) w fun v37 w =>
 condK v37
 (kV P (Instr.build 105 #[(0, (.int .i64 12)), (1, (.int .i64 8)), (2, (.int .i64 12))]) w fun v38 w =>
 kV P (Instr.build 105 #[(0, (.int .i64 11)), (1, (.int .i64 1)), (2, (.int .i64 20))]) w fun v39 w =>
 kV P (Instr.build 105 #[(0, (.int .i64 1)), (1, (.int .i64 10)), (2, (.int .i64 21))]) w fun v40 w =>
 kV P (Instr.build 105 #[(0, (.int .i64 20)), (1, (.int .i64 1)), (2, (.int .i64 31))]) w fun v41 w =>
 kV P (Instr.buildSlice 62 4 #[(0, v38), (1, v39), (2, v40), (3, v41)]) w fun v42 w =>
 kV P (Instr.build 64 #[(0, v42), (1, (.int .i64 21)), (2, (.bool true)), (3, (.int .i64 1))]) w fun v43 w =>
 kU P (Instr.storeAt 64 v2 v43) w fun _ w =>
 retV P 64 v2 w fun r7 =>
 K r7 w)
 (kV P (Instr.build 64 #[]) w fun v44 w =>
 kU P (Instr.storeAt 64 v2 v44) w fun _ w =>
 retV P 64 v2 w fun r8 =>
 K r8 w))))))
theorem F22_eq (t0 : Value) : funE P ⟨[], [], [(4, [4])]⟩ Tryz.f22 [t0] w K = F22 P w K t0 := by kernel_rfl
theorem F22_ok (t0 : Value) (h : F22 Tryz.prog w K t0) : callsK Tryz.prog 22 #[t0] w K := calls_of_eq mixedX Tryz.func22 (F22_eq _ w K t0) h
def F23 (t0 t1 : Value) : Prop :=
 kV P (Instr.box 64 t0) w fun v2 w =>
 kV P (Instr.fieldAt 64 v2 0) w fun v8 w =>
 kV P (Instr.loadAt 62 v8) w fun v9 w =>
 kV P (Builtin.len_ #[62] 3 #[v9]) w fun v10 w =>
 loopT (fun R0 s0 w => ∀ _ : Nat -> Value,
 kV P (binV .lss 3 (.tmp 11) (.tmp 10) (s0.getD 1 undef) v10) w fun v12 w =>
 condK v12
 (joinL (fun J2 =>
 kV P (Instr.indexAt 62 v9 (s0.getD 1 undef)) w fun v13 w =>
 kV P (Instr.loadAt 105 v13) w fun v14 w =>
 kV P (Instr.alloc 105 true (.tuple #[])) w fun v7 w =>
 kU P (Instr.storeAt 105 v7 v14) w fun _ w =>
 drewK (fun w =>
 relX fun R4 =>
 postX R4 (fun p4_15 => allX R4 w fun V4 w => True -> (okX R4 w p4_15) (s0.getD 0 undef) w) fun p4_15 =>
 postX R4 (fun p4_16 => allX R4 w fun V4 w => True -> kV P (Instr.fieldAt 105 v7 0) w (okX R4 w p4_16)) fun p4_16 =>
 postX R4 (fun p4_17 => allX R4 w fun V4 w => p4_16 (V4 16) w /\ True -> kV P (Instr.loadAt 3 (V4 16)) w (okX R4 w p4_17)) fun p4_17 =>
 postX R4 (fun p4_18 => allX R4 w fun V4 w => True -> kV P (Instr.fieldAt 105 v7 1) w (okX R4 w p4_18)) fun p4_18 =>
 postX R4 (fun p4_19 => allX R4 w fun V4 w => p4_18 (V4 18) w /\ True -> kV P (Instr.loadAt 3 (V4 18)) w (okX R4 w p4_19)) fun p4_19 =>
 postX R4 (fun p4_20 => allX R4 w fun V4 w => True -> (okX R4 w p4_20) t1 w) fun p4_20 =>
 postX R4 (fun p4_21 => allX R4 w fun V4 w => True -> kV P (Instr.fieldAt 105 v7 2) w (okX R4 w p4_21)) fun p4_21 =>
 postX R4 (fun p4_22 => allX R4 w fun V4 w => p4_21 (V4 21) w /\ True -> kV P (Instr.loadAt 3 (V4 21)) w (okX R4 w p4_22)) fun p4_22 =>
 postX R4 (fun p4_23 => allX R4 w fun V4 w => True -> kV P (Instr.fieldAt 105 v7 1) w (okX R4 w p4_23)) fun p4_23 =>
 postX R4 (fun p4_24 => allX R4 w fun V4 w => p4_23 (V4 23) w /\ True -> kV P (Instr.loadAt 3 (V4 23)) w (okX R4 w p4_24)) fun p4_24 =>
 postX R4 (fun p4_25 => allX R4 w fun V4 w => p4_20 (V4 20) w /\ p4_22 (V4 22) w /\ p4_24 (V4 24) w /\ True -> kN P (callN (.func (.func 25) #[] #[]) #[(V4 20), (V4 22), (V4 24)]) w (okX R4 w p4_25)) fun p4_25 =>
 allX R4 w fun V4 w => p4_15 (V4 15) w /\ p4_16 (V4 16) w /\ p4_17 (V4 17) w /\ p4_18 (V4 18) w /\ p4_19 (V4 19) w /\ p4_20 (V4 20) w /\ p4_21 (V4 21) w /\ p4_22 (V4 22) w /\ p4_23 (V4 23) w /\ p4_24 (V4 24) w /\ p4_25 (V4 25) w /\ True -> xDist V4 [] ->
 kN P (callN (.func (.func 44) #[] #[]) #[(V4 15), (V4 17), (V4 19), (V4 25)]) w fun v26 w =>
 J2 [v26] w) w) fun s2 w => ∀ _ : Nat -> Value,
 kV P (binV .add 3 (.tmp 11) (.const (.int .i64 1)) (s0.getD 1 undef) (.int .i64 1)) w fun v27 w =>
 R0 [(s2.getD 0 undef), v27] w)
 (joinL (fun J5 =>
 kV P (Instr.fieldAt 64 v2 2) w fun v28 w =>
 kV P (Instr.loadAt 4 v28) w fun v29 w =>
 condK v29
 (kV P (Instr.fieldAt 64 v2 1) w fun v31 w =>
 kV P (Instr.loadAt 3 v31) w fun v32 w =>
 kN P (callN (.func (.func 45) #[] #[]) #[(s0.getD 0 undef), v32]) w fun v33 w =>
 J5 [v33] w)
 (J5 [(s0.getD 0 undef)] w)) fun s5 w => ∀ _ : Nat -> Value,
 kV P (convert 55 2 (s5.getD 0 undef)) w fun v35 w =>
 K v35 w)) [(.int .u64 0), (.int .i64 0)] w
theorem F23_eq (t0 t1 : Value) : funE P ⟨[(5, 1011)], [(3, [5, 11])], [(9, [5]), (6, [5])]⟩ Tryz.f23 [t0, t1] w K = F23 P w K t0 t1 := by kernel_rfl
theorem F23_ok (t0 t1 : Value) (h : F23 Tryz.prog w K t0 t1) : callsK Tryz.prog 23 #[t0, t1] w K := calls_of_eq mixedX Tryz.func23 (F23_eq _ w K t0 t1) h
def F24 (t0 : Value) : Prop :=
 kV P (binV .eql 5 (.tmp 5) (.const (.int .u8 82)) t0 (.int .u8 82)) w fun v7 w =>
 condK v7
 (K (.tuple #[(.bool true), (.bool true), (.bool true)]) w)
 (joinL (fun J0 =>
 kV P (binV .eql 5 (.tmp 5) (.const (.int .u8 71)) t0 (.int .u8 71)) w fun v9 w =>
 condK v9
 (J0 [v9] w)
 (kV P (binV .eql 5 (.tmp 5) (.const (.int .u8 73)) t0 (.int .u8 73)) w fun v10 w =>
 condK v10
 (J0 [v10] w)
 (kV P (binV .eql 5 (.tmp 5) (.const (.int .u8 67)) t0 (.int .u8 67)) w fun v11 w =>
 condK v11
 (J0 [v11] w)
 (kV P (binV .eql 5 (.tmp 5) (.const (.int .u8 72)) t0 (.int .u8 72)) w fun v12 w =>
 J0 [v12] w)))) fun s0 w => ∀ _ : Nat -> Value,
 condK (s0.getD 0 undef)
 (K (.tuple #[(.bool true), (.bool true), (.bool false)]) w)
 (joinL (fun J2 =>
 kV P (binV .eql 5 (.tmp 5) (.const (.int .u8 83)) t0 (.int .u8 83)) w fun v14 w =>
 condK v14
 (J2 [v14] w)
 (kV P (binV .eql 5 (.tmp 5) (.const (.int .u8 66)) t0 (.int .u8 66)) w fun v15 w =>
 J2 [v15] w)) fun s2 w => ∀ _ : Nat -> Value,
 condK (s2.getD 0 undef)
 (K (.tuple #[(.bool false), (.bool true), (.bool true)]) w)
 (joinL (fun J4 =>
 kV P (binV .eql 5 (.tmp 5) (.const (.int .u8 85)) t0 (.int .u8 85)) w fun v17 w =>
 condK v17
 (J4 [v17] w)
 (kV P (binV .eql 5 (.tmp 5) (.const (.int .u8 74)) t0 (.int .u8 74)) w fun v18 w =>
 J4 [v18] w)) fun s4 w => ∀ _ : Nat -> Value,
 condK (s4.getD 0 undef)
 (K (.tuple #[(.bool true), (.bool false), (.bool false)]) w)
 (K (.tuple #[(.bool false), (.bool false), (.bool false)]) w))))
theorem F24_eq (t0 : Value) : funE P ⟨[], [], [(8, [8]), (11, [13]), (14, [16])]⟩ Tryz.f24 [t0] w K = F24 P w K t0 := by kernel_rfl
theorem F24_ok (t0 : Value) (h : F24 Tryz.prog w K t0) : callsK Tryz.prog 24 #[t0] w K := calls_of_eq mixedX Tryz.func24 (F24_eq _ w K t0) h
def F31 (t0 : Value) : Prop :=
 kV P (Instr.box 25 t0) w fun v1 w =>
 kV P (Instr.fieldAt 25 v1 0) w fun v14 w =>
 kV P (Instr.loadAt 3 v14) w fun v15 w =>
 kN P (callN (.func (.func 61) #[] #[]) #[v15]) w fun v16 w =>
 kV P (Instr.extract v16 0) w fun v17 w =>
 kV P (Instr.extract v16 1) w fun v18 w =>
 kV P (Instr.alloc 57 true (.tuple #[])) w fun v4 w =>
 kU P (Instr.storeAt 57 v4 v17) w fun _ w =>
 joinL (fun J0 =>
 drewK (fun w =>
 pV P (Op.unary .not v18) fun v20 =>
 gdP (yb v20) false (fun k => pV P (Instr.fieldAt 57 v4 1) k) fun v22 =>
 gdP (yb v20) false (fun k => pV P (Instr.fieldAt 25 v1 4) k) fun v25 =>
 (gdK (yb v20) false (fun k => kV P (Instr.loadAt 5 v22) w k) w fun v23 w =>
 (gdK (yb v20) false (fun k => kN P (callN (.func (.func 22) #[] #[]) #[v23]) w k) w fun v24 w =>
 gdK (yb v20) false (fun k => kV P (Instr.loadAt 2 v25) w k) w fun v26 w =>
 gdK (yb v20) false (fun k => kN P (callN (.func (.func 62) #[] #[]) #[v24, v26]) w k) w fun v27 w =>
 gdP (yb v20) false (fun k => pV P (Op.unary .not v27) k) fun v28 =>
 pN P (pickN v20 (.bool true) v28) fun v29 =>
 J0 [v29] w) /\
 (gdK (yb v20) false (fun k => kV P (Instr.loadAt 2 v25) w k) w fun v26_1 w =>
 gdK (yb v20) false (fun k => kN P (callN (.func (.func 22) #[] #[]) #[v23]) w k) w fun v24_1 w =>
 gdK (yb v20) false (fun k => kN P (callN (.func (.func 62) #[] #[]) #[v24_1, v26_1]) w k) w fun v27_1 w =>
 gdP (yb v20) false (fun k => pV P (Op.unary .not v27_1) k) fun v28_1 =>
 pN P (pickN v20 (.bool true) v28_1) fun v29_1 =>
 J0 [v29_1] w)) /\
 (gdK (yb v20) false (fun k => kV P (Instr.loadAt 2 v25) w k) w fun v26_2 w =>
 gdK (yb v20) false (fun k => kV P (Instr.loadAt 5 v22) w k) w fun v23_1 w =>
 gdK (yb v20) false (fun k => kN P (callN (.func (.func 22) #[] #[]) #[v23_1]) w k) w fun v24_2 w =>
 gdK (yb v20) false (fun k => kN P (callN (.func (.func 62) #[] #[]) #[v24_2, v26_2]) w k) w fun v27_2 w =>
 gdP (yb v20) false (fun k => pV P (Op.unary .not v27_2) k) fun v28_2 =>
 pN P (pickN v20 (.bool true) v28_2) fun v29_2 =>
 J0 [v29_2] w)) w) fun s0 w => ∀ _ : Nat -> Value,
 condK (s0.getD 0 undef)
 (K (.tuple #[(.int .u32 0), (.bool false)]) w)
 (kV P (Instr.loadAt 57 v4) w fun v31 w =>
 kN P (callN (.func (.func 21) #[] #[]) #[v31]) w fun v32 w =>
 kV P (Instr.extract v32 0) w fun v33 w =>
 kV P (Instr.extract v32 1) w fun v34 w =>
 kV P (Instr.fieldAt 57 v4 1) w fun v36 w =>
 kV P (Instr.loadAt 5 v36) w fun v37 w =>
 kN P (callN (.func (.func 24) #[] #[]) #[v37]) w fun v38 w =>
 kV P (Instr.extract v38 0) w fun v39 w =>
 kV P (Instr.extract v38 1) w fun v40 w =>
 kV P (Instr.extract v38 2) w fun v41 w =>
 joinL (fun J2 =>
 drewK (fun w =>
 pV P (Instr.fieldAt 57 v4 1) fun v42 =>
 pV P (Instr.fieldAt 25 v1 4) fun v46 =>
 (kV P (Instr.loadAt 5 v42) w fun v43 w =>
 (kN P (callN (.func (.func 22) #[] #[]) #[v43]) w fun v44 w =>
 kV P (Instr.loadAt 2 v46) w fun v47 w =>
 kN P (callN (.func (.func 63) #[] #[]) #[v44, v33, v47]) w fun v48 w =>
 J2 [v48] w) /\
 (kV P (Instr.loadAt 2 v46) w fun v47_1 w =>
 kN P (callN (.func (.func 22) #[] #[]) #[v43]) w fun v44_1 w =>
 kN P (callN (.func (.func 63) #[] #[]) #[v44_1, v33, v47_1]) w fun v48_1 w =>
 J2 [v48_1] w)) /\
 (kV P (Instr.loadAt 2 v46) w fun v47_2 w =>
 kV P (Instr.loadAt 5 v42) w fun v43_1 w =>
 kN P (callN (.func (.func 22) #[] #[]) #[v43_1]) w fun v44_2 w =>
 kN P (callN (.func (.func 63) #[] #[]) #[v44_2, v33, v47_2]) w fun v48_2 w =>
 J2 [v48_2] w)) w) fun s2 w => ∀ _ : Nat -> Value,
 kV P (Instr.fieldAt 25 v1 1) w fun v50 w =>
 kV P (Instr.loadAt 3 v50) w fun v51 w =>
 kV P (Instr.build 128 #[(0, v39), (1, (.int .i64 7)), (2, v51)]) w fun v52 w =>
 kV P (Instr.fieldAt 25 v1 2) w fun v54 w =>
 kV P (Instr.loadAt 3 v54) w fun v55 w =>
 kV P (Instr.build 128 #[(0, v40), (1, (.int .i64 15)), (2, v55)]) w fun v56 w =>
 kV P (Instr.fieldAt 25 v1 3) w fun v58 w =>
 kV P (Instr.loadAt 3 v58) w fun v59 w =>
 kV P (Instr.build 128 #[(0, v41), (1, (.int .i64 20)), (2, v59)]) w fun v60 w =>
 kV P (Instr.build 129 #[(0, v52), (1, v56), (2, v60)]) w fun v61 w =>
 loopT (fun R4 s4 w => ∀ _ : Nat -> Value,
 kV P (binV .lss 3 (.tmp 62) (.const (.int .i64 3)) (s4.getD 1 undef) (.int .i64 3)) w fun v63 w =>
 condK v63
 (joinL (fun J6 =>
 kV P (Instr.index 129 v61 (s4.getD 1 undef)) w fun v64 w =>
 kV P (Instr.alloc 128 true (.tuple #[])) w fun v12 w =>
 kU P (Instr.storeAt 128 v12 v64) w fun _ w =>
 kV P (Instr.fieldAt 128 v12 0) w fun v65 w =>
 kV P (Instr.loadAt 4 v65) w fun v66 w =>
 joinK (fun J8 : Value -> World -> Prop => gdK (yb v66) true (fun k => kV P (Instr.fieldAt 128 v12 2) w k) w fun v68 w =>
 gdK (yb v66) true (fun k => kV P (Instr.loadAt 3 v68) w k) w fun v69 w =>
 gdK (yb v66) true (fun k => kN P (callN (.func (.func 64) #[] #[]) #[v69, (.int .i64 5), (.bool false)]) w k) w fun v70 w =>
 gdK (yb v66) true (fun k => kV P (Op.unary .not v70) w k) w fun v71 w =>
 kN P (pickN v66 v71 (.bool false)) w fun v72_1 w =>
 J8 v72_1 w) fun v72 w =>
 condK v72
 (K (.tuple #[(.int .u32 0), (.bool false)]) w)
 (kV P (Instr.fieldAt 128 v12 0) w fun v73 w =>
 kV P (Instr.loadAt 4 v73) w fun v74 w =>
 condK v74
 (kV P (Instr.fieldAt 128 v12 1) w fun v76 w =>
 kV P (Instr.loadAt 3 v76) w fun v77 w =>
 kV P (Instr.fieldAt 128 v12 2) w fun v78 w =>
 kV P (Instr.loadAt 3 v78) w fun v79 w =>
 kV P (convert 3 55 v79) w fun v80 w =>
 kN P (callN (.func (.func 44) #[] #[]) #[(s4.getD 0 undef), v77, (.int .i64 5), v80]) w fun v81 w =>
 J6 [v81] w)
 (J6 [(s4.getD 0 undef)] w))) fun s6 w => ∀ _ : Nat -> Value,
 kV P (binV .add 3 (.tmp 62) (.const (.int .i64 1)) (s4.getD 1 undef) (.int .i64 1)) w fun v82 w =>
 R4 [(s6.getD 0 undef), v82] w)
 (kV P (convert 55 28 (s4.getD 0 undef)) w fun v84 w =>
 K (.tuple #[v84, (.bool true)]) w)) [(s2.getD 0 undef), (.int .i64 0)] w)
theorem F31_eq (t0 : Value) : funE P ⟨[(2, 999), (6, 999)], [(8, [6, 62])], [(3, [29]), (7, [6]), (14, [6])]⟩ Tryz.f31 [t0] w K = F31 P w K t0 := by kernel_rfl
theorem F31_ok (t0 : Value) (h : F31 Tryz.prog w K t0) : callsK Tryz.prog 31 #[t0] w K := calls_of_eq mixedX Tryz.func31 (F31_eq _ w K t0) h
def F43 (t0 t1 t2 t3 t4 : Value) : Prop :=
 drewK (fun w =>
 relX fun R0 =>
 postX R0 (fun p0_8 => allX R0 w fun V0 w => True -> kV P (Instr.loadAt 55 t3) w (okX R0 w p0_8)) fun p0_8 =>
 postX R0 (fun p0_9 => allX R0 w fun V0 w => True -> (okX R0 w p0_9) t0 w) fun p0_9 =>
 postX R0 (fun p0_10 => allX R0 w fun V0 w => True -> (okX R0 w p0_10) t1 w) fun p0_10 =>
 postX R0 (fun p0_11 => allX R0 w fun V0 w => True -> (okX R0 w p0_11) t2 w) fun p0_11 =>
 postX R0 (fun p0_12 => allX R0 w fun V0 w => p0_8 (V0 8) w /\ p0_9 (V0 9) w /\ p0_10 (V0 10) w /\ p0_11 (V0 11) w /\ True -> kN P (callN (.func (.func 44) #[] #[]) #[(V0 8), (V0 9), (V0 10), (V0 11)]) w (okX R0 w p0_12)) fun p0_12 =>
 postX R0 (fun p0_13 => allX R0 w fun V0 w => True -> kV P (Instr.loadAt 55 t4) w (okX R0 w p0_13)) fun p0_13 =>
 postX R0 (fun p0_14 => allX R0 w fun V0 w => True -> (okX R0 w p0_14) t0 w) fun p0_14 =>
 postX R0 (fun p0_15 => allX R0 w fun V0 w => True -> (okX R0 w p0_15) t1 w) fun p0_15 =>
 allX R0 w fun V0 w => p0_8 (V0 8) w /\ p0_9 (V0 9) w /\ p0_10 (V0 10) w /\ p0_11 (V0 11) w /\ p0_12 (V0 12) w /\ p0_13 (V0 13) w /\ p0_14 (V0 14) w /\ p0_15 (V0 15) w /\ True -> xDist V0 [] ->
 kN P (callN (.func (.func 44) #[] #[]) #[(V0 13), (V0 14), (V0 15), (.int .u64 18446744073709551615)]) w fun v16 w =>
 kU P (Instr.storeAt 55 t3 (V0 12)) w fun _ w =>
 kU P (Instr.storeAt 55 t4 v16) w fun _ w =>
 K (.tuple #[]) w) w
theorem F43_eq (t0 t1 t2 t3 t4 : Value) : funE P ⟨[(0, 1008)], [], []⟩ Tryz.f43 [t0, t1, t2, t3, t4] w K = F43 P w K t0 t1 t2 t3 t4 := by kernel_rfl
theorem F43_ok (t0 t1 t2 t3 t4 : Value) (h : F43 Tryz.prog w K t0 t1 t2 t3 t4) : callsK Tryz.prog 43 #[t0, t1, t2, t3, t4] w K := calls_of_eq mixedX Tryz.func43 (F43_eq _ w K t0 t1 t2 t3 t4) h
def F55 (t0 : Value) : Prop :=
 kN P (callN (.func (.func 20) #[] #[]) #[]) w fun v5 w =>
 loopT (fun R0 s0 w => ∀ _ : Nat -> Value,
 kV P (binV .lss 3 (.tmp 6) (.const (.int .i64 69)) (s0.getD 0 undef) (.int .i64 69)) w fun v7 w =>
 condK v7
 (kV P (Instr.index 58 v5 (s0.getD 0 undef)) w fun v9 w =>
 kV P (Instr.alloc 57 true (.tuple #[])) w fun v4 w =>
 kU P (Instr.storeAt 57 v4 v9) w fun _ w =>
 kV P (Instr.fieldAt 57 v4 0) w fun v10 w =>
 kV P (Instr.loadAt 9 v10) w fun v11 w =>
 kV P (binV .eql 9 (.tmp 11) (.tmp 12) v11 t0) w fun v13 w =>
 condK v13
 (kV P (binV .add 3 (.tmp 14) (.const (.int .i64 1)) (s0.getD 0 undef) (.int .i64 1)) w fun v15 w =>
 K v15 w)
 (kV P (binV .add 3 (.tmp 6) (.const (.int .i64 1)) (s0.getD 0 undef) (.int .i64 1)) w fun v16 w =>
 R0 [v16] w))
 (K (.int .i64 0) w)) [(.int .i64 0)] w
theorem F55_eq (t0 : Value) : funE P ⟨[], [(2, [6])], []⟩ Tryz.f55 [t0] w K = F55 P w K t0 := by kernel_rfl
theorem F55_ok (t0 : Value) (h : F55 Tryz.prog w K t0) : callsK Tryz.prog 55 #[t0] w K := calls_of_eq mixedX Tryz.func55 (F55_eq _ w K t0) h
def F56 (t0 : Value) : Prop :=
 kV P (binV .eql 5 (.tmp 3) (.const (.int .u8 82)) t0 (.int .u8 82)) w fun v5 w =>
 condK v5
 (K (.string ⟨#[100, 97, 98]⟩) w)
 (kV P (binV .eql 5 (.tmp 3) (.const (.int .u8 71)) t0 (.int .u8 71)) w fun v7 w =>
 condK v7
 (K (.string ⟨#[100, 97]⟩) w)
 (joinL (fun J0 =>
 kV P (binV .eql 5 (.tmp 3) (.const (.int .u8 73)) t0 (.int .u8 73)) w fun v9 w =>
 condK v9
 (J0 [v9] w)
 (kV P (binV .eql 5 (.tmp 3) (.const (.int .u8 67)) t0 (.int .u8 67)) w fun v10 w =>
 condK v10
 (J0 [v10] w)
 (kV P (binV .eql 5 (.tmp 3) (.const (.int .u8 72)) t0 (.int .u8 72)) w fun v11 w =>
 J0 [v11] w))) fun s0 w => ∀ _ : Nat -> Value,
 condK (s0.getD 0 undef)
 (K (.string ⟨#[100, 97, 109]⟩) w)
 (kV P (binV .eql 5 (.tmp 3) (.const (.int .u8 83)) t0 (.int .u8 83)) w fun v13 w =>
 condK v13
 (K (.string ⟨#[98, 97, 109]⟩) w)
 (kV P (binV .eql 5 (.tmp 3) (.const (.int .u8 66)) t0 (.int .u8 66)) w fun v15 w =>
 condK v15
 (K (.string ⟨#[97, 98, 109]⟩) w)
 (joinL (fun J2 =>
 kV P (binV .eql 5 (.tmp 3) (.const (.int .u8 85)) t0 (.int .u8 85)) w fun v17 w =>
 condK v17
 (J2 [v17] w)
 (kV P (binV .eql 5 (.tmp 3) (.const (.int .u8 74)) t0 (.int .u8 74)) w fun v18 w =>
 J2 [v18] w)) fun s2 w => ∀ _ : Nat -> Value,
 condK (s2.getD 0 undef)
 (K (.string ⟨#[100, 109]⟩) w)
 (K (.string ⟨#[]⟩) w))))))
theorem F56_eq (t0 : Value) : funE P ⟨[], [], [(9, [8]), (16, [16])]⟩ Tryz.f56 [t0] w K = F56 P w K t0 := by kernel_rfl
theorem F56_ok (t0 : Value) (h : F56 Tryz.prog w K t0) : callsK Tryz.prog 56 #[t0] w K := calls_of_eq mixedX Tryz.func56 (F56_eq _ w K t0) h
def F57 (t0 : Value) : Prop :=
 kN P (callN (.func (.func 61) #[] #[]) #[t0]) w fun v7 w =>
 kV P (Instr.extract v7 0) w fun v8 w =>
 kV P (Instr.extract v7 1) w fun v9 w =>
 kV P (Instr.alloc 57 true (.tuple #[])) w fun v3 w =>
 kU P (Instr.storeAt 57 v3 v8) w fun _ w =>
 kV P (Instr.fieldAt 57 v3 1) w fun v10 w =>
 kV P (Instr.loadAt 5 v10) w fun v11 w =>
 K v11 w
theorem F57_eq (t0 : Value) : funE P ⟨[], [], []⟩ Tryz.f57 [t0] w K = F57 P w K t0 := by kernel_rfl
theorem F57_ok (t0 : Value) (h : F57 Tryz.prog w K t0) : callsK Tryz.prog 57 #[t0] w K := calls_of_eq mixedX Tryz.func57 (F57_eq _ w K t0) h
def F61 (t0 : Value) : Prop :=
 kV P (Instr.alloc 57 true (.tuple #[])) w fun v2 w =>
 kV P (binV .lss 3 (.tmp 4) (.const (.int .i64 1)) t0 (.int .i64 1)) w fun v5 w =>
 joinK (fun J0 : Value -> World -> Prop => gdK (yb v5) false (fun k => k t0 w) w fun v7 w =>
 gdK (yb v5) false (fun k => kV P (binV .gtr 3 (.tmp 7) (.const (.int .i64 69)) v7 (.int .i64 69)) w k) w fun v8 w =>
 kN P (pickN v5 (.bool true) v8) w fun v9_1 w =>
 J0 v9_1 w) fun v9 w =>
 condK v9
 (kV P (Instr.build 57 #[]) w fun v10 w =>
 kU P (Instr.storeAt 57 v2 v10) w fun _ w =>
 retV P 57 v2 w fun r1 =>
 K (.tuple #[r1, (.bool false)]) w)
 (kN P (callN (.func (.func 20) #[] #[]) #[]) w fun v11 w =>
 kV P (binV .sub 3 (.tmp 12) (.const (.int .i64 1)) t0 (.int .i64 1)) w fun v13 w =>
 kV P (Instr.index 58 v11 v13) w fun v14 w =>
 kU P (Instr.storeAt 57 v2 v14) w fun _ w =>
 retV P 57 v2 w fun r2 =>
 K (.tuple #[r2, (.bool true)]) w)
theorem F61_eq (t0 : Value) : funE P ⟨[], [], []⟩ Tryz.f61 [t0] w K = F61 P w K t0 := by kernel_rfl
theorem F61_ok (t0 : Value) (h : F61 Tryz.prog w K t0) : callsK Tryz.prog 61 #[t0] w K := calls_of_eq mixedX Tryz.func61 (F61_eq _ w K t0) h
def F62 (t0 t1 : Value) : Prop :=
 kV P (Instr.box 64 t0) w fun v2 w =>
 kV P (Instr.fieldAt 64 v2 0) w fun v5 w =>
 kV P (Instr.loadAt 62 v5) w fun v6 w =>
 kV P (Builtin.len_ #[62] 3 #[v6]) w fun v7 w =>
 kV P (binV .eql 3 (.tmp 7) (.const (.int .i64 0)) v7 (.int .i64 0)) w fun v8 w =>
 joinK (fun J0 : Value -> World -> Prop => gdK (yb v8) false (fun k => k t1 w) w fun v10 w =>
 gdK (yb v8) false (fun k => kV P (Instr.fieldAt 64 v2 1) w k) w fun v11 w =>
 gdK (yb v8) false (fun k => kV P (Instr.loadAt 3 v11) w k) w fun v12 w =>
 gdK (yb v8) false (fun k => kV P (Instr.fieldAt 64 v2 2) w k) w fun v13 w =>
 gdK (yb v8) false (fun k => kV P (Instr.loadAt 4 v13) w k) w fun v14 w =>
 gdK (yb v8) false (fun k => kN P (callN (.func (.func 64) #[] #[]) #[v10, v12, v14]) w k) w fun v15 w =>
 gdK (yb v8) false (fun k => k v15 w) w fun v16 w =>
 gdK (yb v16) true (fun k => k t1 w) w fun v17 w =>
 gdK (yb v16) true (fun k => kV P (convert 2 55 v17) w k) w fun v18 w =>
 gdK (yb v16) true (fun k => kV P (Instr.fieldAt 64 v2 3) w k) w fun v19 w =>
 gdK (yb v16) true (fun k => kV P (Instr.loadAt 3 v19) w k) w fun v20 w =>
 gdK (yb v16) true (fun k => kN P (callN (.func (.func 47) #[] #[]) #[v20]) w k) w fun v21 w =>
 gdK (yb v16) true (fun k => kV P (binV .and 55 (.tmp 18) (.tmp 21) v18 v21) w k) w fun v22 w =>
 gdK (yb v16) true (fun k => kV P (binV .eql 55 (.tmp 22) (.const (.int .u64 0)) v22 (.int .u64 0)) w k) w fun v23 w =>
 gdK (yb v8) false (fun k => kN P (pickN v16 v23 (.bool false)) w k) w fun v24 w =>
 kN P (pickN v8 (.bool true) v24) w fun v25_1 w =>
 J0 v25_1 w) fun v25 w =>
 K v25 w
theorem F62_eq (t0 t1 : Value) : funE P ⟨[], [], []⟩ Tryz.f62 [t0, t1] w K = F62 P w K t0 t1 := by kernel_rfl
theorem F62_ok (t0 t1 : Value) (h : F62 Tryz.prog w K t0 t1) : callsK Tryz.prog 62 #[t0, t1] w K := calls_of_eq mixedX Tryz.func62 (F62_eq _ w K t0 t1) h
def F63 (t0 t1 t2 : Value) : Prop :=
 kV P (Instr.box 64 t0) w fun v3 w =>
 kV P (Instr.fieldAt 64 v3 0) w fun v9 w =>
 kV P (Instr.loadAt 62 v9) w fun v10 w =>
 kV P (Builtin.len_ #[62] 3 #[v10]) w fun v11 w =>
 loopT (fun R0 s0 w => ∀ _ : Nat -> Value,
 kV P (binV .lss 3 (.tmp 12) (.tmp 11) (s0.getD 1 undef) v11) w fun v13 w =>
 condK v13
 (joinL (fun J2 =>
 kV P (Instr.indexAt 62 v10 (s0.getD 1 undef)) w fun v14 w =>
 kV P (Instr.loadAt 105 v14) w fun v15 w =>
 kV P (Instr.alloc 105 true (.tuple #[])) w fun v8 w =>
 kU P (Instr.storeAt 105 v8 v15) w fun _ w =>
 drewK (fun w =>
 relX fun R4 =>
 postX R4 (fun p4_16 => allX R4 w fun V4 w => True -> (okX R4 w p4_16) (s0.getD 0 undef) w) fun p4_16 =>
 postX R4 (fun p4_17 => allX R4 w fun V4 w => True -> kV P (Instr.fieldAt 105 v8 2) w (okX R4 w p4_17)) fun p4_17 =>
 postX R4 (fun p4_18 => allX R4 w fun V4 w => p4_17 (V4 17) w /\ True -> kV P (Instr.loadAt 3 (V4 17)) w (okX R4 w p4_18)) fun p4_18 =>
 postX R4 (fun p4_19 => allX R4 w fun V4 w => True -> kV P (Instr.fieldAt 105 v8 1) w (okX R4 w p4_19)) fun p4_19 =>
 postX R4 (fun p4_20 => allX R4 w fun V4 w => p4_19 (V4 19) w /\ True -> kV P (Instr.loadAt 3 (V4 19)) w (okX R4 w p4_20)) fun p4_20 =>
 postX R4 (fun p4_21 => allX R4 w fun V4 w => True -> (okX R4 w p4_21) t2 w) fun p4_21 =>
 postX R4 (fun p4_22 => allX R4 w fun V4 w => p4_21 (V4 21) w /\ True -> kV P (convert 2 55 (V4 21)) w (okX R4 w p4_22)) fun p4_22 =>
 postX R4 (fun p4_23 => allX R4 w fun V4 w => True -> kV P (Instr.fieldAt 105 v8 0) w (okX R4 w p4_23)) fun p4_23 =>
 postX R4 (fun p4_24 => allX R4 w fun V4 w => p4_23 (V4 23) w /\ True -> kV P (Instr.loadAt 3 (V4 23)) w (okX R4 w p4_24)) fun p4_24 =>
 postX R4 (fun p4_25 => allX R4 w fun V4 w => True -> kV P (Instr.fieldAt 105 v8 1) w (okX R4 w p4_25)) fun p4_25 =>
 postX R4 (fun p4_26 => allX R4 w fun V4 w => p4_25 (V4 25) w /\ True -> kV P (Instr.loadAt 3 (V4 25)) w (okX R4 w p4_26)) fun p4_26 =>
 postX R4 (fun p4_27 => allX R4 w fun V4 w => p4_22 (V4 22) w /\ p4_24 (V4 24) w /\ p4_26 (V4 26) w /\ True -> kN P (callN (.func (.func 25) #[] #[]) #[(V4 22), (V4 24), (V4 26)]) w (okX R4 w p4_27)) fun p4_27 =>
 allX R4 w fun V4 w => p4_16 (V4 16) w /\ p4_17 (V4 17) w /\ p4_18 (V4 18) w /\ p4_19 (V4 19) w /\ p4_20 (V4 20) w /\ p4_21 (V4 21) w /\ p4_22 (V4 22) w /\ p4_23 (V4 23) w /\ p4_24 (V4 24) w /\ p4_25 (V4 25) w /\ p4_26 (V4 26) w /\ p4_27 (V4 27) w /\ True -> xDist V4 [] ->
 kN P (callN (.func (.func 44) #[] #[]) #[(V4 16), (V4 18), (V4 20), (V4 27)]) w fun v28 w =>
 J2 [v28] w) w) fun s2 w => ∀ _ : Nat -> Value,
 kV P (binV .add 3 (.tmp 12) (.const (.int .i64 1)) (s0.getD 1 undef) (.int .i64 1)) w fun v29 w =>
 R0 [(s2.getD 0 undef), v29] w)
 (K (s0.getD 0 undef) w)) [t1, (.int .i64 0)] w
theorem F63_eq (t0 t1 t2 : Value) : funE P ⟨[(4, 1012)], [(2, [1, 12])], [(5, [1])]⟩ Tryz.f63 [t0, t1, t2] w K = F63 P w K t0 t1 t2 := by kernel_rfl
theorem F63_ok (t0 t1 t2 : Value) (h : F63 Tryz.prog w K t0 t1 t2) : callsK Tryz.prog 63 #[t0, t1, t2] w K := calls_of_eq mixedX Tryz.func63 (F63_eq _ w K t0 t1 t2) h
def F66 (t0 : Value) : Prop :=
 kN P (callN (.func (.func 61) #[] #[]) #[t0]) w fun v7 w =>
 kV P (Instr.extract v7 0) w fun v8 w =>
 kV P (Instr.extract v7 1) w fun v9 w =>
 kV P (Instr.alloc 57 true (.tuple #[])) w fun v3 w =>
 kU P (Instr.storeAt 57 v3 v8) w fun _ w =>
 kV P (Instr.fieldAt 57 v3 0) w fun v10 w =>
 kV P (Instr.loadAt 9 v10) w fun v11 w =>
 K v11 w
theorem F66_eq (t0 : Value) : funE P ⟨[], [], []⟩ Tryz.f66 [t0] w K = F66 P w K t0 := by kernel_rfl
theorem F66_ok (t0 : Value) (h : F66 Tryz.prog w K t0) : callsK Tryz.prog 66 #[t0] w K := calls_of_eq mixedX Tryz.func66 (F66_eq _ w K t0) h
end
open Go.Fx
set_option maxRecDepth 100000
set_option maxHeartbeats 4000000
theorem RX_call_6 : type_of% (Fx.kN_callf Tryz.call6) := Fx.kN_callf Tryz.call6
theorem RX_cv_28_55 : type_of% (Fx.run_convert_int Tryz.underlying28 Tryz.underlying55) := Fx.run_convert_int Tryz.underlying28 Tryz.underlying55
theorem RX_call_20 : type_of% (Fx.kN_callf Tryz.call20) := Fx.kN_callf Tryz.call20
theorem RX_al_57 : type_of% (Fx.run_alloc Tryz.zeroValue57) := Fx.run_alloc Tryz.zeroValue57
theorem RX_st_57 : type_of% (Fx.run_storeN' Tryz.sizeOf57) := Fx.run_storeN' Tryz.sizeOf57
theorem RX_ld_57 : type_of% (Fx.run_loadN' Tryz.isAgg57 Tryz.sizeOf57) := Fx.run_loadN' Tryz.isAgg57 Tryz.sizeOf57
theorem RX_call_21 : type_of% (Fx.kN_callf Tryz.call21) := Fx.kN_callf Tryz.call21
theorem RX_fld_57_1 : ∀ (b o : Nat) (w : World), (Instr.fieldAt 57 (.pointer (some ⟨b, o, none⟩)) 1).run Tryz.prog w = .ok (.pointer (some ⟨b, o + 1, none⟩)) w := Fx.run_fieldO 1 1 1 Tryz.underlying57 rfl Tryz.sizeOf5 (by decide)
theorem RX_call_22 : type_of% (Fx.kN_callf Tryz.call22) := Fx.kN_callf Tryz.call22
theorem RX_call_23 : type_of% (Fx.kN_callf Tryz.call23) := Fx.kN_callf Tryz.call23
theorem RX_bl_25_0_4 : ∀ (a0x0 : Int) (a4x0 : Int) (w : World), (Instr.build 25 [(0, .int .i64 a0x0), (4, .int .i64 a4x0)].toArray).run Tryz.prog w = .ok (.agg [.int .i64 a0x0, (.int .i64 0), (.int .i64 0), (.int .i64 0), .int .i64 a4x0].toArray) w := fun a0x0 a4x0 w => run_build w 25 _ _ (by kernel_rfl)
theorem RX_call_24 : type_of% (Fx.kN_callf Tryz.call24) := Fx.kN_callf Tryz.call24
theorem RX_cv_55_3 : type_of% (Fx.run_convert_int Tryz.underlying55 Tryz.underlying3) := Fx.run_convert_int Tryz.underlying55 Tryz.underlying3
theorem RX_al_58 : type_of% (Fx.run_alloc Tryz.zeroValue58) := Fx.run_alloc Tryz.zeroValue58
theorem RX_bl_57_0_1_2_3_4 : ∀ (a0x0 : ByteArray) (a1x0 : Int) (a2x0 : Int) (a3x0 : Int) (a4x0 : Int) (w : World), (Instr.build 57 [(0, .string a0x0), (1, .int .u8 a1x0), (2, .int .u64 a2x0), (3, .int .u64 a3x0), (4, .int .u64 a4x0)].toArray).run Tryz.prog w = .ok (.agg [.string a0x0, .int .u8 a1x0, .int .u64 a2x0, .int .u64 a3x0, .int .u64 a4x0].toArray) w := fun a0x0 a1x0 a2x0 a3x0 a4x0 w => run_build w 57 _ _ (by kernel_rfl)
theorem RX_st_58 : type_of% (Fx.run_storeN' Tryz.sizeOf58) := Fx.run_storeN' Tryz.sizeOf58
theorem RX_ld_58 : type_of% (Fx.run_loadN' Tryz.isAgg58 Tryz.sizeOf58) := Fx.run_loadN' Tryz.isAgg58 Tryz.sizeOf58
theorem RX_al_55 : type_of% (Fx.run_alloc Tryz.zeroValue55) := Fx.run_alloc Tryz.zeroValue55
theorem RX_call_43 : type_of% (Fx.kN_callf Tryz.call43) := Fx.kN_callf Tryz.call43
theorem RX_fld_57_2 : ∀ (b o : Nat) (w : World), (Instr.fieldAt 57 (.pointer (some ⟨b, o, none⟩)) 2).run Tryz.prog w = .ok (.pointer (some ⟨b, o + 2, none⟩)) w := Fx.run_fieldO 2 2 1 Tryz.underlying57 rfl Tryz.sizeOf55 (by decide)
theorem RX_ld_55 : type_of% (Fx.run_load1' Tryz.isAgg55) := Fx.run_load1' Tryz.isAgg55
theorem RX_st_55 : type_of% (Fx.run_store1' Tryz.sizeOf55) := Fx.run_store1' Tryz.sizeOf55
theorem RX_fld_57_4 : ∀ (b o : Nat) (w : World), (Instr.fieldAt 57 (.pointer (some ⟨b, o, none⟩)) 4).run Tryz.prog w = .ok (.pointer (some ⟨b, o + 4, none⟩)) w := Fx.run_fieldO 4 4 1 Tryz.underlying57 rfl Tryz.sizeOf55 (by decide)
theorem RX_fld_57_3 : ∀ (b o : Nat) (w : World), (Instr.fieldAt 57 (.pointer (some ⟨b, o, none⟩)) 3).run Tryz.prog w = .ok (.pointer (some ⟨b, o + 3, none⟩)) w := Fx.run_fieldO 3 3 1 Tryz.underlying57 rfl Tryz.sizeOf55 (by decide)
theorem RX_al_64 : type_of% (Fx.run_alloc Tryz.zeroValue64) := Fx.run_alloc Tryz.zeroValue64
theorem RX_bl_105_0_1_2 : ∀ (a0x0 : Int) (a1x0 : Int) (a2x0 : Int) (w : World), (Instr.build 105 [(0, .int .i64 a0x0), (1, .int .i64 a1x0), (2, .int .i64 a2x0)].toArray).run Tryz.prog w = .ok (.agg [.int .i64 a0x0, .int .i64 a1x0, .int .i64 a2x0].toArray) w := fun a0x0 a1x0 a2x0 w => run_build w 105 _ _ (by kernel_rfl)
theorem RX_bs_62_1 : ∀ (vs : List Value) (w : World), vs.length = 3 -> (Instr.buildSlice 62 1 [(0, .agg vs.toArray)].toArray).run Tryz.prog w = .ok (.slice (some ⟨w.heap.size, 0, none⟩) 1 1) (w.alloc (.cells vs.toArray 105)) := fun vs w h => Fx.run_bs1 Tryz.underlying62 (by kernel_rfl) (by decide) vs h w
theorem RX_bl_64_0_1_2_3 : ∀ (a0x0 : Option Addr) (a0x0n a0x0c : Nat) (a1x0 : Int) (a2x0 : Bool) (a3x0 : Int) (w : World), (Instr.build 64 [(0, .slice a0x0 a0x0n a0x0c), (1, .int .i64 a1x0), (2, .bool a2x0), (3, .int .i64 a3x0)].toArray).run Tryz.prog w = .ok (.agg [.slice a0x0 a0x0n a0x0c, .int .i64 a1x0, .bool a2x0, .int .i64 a3x0].toArray) w := fun a0x0 a0x0n a0x0c a1x0 a2x0 a3x0 w => run_build w 64 _ _ (by kernel_rfl)
theorem RX_st_64 : type_of% (Fx.run_storeN' Tryz.sizeOf64) := Fx.run_storeN' Tryz.sizeOf64
theorem RX_bl_64_ : ∀  (w : World), (Instr.build 64 [].toArray).run Tryz.prog w = .ok (.agg [(.slice none 0 0), (.int .i64 0), (.bool false), (.int .i64 0)].toArray) w := fun w => run_build w 64 _ _ (by kernel_rfl)
theorem RX_ld_64 : type_of% (Fx.run_loadN' Tryz.isAgg64 Tryz.sizeOf64) := Fx.run_loadN' Tryz.isAgg64 Tryz.sizeOf64
theorem RX_fld_64_0 : ∀ (b o : Nat) (w : World), (Instr.fieldAt 64 (.pointer (some ⟨b, o, none⟩)) 0).run Tryz.prog w = .ok (.pointer (some ⟨b, o, none⟩)) w := Fx.run_fieldO 0 0 1 Tryz.underlying64 rfl Tryz.sizeOf62 (by decide)
theorem RX_ld_62 : type_of% (Fx.run_load1' Tryz.isAgg62) := Fx.run_load1' Tryz.isAgg62
theorem RX_len_62 : ∀ (a : Option Addr) (len cap : Nat) (w : World), (Builtin.len_ #[62] 3 #[.slice a len cap]).run Tryz.prog w = .ok (.int .i64 len) w := Fx.run_len_slice Tryz.underlying62
theorem RX_ix_62 : type_of% (Fx.run_index_slice Tryz.underlying62 Tryz.sizeOf105) := Fx.run_index_slice Tryz.underlying62 Tryz.sizeOf105
theorem RX_ld_105 : type_of% (Fx.run_loadN' Tryz.isAgg105 Tryz.sizeOf105) := Fx.run_loadN' Tryz.isAgg105 Tryz.sizeOf105
theorem RX_al_105 : type_of% (Fx.run_alloc Tryz.zeroValue105) := Fx.run_alloc Tryz.zeroValue105
theorem RX_st_105 : type_of% (Fx.run_storeN' Tryz.sizeOf105) := Fx.run_storeN' Tryz.sizeOf105
theorem RX_fld_105_0 : ∀ (b o : Nat) (w : World), (Instr.fieldAt 105 (.pointer (some ⟨b, o, none⟩)) 0).run Tryz.prog w = .ok (.pointer (some ⟨b, o, none⟩)) w := Fx.run_fieldO 0 0 1 Tryz.underlying105 rfl Tryz.sizeOf3 (by decide)
theorem RX_fld_105_1 : ∀ (b o : Nat) (w : World), (Instr.fieldAt 105 (.pointer (some ⟨b, o, none⟩)) 1).run Tryz.prog w = .ok (.pointer (some ⟨b, o + 1, none⟩)) w := Fx.run_fieldO 1 1 1 Tryz.underlying105 rfl Tryz.sizeOf3 (by decide)
theorem RX_fld_105_2 : ∀ (b o : Nat) (w : World), (Instr.fieldAt 105 (.pointer (some ⟨b, o, none⟩)) 2).run Tryz.prog w = .ok (.pointer (some ⟨b, o + 2, none⟩)) w := Fx.run_fieldO 2 2 1 Tryz.underlying105 rfl Tryz.sizeOf3 (by decide)
theorem RX_fld_64_2 : ∀ (b o : Nat) (w : World), (Instr.fieldAt 64 (.pointer (some ⟨b, o, none⟩)) 2).run Tryz.prog w = .ok (.pointer (some ⟨b, o + 2, none⟩)) w := Fx.run_fieldO 2 2 1 Tryz.underlying64 rfl Tryz.sizeOf4 (by decide)
theorem RX_fld_64_1 : ∀ (b o : Nat) (w : World), (Instr.fieldAt 64 (.pointer (some ⟨b, o, none⟩)) 1).run Tryz.prog w = .ok (.pointer (some ⟨b, o + 1, none⟩)) w := Fx.run_fieldO 1 1 1 Tryz.underlying64 rfl Tryz.sizeOf3 (by decide)
theorem RX_scall_45 : type_of% (Fx.sN_callf Tryz.call45) := Fx.sN_callf Tryz.call45
theorem RX_call_61 : type_of% (Fx.kN_callf Tryz.call61) := Fx.kN_callf Tryz.call61
theorem RX_call_62 : type_of% (Fx.kN_callf Tryz.call62) := Fx.kN_callf Tryz.call62
theorem RX_call_63 : type_of% (Fx.kN_callf Tryz.call63) := Fx.kN_callf Tryz.call63
theorem RX_bl_128_0_1_2 : ∀ (a0x0 : Bool) (a1x0 : Int) (a2x0 : Int) (w : World), (Instr.build 128 [(0, .bool a0x0), (1, .int .i64 a1x0), (2, .int .i64 a2x0)].toArray).run Tryz.prog w = .ok (.agg [.bool a0x0, .int .i64 a1x0, .int .i64 a2x0].toArray) w := fun a0x0 a1x0 a2x0 w => run_build w 128 _ _ (by kernel_rfl)
theorem RX_al_128 : type_of% (Fx.run_alloc Tryz.zeroValue128) := Fx.run_alloc Tryz.zeroValue128
theorem RX_st_128 : type_of% (Fx.run_storeN' Tryz.sizeOf128) := Fx.run_storeN' Tryz.sizeOf128
theorem RX_fld_128_0 : ∀ (b o : Nat) (w : World), (Instr.fieldAt 128 (.pointer (some ⟨b, o, none⟩)) 0).run Tryz.prog w = .ok (.pointer (some ⟨b, o, none⟩)) w := Fx.run_fieldO 0 0 1 Tryz.underlying128 rfl Tryz.sizeOf4 (by decide)
theorem RX_fld_128_2 : ∀ (b o : Nat) (w : World), (Instr.fieldAt 128 (.pointer (some ⟨b, o, none⟩)) 2).run Tryz.prog w = .ok (.pointer (some ⟨b, o + 2, none⟩)) w := Fx.run_fieldO 2 2 1 Tryz.underlying128 rfl Tryz.sizeOf3 (by decide)
theorem RX_scall_64 : type_of% (Fx.sN_callf Tryz.call64) := Fx.sN_callf Tryz.call64
theorem RX_fld_128_1 : ∀ (b o : Nat) (w : World), (Instr.fieldAt 128 (.pointer (some ⟨b, o, none⟩)) 1).run Tryz.prog w = .ok (.pointer (some ⟨b, o + 1, none⟩)) w := Fx.run_fieldO 1 1 1 Tryz.underlying128 rfl Tryz.sizeOf3 (by decide)
theorem RX_cv_3_55 : type_of% (Fx.run_convert_int Tryz.underlying3 Tryz.underlying55) := Fx.run_convert_int Tryz.underlying3 Tryz.underlying55
theorem RX_cv_55_28 : type_of% (Fx.run_convert_int Tryz.underlying55 Tryz.underlying28) := Fx.run_convert_int Tryz.underlying55 Tryz.underlying28
theorem RX_fld_57_0 : ∀ (b o : Nat) (w : World), (Instr.fieldAt 57 (.pointer (some ⟨b, o, none⟩)) 0).run Tryz.prog w = .ok (.pointer (some ⟨b, o, none⟩)) w := Fx.run_fieldO 0 0 1 Tryz.underlying57 rfl Tryz.sizeOf9 (by decide)
theorem RX_bl_57_ : ∀  (w : World), (Instr.build 57 [].toArray).run Tryz.prog w = .ok (.agg [(.string ⟨#[]⟩), (.int .u8 0), (.int .u64 0), (.int .u64 0), (.int .u64 0)].toArray) w := fun w => run_build w 57 _ _ (by kernel_rfl)
theorem RX_fld_64_3 : ∀ (b o : Nat) (w : World), (Instr.fieldAt 64 (.pointer (some ⟨b, o, none⟩)) 3).run Tryz.prog w = .ok (.pointer (some ⟨b, o + 3, none⟩)) w := Fx.run_fieldO 3 3 1 Tryz.underlying64 rfl Tryz.sizeOf3 (by decide)
theorem RX_scall_47 : type_of% (Fx.sN_callf Tryz.call47) := Fx.sN_callf Tryz.call47
theorem rulesX : type_of% (And.intro @RX_call_6 (And.intro @RA_al_25 (And.intro @RX_cv_28_55 (And.intro @RX_call_20 (And.intro @RX_al_57 (And.intro @RX_st_57 (And.intro @RX_ld_57 (And.intro @RX_call_21 (And.intro @RX_fld_57_1 (And.intro @RA_ld_5 (And.intro @RX_call_22 (And.intro @RX_call_23 (And.intro @RX_bl_25_0_4 (And.intro @RA_st_25 (And.intro @RX_call_24 (And.intro @RC_call_25 (And.intro @RX_cv_55_3 (And.intro @RA_fld_25_1 (And.intro @RA_st_3 (And.intro @RA_fld_25_2 (And.intro @RA_fld_25_3 (And.intro @RA_ld_25 (And.intro @RA_bl_25_ (And.intro @RX_al_58 (And.intro @RX_bl_57_0_1_2_3_4 (And.intro @RX_st_58 (And.intro @RX_ld_58 (And.intro @RX_al_55 (And.intro @RX_call_43 (And.intro @RX_fld_57_2 (And.intro @RX_ld_55 (And.intro @RX_st_55 (And.intro @RX_fld_57_4 (And.intro @RX_fld_57_3 (And.intro @RX_al_64 (And.intro @RX_bl_105_0_1_2 (And.intro @RX_bs_62_1 (And.intro @RX_bl_64_0_1_2_3 (And.intro @RX_st_64 (And.intro @RX_bl_64_ (And.intro @RX_ld_64 (And.intro @RX_fld_64_0 (And.intro @RX_ld_62 (And.intro @RX_len_62 (And.intro @RX_ix_62 (And.intro @RX_ld_105 (And.intro @RX_al_105 (And.intro @RX_st_105 (And.intro @RX_fld_105_0 (And.intro @RA_ld_3 (And.intro @RX_fld_105_1 (And.intro @RX_fld_105_2 (And.intro @RC_call_44 (And.intro @RX_fld_64_2 (And.intro @RA_ld_4 (And.intro @RX_fld_64_1 (And.intro @RC_call_45 (And.intro @RX_scall_45 (And.intro @RC_cv_55_2 (And.intro @RA_call_31 (And.intro @RA_fld_25_0 (And.intro @RX_call_61 (And.intro @RA_fld_25_4 (And.intro @RA_ld_2 (And.intro @RX_call_62 (And.intro @RX_call_63 (And.intro @RX_bl_128_0_1_2 (And.intro @RX_al_128 (And.intro @RX_st_128 (And.intro @RX_fld_128_0 (And.intro @RX_fld_128_2 (And.intro @RC_call_64 (And.intro @RX_scall_64 (And.intro @RX_fld_128_1 (And.intro @RX_cv_3_55 (And.intro @RX_cv_55_28 (And.intro @RA_call_55 (And.intro @RX_fld_57_0 (And.intro @RA_ld_9 (And.intro @RA_call_56 (And.intro @RA_call_57 (And.intro @RX_bl_57_ (And.intro @RA_cv_2_55 (And.intro @RX_fld_64_3 (And.intro @RC_call_47 (And.intro @RX_scall_47 (@RA_call_66))))))))))))))))))))))))))))))))))))))))))))))))))))))))))))))))))))))))))))))))))))))) := ⟨@RX_call_6, @RA_al_25, @RX_cv_28_55, @RX_call_20, @RX_al_57, @RX_st_57, @RX_ld_57, @RX_call_21, @RX_fld_57_1, @RA_ld_5, @RX_call_22, @RX_call_23, @RX_bl_25_0_4, @RA_st_25, @RX_call_24, @RC_call_25, @RX_cv_55_3, @RA_fld_25_1, @RA_st_3, @RA_fld_25_2, @RA_fld_25_3, @RA_ld_25, @RA_bl_25_, @RX_al_58, @RX_bl_57_0_1_2_3_4, @RX_st_58, @RX_ld_58, @RX_al_55, @RX_call_43, @RX_fld_57_2, @RX_ld_55, @RX_st_55, @RX_fld_57_4, @RX_fld_57_3, @RX_al_64, @RX_bl_105_0_1_2, @RX_bs_62_1, @RX_bl_64_0_1_2_3, @RX_st_64, @RX_bl_64_, @RX_ld_64, @RX_fld_64_0, @RX_ld_62, @RX_len_62, @RX_ix_62, @RX_ld_105, @RX_al_105, @RX_st_105, @RX_fld_105_0, @RA_ld_3, @RX_fld_105_1, @RX_fld_105_2, @RC_call_44, @RX_fld_64_2, @RA_ld_4, @RX_fld_64_1, @RC_call_45, @RX_scall_45, @RC_cv_55_2, @RA_call_31, @RA_fld_25_0, @RX_call_61, @RA_fld_25_4, @RA_ld_2, @RX_call_62, @RX_call_63, @RX_bl_128_0_1_2, @RX_al_128, @RX_st_128, @RX_fld_128_0, @RX_fld_128_2, @RC_call_64, @RX_scall_64, @RX_fld_128_1, @RX_cv_3_55, @RX_cv_55_28, @RA_call_55, @RX_fld_57_0, @RA_ld_9, @RA_call_56, @RA_call_57, @RX_bl_57_, @RA_cv_2_55, @RX_fld_64_3, @RC_call_47, @RX_scall_47, @RA_call_66⟩
open Go.Fx
set_option maxRecDepth 100000
theorem mixedL : Tryz.prog.follows .mixedOrders = true := by kernel_rfl
section
variable (P : Program) (w : World) (K : Value -> World -> Prop)
def F3 (t0 : Value) : Prop :=
 joinL (fun J0 =>
 kV P (Builtin.len_ #[22] 3 #[t0]) w fun v13 w =>
 kV P (binV .gtr 3 (.tmp 13) (.const (.int .i64 60)) v13 (.int .i64 60)) w fun v14 w =>
 condK v14
 (kV P (Instr.sliceAt 22 t0 none (some (.int .i64 60)) none) w fun v16 w =>
 J0 [v16] w)
 (J0 [t0] w)) fun s0 w => ∀ _ : Nat -> Value,
 kN P (callN (.func (.func 4) #[] #[]) #[(s0.getD 0 undef)]) w fun v18 w =>
 kN P (callN (.func (.func 5) #[] #[]) #[(s0.getD 0 undef)]) w fun v21 w =>
 kV P (binV .neq 9 (.tmp 19) (.tmp 21) v18 v21) w fun v22 w =>
 condK v22
 (K (.bool false) w)
 (loopT (fun R2 s2 w => ∀ _ : Nat -> Value,
 kV P (Builtin.len_ #[22] 3 #[(s0.getD 0 undef)]) w fun v25 w =>
 kV P (binV .lss 3 (.tmp 23) (.tmp 25) (s2.getD 1 undef) v25) w fun v26 w =>
 condK v26
 (kV P (Instr.indexAt 22 (s0.getD 0 undef) (s2.getD 1 undef)) w fun v32 w =>
 kV P (Instr.loadAt 28 v32) w fun v33 w =>
 kN P (callN (.func (.func 6) #[] #[]) #[v33]) w fun v34 w =>
 kV P (Instr.extract v34 0) w fun v35 w =>
 kV P (Instr.extract v34 1) w fun v36 w =>
 kV P (Instr.alloc 25 true (.tuple #[])) w fun v6 w =>
 kU P (Instr.storeAt 25 v6 v35) w fun _ w =>
 joinK (fun J4 : Value -> World -> Prop => gdK (yb (s2.getD 0 undef)) true (fun k => k v36 w) w fun v39 w =>
 kN P (pickN (s2.getD 0 undef) v39 (.bool false)) w fun v40_1 w =>
 J4 v40_1 w) fun v40 w =>
 kV P (binV .add 3 (.tmp 27) (.const (.int .i64 1)) (s2.getD 1 undef) (.int .i64 1)) w fun v28 w =>
 R2 [v40, v28] w)
 (kN P (callN (.func (.func 7) #[] #[]) #[v18]) w fun v43 w =>
 kV P (Instr.extract v43 0) w fun v44 w =>
 kV P (Instr.extract v43 1) w fun v45 w =>
 kV P (Instr.extract v43 2) w fun v46 w =>
 joinK (fun J5 : Value -> World -> Prop => gdK (yb (s2.getD 0 undef)) true (fun k => k v46 w) w fun v49 w =>
 gdK (yb (s2.getD 0 undef)) true (fun k => kV P (binV .neq 29 (.tmp 49) (.const (.int .i64 0)) v49 (.int .i64 0)) w k) w fun v50 w =>
 gdK (yb (s2.getD 0 undef)) true (fun k => k v50 w) w fun v51 w =>
 gdK (yb v51) false (fun k => k v45 w) w fun v52 w =>
 gdK (yb v51) false (fun k => kV P (binV .neq 3 (.tmp 52) (.const (.int .i64 0)) v52 (.int .i64 0)) w k) w fun v53 w =>
 gdK (yb (s2.getD 0 undef)) true (fun k => kN P (pickN v51 (.bool true) v53) w k) w fun v54 w =>
 gdK (yb (s2.getD 0 undef)) true (fun k => k v54 w) w fun v55 w =>
 gdK (yb v55) false (fun k => k v44 w) w fun v56 w =>
 gdK (yb v55) false (fun k => kV P (Builtin.len_ #[22] 3 #[v56]) w k) w fun v57 w =>
 gdK (yb v55) false (fun k => k (s0.getD 0 undef) w) w fun v58 w =>
 gdK (yb v55) false (fun k => kV P (Builtin.len_ #[22] 3 #[v58]) w k) w fun v59 w =>
 gdK (yb v55) false (fun k => kV P (binV .neq 3 (.tmp 57) (.tmp 59) v57 v59) w k) w fun v60 w =>
 gdK (yb (s2.getD 0 undef)) true (fun k => kN P (pickN v55 (.bool true) v60) w k) w fun v61 w =>
 kN P (pickN (s2.getD 0 undef) v61 (.bool false)) w fun v62_1 w =>
 J5 v62_1 w) fun v62 w =>
 condK v62
 (K (.bool false) w)
 (loopT (fun R6 s6 w => ∀ _ : Nat -> Value,
 joinK (fun J8 : Value -> World -> Prop => gdK (yb (s2.getD 0 undef)) true (fun k => k (s6.getD 0 undef) w) w fun v65 w =>
 gdK (yb (s2.getD 0 undef)) true (fun k => k (s0.getD 0 undef) w) w fun v66 w =>
 gdK (yb (s2.getD 0 undef)) true (fun k => kV P (Builtin.len_ #[22] 3 #[v66]) w k) w fun v67 w =>
 gdK (yb (s2.getD 0 undef)) true (fun k => kV P (binV .lss 3 (.tmp 65) (.tmp 67) v65 v67) w k) w fun v68 w =>
 kN P (pickN (s2.getD 0 undef) v68 (.bool false)) w fun v69_1 w =>
 J8 v69_1 w) fun v69 w =>
 joinK (fun J9 : Value -> World -> Prop => gdK (yb v69) true (fun k => k (s6.getD 0 undef) w) w fun v71 w =>
 gdK (yb v69) true (fun k => k v44 w) w fun v72 w =>
 gdK (yb v69) true (fun k => kV P (Builtin.len_ #[22] 3 #[v72]) w k) w fun v73 w =>
 gdK (yb v69) true (fun k => kV P (binV .lss 3 (.tmp 71) (.tmp 73) v71 v73) w k) w fun v74 w =>
 kN P (pickN v69 v74 (.bool false)) w fun v75_1 w =>
 J9 v75_1 w) fun v75 w =>
 condK v75
 (drewK (fun w =>
 sV P (Instr.indexAt 22 v44 (s6.getD 0 undef)) w fun v80 =>
 sV P (Instr.loadAt 28 v80) w fun v81 =>
 sV P (Instr.indexAt 22 (s0.getD 0 undef) (s6.getD 0 undef)) w fun v84 =>
 sV P (Instr.loadAt 28 v84) w fun v85 =>
 sV P (binV .neq 28 (.tmp 81) (.tmp 85) v81 v85) w fun v86 =>
 condK v86
 (K (.bool false) w)
 (kV P (binV .add 3 (.tmp 76) (.const (.int .i64 1)) (s6.getD 0 undef) (.int .i64 1)) w fun v77 w =>
 R6 [v77] w)) w)
 (kV P (Instr.buildSlice 22 1 #[(0, (.int .u32 111))]) w fun v87 w =>
 kN P (callN (.func (.func 4) #[] #[]) #[v87]) w fun v88 w =>
 kV P (binV .eql 9 (.tmp 88) (.const (.string ⟨#[109, 48, 58, 10, 106, 97, 108, 32, 99, 48, 44, 32, 109, 48, 10]⟩)) v88 (.string ⟨#[109, 48, 58, 10, 106, 97, 108, 32, 99, 48, 44, 32, 109, 48, 10]⟩)) w fun v89 w =>
 joinK (fun J10 : Value -> World -> Prop => gdK (yb v89) true (fun k => kN P (callN (.func (.func 8) #[] #[]) #[]) w k) w fun v91 w =>
 kN P (pickN v89 v91 (.bool false)) w fun v92_1 w =>
 J10 v92_1 w) fun v92 w =>
 K v92 w)) [(.int .i64 0)] w))) [(.bool true), (.int .i64 0)] w)
theorem F3_eq (t0 : Value) : funE P ⟨[], [(8, [4, 5]), (16, [11])], [(3, [0])]⟩ Tryz.f3 [t0] w K = F3 P w K t0 := by kernel_rfl
theorem F3_ok (t0 : Value) (h : F3 Tryz.prog w K t0) : callsK Tryz.prog 3 #[t0] w K := calls_of_eq mixedL Tryz.func3 (F3_eq _ w K t0) h
def F8 : Prop :=
 kN P (callN (.func (.func 7) #[] #[]) #[(.string ⟨#[97, 58, 10, 97, 100, 100, 105, 32, 99, 49, 48, 44, 32, 99, 49, 48, 44, 32, 45, 49, 10, 98, 110, 101, 32, 99, 49, 48, 44, 32, 99, 48, 44, 32, 97]⟩)]) w fun v5 w =>
 kV P (Instr.extract v5 0) w fun v6 w =>
 kV P (Instr.extract v5 1) w fun v7 w =>
 kV P (Instr.extract v5 2) w fun v8 w =>
 kV P (binV .eql 29 (.tmp 9) (.const (.int .i64 0)) v8 (.int .i64 0)) w fun v10 w =>
 joinK (fun J0 : Value -> World -> Prop => gdK (yb v10) true (fun k => k v7 w) w fun v12 w =>
 gdK (yb v10) true (fun k => kV P (binV .eql 3 (.tmp 12) (.const (.int .i64 0)) v12 (.int .i64 0)) w k) w fun v13 w =>
 kN P (pickN v10 v13 (.bool false)) w fun v14_1 w =>
 J0 v14_1 w) fun v14 w =>
 joinK (fun J1 : Value -> World -> Prop => gdK (yb v14) true (fun k => k v6 w) w fun v16 w =>
 gdK (yb v14) true (fun k => kV P (Builtin.len_ #[22] 3 #[v16]) w k) w fun v17 w =>
 gdK (yb v14) true (fun k => kV P (binV .eql 3 (.tmp 17) (.const (.int .i64 2)) v17 (.int .i64 2)) w k) w fun v18 w =>
 kN P (pickN v14 v18 (.bool false)) w fun v19_1 w =>
 J1 v19_1 w) fun v19 w =>
 joinK (fun J2 : Value -> World -> Prop => gdK (yb v19) true (fun k => k v6 w) w fun v21 w =>
 gdK (yb v19) true (fun k => kV P (Instr.indexAt 22 v21 (.int .i64 0)) w k) w fun v22 w =>
 gdK (yb v19) true (fun k => kV P (Instr.loadAt 28 v22) w k) w fun v23 w =>
 gdK (yb v19) true (fun k => kV P (binV .eql 28 (.tmp 23) (.const (.int .u32 4294247699)) v23 (.int .u32 4294247699)) w k) w fun v24 w =>
 kN P (pickN v19 v24 (.bool false)) w fun v25_1 w =>
 J2 v25_1 w) fun v25 w =>
 joinK (fun J3 : Value -> World -> Prop => gdK (yb v25) true (fun k => k v6 w) w fun v27 w =>
 gdK (yb v25) true (fun k => kV P (Instr.indexAt 22 v27 (.int .i64 1)) w k) w fun v28 w =>
 gdK (yb v25) true (fun k => kV P (Instr.loadAt 28 v28) w k) w fun v29 w =>
 gdK (yb v25) true (fun k => kV P (binV .eql 28 (.tmp 29) (.const (.int .u32 4261748451)) v29 (.int .u32 4261748451)) w k) w fun v30 w =>
 kN P (pickN v25 v30 (.bool false)) w fun v31_1 w =>
 J3 v31_1 w) fun v31 w =>
 K v31 w
theorem F8_eq : funE P ⟨[], [], []⟩ Tryz.f8 [] w K = F8 P w K  := by kernel_rfl
theorem F8_ok  (h : F8 Tryz.prog w K ) : callsK Tryz.prog 8 #[] w K := calls_of_eq mixedL Tryz.func8 (F8_eq _ w K ) h
end
open Go.Fx
set_option maxRecDepth 100000
set_option maxHeartbeats 4000000
theorem RL_call_3 : type_of% (Fx.kN_callf Tryz.call3) := Fx.kN_callf Tryz.call3
theorem RL_sl_22 : type_of% (Fx.sl_slc Tryz.underlying22 Tryz.sizeOf28) := Fx.sl_slc Tryz.underlying22 Tryz.sizeOf28
theorem RL_sln_22 : type_of% (Fx.sl_nil Tryz.underlying22 Tryz.sizeOf28) := Fx.sl_nil Tryz.underlying22 Tryz.sizeOf28
theorem RL_call_4 : type_of% (Fx.kN_callf Tryz.call4) := Fx.kN_callf Tryz.call4
theorem RL_call_5 : type_of% (Fx.kN_callf Tryz.call5) := Fx.kN_callf Tryz.call5
theorem RL_ix_22 : type_of% (Fx.run_index_slice Tryz.underlying22 Tryz.sizeOf28) := Fx.run_index_slice Tryz.underlying22 Tryz.sizeOf28
theorem RL_ld_28 : type_of% (Fx.run_load1' Tryz.isAgg28) := Fx.run_load1' Tryz.isAgg28
theorem RL_call_8 : type_of% (Fx.kN_callf Tryz.call8) := Fx.kN_callf Tryz.call8
theorem rulesL : type_of% (And.intro @RL_call_3 (And.intro @RA_len_22 (And.intro @RL_sl_22 (And.intro @RL_sln_22 (And.intro @RL_call_4 (And.intro @RL_call_5 (And.intro @RL_ix_22 (And.intro @RL_ld_28 (And.intro @RX_call_6 (And.intro @RA_al_25 (And.intro @RA_st_25 (And.intro @RA_call_7 (And.intro @RA_bs_22_1 (@RL_call_8)))))))))))))) := ⟨@RL_call_3, @RA_len_22, @RL_sl_22, @RL_sln_22, @RL_call_4, @RL_call_5, @RL_ix_22, @RL_ld_28, @RX_call_6, @RA_al_25, @RA_st_25, @RA_call_7, @RA_bs_22_1, @RL_call_8⟩
open Go.Fx
set_option maxRecDepth 100000
theorem mixedB : Tryz.prog.follows .mixedOrders = true := by kernel_rfl
section
variable (P : Program) (w : World) (K : Value -> World -> Prop)
def F4 (t0 : Value) : Prop :=
 kV P (Instr.makeMap 35 none) w fun v7 w =>
 kV P (Instr.build 41 #[(0, t0), (1, v7)]) w fun v8 w =>
 kV P (Instr.box 41 v8) w fun v9 w =>
 kN P (callN (.func (.func 9) #[] #[]) #[v9]) w fun v11 w =>
 kV P (Builtin.len_ #[22] 3 #[t0]) w fun v13 w =>
 loopT (fun R0 s0 w => ∀ _ : Nat -> Value,
 kV P (binV .lss 3 (.tmp 14) (.tmp 13) (s0.getD 0 undef) v13) w fun v15 w =>
 condK v15
 (kV P (Instr.indexAt 22 t0 (s0.getD 0 undef)) w fun v17 w =>
 kV P (Instr.loadAt 28 v17) w fun v18 w =>
 kN P (callN (.func (.func 10) #[] #[]) #[v9, (s0.getD 0 undef), v18]) w fun v22 w =>
 kV P (binV .add 3 (.tmp 14) (.const (.int .i64 1)) (s0.getD 0 undef) (.int .i64 1)) w fun v23 w =>
 R0 [v23] w)
 (joinL (fun J2 =>
 kN P (nilN v9) w fun v25 w =>
 kV P (Instr.fieldAt 41 v25 1) w fun v26 w =>
 kV P (Instr.loadAt 35 v26) w fun v27 w =>
 kV P (Builtin.len_ #[22] 3 #[t0]) w fun v29 w =>
 kV P (Instr.lookup 35 v27 v29 false) w fun v30 w =>
 condK v30
 (kV P (Builtin.len_ #[22] 3 #[t0]) w fun v33 w =>
 kN P (callN (.func (.func 12) #[] #[]) #[v33]) w fun v34 w =>
 kV P (binV .add 9 (.tmp 34) (.const (.string ⟨#[58]⟩)) v34 (.string ⟨#[58]⟩)) w fun v35 w =>
 kN P (callN (.func (.func 11) #[] #[]) #[v9, v35]) w fun v36 w =>
 J2 [] w)
 (J2 [] w)) fun s2 w => ∀ _ : Nat -> Value,
 kN P (nilN v9) w fun v38 w =>
 kV P (Instr.fieldAt 41 v38 2) w fun v39 w =>
 kN P (callN (.func (.func 13) #[] #[]) #[v39]) w fun v40 w =>
 K v40 w)) [(.int .i64 0)] w
theorem F4_eq (t0 : Value) : funE P ⟨[], [(4, [14])], [(10, [])]⟩ Tryz.f4 [t0] w K = F4 P w K t0 := by kernel_rfl
theorem F4_ok (t0 : Value) (h : F4 Tryz.prog w K t0) : callsK Tryz.prog 4 #[t0] w K := calls_of_eq mixedB Tryz.func4 (F4_eq _ w K t0) h
def F9 (t0 : Value) : Prop :=
 kN P (nilN t0) w fun v9 w =>
 kV P (Instr.fieldAt 41 v9 0) w fun v10 w =>
 kV P (Instr.loadAt 22 v10) w fun v11 w =>
 kV P (Builtin.len_ #[22] 3 #[v11]) w fun v12 w =>
 loopT (fun R0 s0 w => ∀ _ : Nat -> Value,
 kV P (binV .lss 3 (.tmp 13) (.tmp 12) (s0.getD 0 undef) v12) w fun v14 w =>
 condK v14
 (joinL (fun J2 =>
 kV P (Instr.indexAt 22 v11 (s0.getD 0 undef)) w fun v16 w =>
 kV P (Instr.loadAt 28 v16) w fun v17 w =>
 kN P (callN (.func (.func 6) #[] #[]) #[v17]) w fun v20 w =>
 kV P (Instr.extract v20 0) w fun v21 w =>
 kV P (Instr.extract v20 1) w fun v22 w =>
 kV P (Instr.alloc 25 true (.tuple #[])) w fun v4 w =>
 kU P (Instr.storeAt 25 v4 v21) w fun _ w =>
 joinL (fun J4 =>
 drewK (fun w =>
 pN P (nilN t0) fun v27 =>
 pV P (Instr.fieldAt 41 v27 0) fun v28 =>
 (kV P (Instr.loadAt 25 v4) w fun v24 w =>
 kV P (Instr.loadAt 22 v28) w fun v29 w =>
 pV P (Builtin.len_ #[22] 3 #[v29]) fun v30 =>
 kN P (callN (.func (.func 32) #[] #[]) #[v24, (s0.getD 0 undef), v30]) w fun v31 w =>
 pV P (Instr.extract v31 0) fun v32 =>
 pV P (Instr.extract v31 1) fun v33 =>
 J4 [v32, v33] w) /\
 (kV P (Instr.loadAt 22 v28) w fun v29_1 w =>
 pV P (Builtin.len_ #[22] 3 #[v29_1]) fun v30_1 =>
 kV P (Instr.loadAt 25 v4) w fun v24_1 w =>
 kN P (callN (.func (.func 32) #[] #[]) #[v24_1, (s0.getD 0 undef), v30_1]) w fun v31_1 w =>
 pV P (Instr.extract v31_1 0) fun v32_1 =>
 pV P (Instr.extract v31_1 1) fun v33_1 =>
 J4 [v32_1, v33_1] w)) w) fun s4 w => ∀ _ : Nat -> Value,
 joinK (fun J6 : Value -> World -> Prop => gdK (yb v22) true (fun k => k (s4.getD 1 undef) w) w fun v36 w =>
 kN P (pickN v22 v36 (.bool false)) w fun v37_1 w =>
 J6 v37_1 w) fun v37 w =>
 condK v37
 (kN P (nilN t0) w fun v39 w =>
 kV P (Instr.fieldAt 41 v39 1) w fun v40 w =>
 kV P (Instr.loadAt 35 v40) w fun v41 w =>
 kU P (Instr.mapUpdate 35 v41 (s4.getD 0 undef) (.bool true)) w fun _ w =>
 J2 [] w)
 (J2 [] w)) fun s2 w => ∀ _ : Nat -> Value,
 kV P (binV .add 3 (.tmp 13) (.const (.int .i64 1)) (s0.getD 0 undef) (.int .i64 1)) w fun v43 w =>
 R0 [v43] w)
 (K (.tuple #[]) w)) [(.int .i64 0)] w
theorem F9_eq (t0 : Value) : funE P ⟨[(4, 999)], [(1, [13])], [(7, []), (5, [6, 7])]⟩ Tryz.f9 [t0] w K = F9 P w K t0 := by kernel_rfl
theorem F9_ok (t0 : Value) (h : F9 Tryz.prog w K t0) : callsK Tryz.prog 9 #[t0] w K := calls_of_eq mixedB Tryz.func9 (F9_eq _ w K t0) h
def F10 (t0 t1 t2 : Value) : Prop :=
 joinL (fun J0 =>
 kN P (nilN t0) w fun v12 w =>
 kV P (Instr.fieldAt 41 v12 1) w fun v13 w =>
 kV P (Instr.loadAt 35 v13) w fun v14 w =>
 kV P (Instr.lookup 35 v14 t1 false) w fun v16 w =>
 condK v16
 (kN P (callN (.func (.func 12) #[] #[]) #[t1]) w fun v19 w =>
 kV P (binV .add 9 (.tmp 19) (.const (.string ⟨#[58]⟩)) v19 (.string ⟨#[58]⟩)) w fun v20 w =>
 kN P (callN (.func (.func 11) #[] #[]) #[t0, v20]) w fun v21 w =>
 J0 [] w)
 (J0 [] w)) fun s0 w => ∀ _ : Nat -> Value,
 kN P (callN (.func (.func 6) #[] #[]) #[t2]) w fun v24 w =>
 kV P (Instr.extract v24 0) w fun v25 w =>
 kV P (Instr.extract v24 1) w fun v26 w =>
 kV P (Instr.alloc 25 true (.tuple #[])) w fun v6 w =>
 kU P (Instr.storeAt 25 v6 v25) w fun _ w =>
 kV P (Op.unary .not v26) w fun v28 w =>
 condK v28
 (kN P (callN (.func (.func 33) #[] #[]) #[t2]) w fun v31 w =>
 kV P (binV .add 9 (.const (.string ⟨#[35, 32, 119, 111, 114, 100, 32]⟩)) (.tmp 31) (.string ⟨#[35, 32, 119, 111, 114, 100, 32]⟩) v31) w fun v32 w =>
 kN P (callN (.func (.func 11) #[] #[]) #[t0, v32]) w fun v33 w =>
 K (.tuple #[]) w)
 (kV P (Instr.loadAt 25 v6) w fun v34 w =>
 kN P (callN (.func (.func 34) #[] #[]) #[v34]) w fun v35 w =>
 joinL (fun J2 =>
 joinL (fun J4 =>
 drewK (fun w =>
 pN P (nilN t0) fun v40 =>
 pV P (Instr.fieldAt 41 v40 0) fun v41 =>
 (kV P (Instr.loadAt 25 v6) w fun v37 w =>
 kV P (Instr.loadAt 22 v41) w fun v42 w =>
 pV P (Builtin.len_ #[22] 3 #[v42]) fun v43 =>
 kN P (callN (.func (.func 32) #[] #[]) #[v37, t1, v43]) w fun v44 w =>
 pV P (Instr.extract v44 0) fun v45 =>
 pV P (Instr.extract v44 1) fun v46 =>
 J4 [v45, v46] w) /\
 (kV P (Instr.loadAt 22 v41) w fun v42_1 w =>
 pV P (Builtin.len_ #[22] 3 #[v42_1]) fun v43_1 =>
 kV P (Instr.loadAt 25 v6) w fun v37_1 w =>
 kN P (callN (.func (.func 32) #[] #[]) #[v37_1, t1, v43_1]) w fun v44_1 w =>
 pV P (Instr.extract v44_1 0) fun v45_1 =>
 pV P (Instr.extract v44_1 1) fun v46_1 =>
 J4 [v45_1, v46_1] w)) w) fun s4 w => ∀ _ : Nat -> Value,
 condK (s4.getD 1 undef)
 (drewK (fun w =>
 kN P (callN (.func (.func 35) #[] #[]) #[v35, (.string ⟨#[32]⟩)]) w fun v50 w =>
 pV P (binV .add 3 (.tmp 50) (.const (.int .i64 1)) v50 (.int .i64 1)) fun v51 =>
 pV P (Instr.sliceAt 9 v35 none (some v51) none) fun v52 =>
 kN P (callN (.func (.func 12) #[] #[]) #[(s4.getD 0 undef)]) w fun v54 w =>
 pV P (binV .add 9 (.tmp 52) (.tmp 54) v52 v54) fun v55 =>
 J2 [v55] w) w)
 (J2 [v35] w)) fun s2 w => ∀ _ : Nat -> Value,
 kN P (callN (.func (.func 11) #[] #[]) #[t0, (s2.getD 0 undef)]) w fun v58 w =>
 K (.tuple #[]) w)
theorem F10_eq (t0 t1 t2 : Value) : funE P ⟨[(6, 999), (8, 999)], [], [(2, []), (9, [8]), (7, [9, 10])]⟩ Tryz.f10 [t0, t1, t2] w K = F10 P w K t0 t1 t2 := by kernel_rfl
theorem F10_ok (t0 t1 t2 : Value) (h : F10 Tryz.prog w K t0 t1 t2) : callsK Tryz.prog 10 #[t0, t1, t2] w K := calls_of_eq mixedB Tryz.func10 (F10_eq _ w K t0 t1 t2) h
def F12 (t0 : Value) : Prop :=
 kN P (callN (.func (.func 37) #[] #[]) #[t0]) w fun v4 w =>
 kV P (binV .add 9 (.const (.string ⟨#[109]⟩)) (.tmp 4) (.string ⟨#[109]⟩) v4) w fun v5 w =>
 K v5 w
theorem F12_eq (t0 : Value) : funE P ⟨[], [], []⟩ Tryz.f12 [t0] w K = F12 P w K t0 := by kernel_rfl
theorem F12_ok (t0 : Value) (h : F12 Tryz.prog w K t0) : callsK Tryz.prog 12 #[t0] w K := calls_of_eq mixedB Tryz.func12 (F12_eq _ w K t0) h
def F32 (t0 t1 t2 : Value) : Prop :=
 kV P (Instr.box 25 t0) w fun v3 w =>
 kV P (Instr.fieldAt 25 v3 0) w fun v10 w =>
 kV P (Instr.loadAt 3 v10) w fun v11 w =>
 kN P (callN (.func (.func 57) #[] #[]) #[v11]) w fun v12 w =>
 kV P (binV .neq 5 (.tmp 13) (.const (.int .u8 66)) v12 (.int .u8 66)) w fun v14 w =>
 joinK (fun J0 : Value -> World -> Prop => gdK (yb v14) true (fun k => k v12 w) w fun v16 w =>
 gdK (yb v14) true (fun k => kV P (binV .neq 5 (.tmp 16) (.const (.int .u8 74)) v16 (.int .u8 74)) w k) w fun v17 w =>
 kN P (pickN v14 v17 (.bool false)) w fun v18_1 w =>
 J0 v18_1 w) fun v18 w =>
 joinK (fun J1 : Value -> World -> Prop => gdK (yb v18) false (fun k => kV P (Instr.fieldAt 25 v3 4) w k) w fun v20 w =>
 gdK (yb v18) false (fun k => kV P (Instr.loadAt 2 v20) w k) w fun v21 w =>
 gdK (yb v18) false (fun k => kV P (binV .rem 2 (.tmp 21) (.const (.int .i64 4)) v21 (.int .i64 4)) w k) w fun v22 w =>
 gdK (yb v18) false (fun k => kV P (binV .neq 2 (.tmp 22) (.const (.int .i64 0)) v22 (.int .i64 0)) w k) w fun v23 w =>
 kN P (pickN v18 (.bool true) v23) w fun v24_1 w =>
 J1 v24_1 w) fun v24 w =>
 condK v24
 (K (.tuple #[(.int .i64 0), (.bool false)]) w)
 (kV P (Instr.fieldAt 25 v3 4) w fun v26 w =>
 kV P (Instr.loadAt 2 v26) w fun v27 w =>
 kV P (binV .quo 2 (.tmp 27) (.const (.int .i64 4)) v27 (.int .i64 4)) w fun v28 w =>
 kV P (binV .add 3 (.tmp 25) (.tmp 28) t1 v28) w fun v29 w =>
 kV P (binV .geq 3 (.tmp 31) (.const (.int .i64 0)) v29 (.int .i64 0)) w fun v32 w =>
 joinK (fun J2 : Value -> World -> Prop => gdK (yb v32) true (fun k => k v29 w) w fun v34 w =>
 gdK (yb v32) true (fun k => k t2 w) w fun v35 w =>
 gdK (yb v32) true (fun k => kV P (binV .leq 3 (.tmp 34) (.tmp 35) v34 v35) w k) w fun v36 w =>
 kN P (pickN v32 v36 (.bool false)) w fun v37_1 w =>
 J2 v37_1 w) fun v37 w =>
 K (.tuple #[v29, v37]) w)
theorem F32_eq (t0 t1 t2 : Value) : funE P ⟨[], [], []⟩ Tryz.f32 [t0, t1, t2] w K = F32 P w K t0 t1 t2 := by kernel_rfl
theorem F32_ok (t0 t1 t2 : Value) (h : F32 Tryz.prog w K t0 t1 t2) : callsK Tryz.prog 32 #[t0, t1, t2] w K := calls_of_eq mixedB Tryz.func32 (F32_eq _ w K t0 t1 t2) h
def F33 (t0 : Value) : Prop :=
 kV P (Instr.alloc 131 true (.tuple #[])) w fun v3 w =>
 loopT (fun R0 s0 w => ∀ _ : Nat -> Value,
 kV P (binV .geq 3 (.tmp 5) (.const (.int .i64 0)) (s0.getD 1 undef) (.int .i64 0)) w fun v6 w =>
 condK v6
 (kV P (binV .rem 28 (.tmp 10) (.const (.int .u32 16)) (s0.getD 0 undef) (.int .u32 16)) w fun v11 w =>
 kV P (Instr.index 9 (.string ⟨#[48, 49, 50, 51, 52, 53, 54, 55, 56, 57, 97, 98, 99, 100, 101, 102]⟩) v11) w fun v12 w =>
 kV P (Instr.indexAt 131 v3 (s0.getD 1 undef)) w fun v13 w =>
 kU P (Instr.storeAt 5 v13 v12) w fun _ w =>
 kV P (binV .quo 28 (.tmp 14) (.const (.int .u32 16)) (s0.getD 0 undef) (.int .u32 16)) w fun v15 w =>
 kV P (binV .sub 3 (.tmp 7) (.const (.int .i64 1)) (s0.getD 1 undef) (.int .i64 1)) w fun v8 w =>
 R0 [v15, v8] w)
 (kV P (Instr.sliceAt 131 v3 none none none) w fun v16 w =>
 kV P (convert 37 9 v16) w fun v17 w =>
 K v17 w)) [t0, (.int .i64 7)] w
theorem F33_eq (t0 : Value) : funE P ⟨[], [(3, [0, 4])], []⟩ Tryz.f33 [t0] w K = F33 P w K t0 := by kernel_rfl
theorem F33_ok (t0 : Value) (h : F33 Tryz.prog w K t0) : callsK Tryz.prog 33 #[t0] w K := calls_of_eq mixedB Tryz.func33 (F33_eq _ w K t0) h
end
open Go.Fx
set_option maxRecDepth 100000
set_option maxHeartbeats 4000000
theorem RB_bl_41_0_1 : ∀ (a0x0 : Option Addr) (a0x0n a0x0c : Nat) (a1x0 : Option Nat) (w : World), (Instr.build 41 [(0, .slice a0x0 a0x0n a0x0c), (1, .map a1x0)].toArray).run Tryz.prog w = .ok (.agg [.slice a0x0 a0x0n a0x0c, .map a1x0, (.pointer none), (.slice none 0 0)].toArray) w := fun a0x0 a0x0n a0x0c a1x0 w => run_build w 41 _ _ (by kernel_rfl)
theorem RB_call_9 : type_of% (Fx.kN_callf Tryz.call9) := Fx.kN_callf Tryz.call9
theorem RB_call_10 : type_of% (Fx.kN_callf Tryz.call10) := Fx.kN_callf Tryz.call10
theorem RB_fld_41_1 : ∀ (b o : Nat) (w : World), (Instr.fieldAt 41 (.pointer (some ⟨b, o, none⟩)) 1).run Tryz.prog w = .ok (.pointer (some ⟨b, o + 1, none⟩)) w := Fx.run_fieldO 1 1 1 Tryz.underlying41 rfl Tryz.sizeOf35 (by decide)
theorem RB_ld_35 : type_of% (Fx.run_load1' Tryz.isAgg35) := Fx.run_load1' Tryz.isAgg35
theorem RB_call_12 : type_of% (Fx.kN_callf Tryz.call12) := Fx.kN_callf Tryz.call12
theorem RB_call_11 : type_of% (Fx.kN_callf Tryz.call11) := Fx.kN_callf Tryz.call11
theorem RB_fld_41_2 : ∀ (b o : Nat) (w : World), (Instr.fieldAt 41 (.pointer (some ⟨b, o, none⟩)) 2).run Tryz.prog w = .ok (.pointer (some ⟨b, o + 2, none⟩)) w := Fx.run_fieldO 2 2 2 Tryz.underlying41 rfl Tryz.sizeOf39 (by decide)
theorem RB_call_13 : type_of% (Fx.kN_callf Tryz.call13) := Fx.kN_callf Tryz.call13
theorem RB_fld_41_0 : ∀ (b o : Nat) (w : World), (Instr.fieldAt 41 (.pointer (some ⟨b, o, none⟩)) 0).run Tryz.prog w = .ok (.pointer (some ⟨b, o, none⟩)) w := Fx.run_fieldO 0 0 1 Tryz.underlying41 rfl Tryz.sizeOf22 (by decide)
theorem RB_ld_22 : type_of% (Fx.run_load1' Tryz.isAgg22) := Fx.run_load1' Tryz.isAgg22
theorem RB_call_32 : type_of% (Fx.kN_callf Tryz.call32) := Fx.kN_callf Tryz.call32
theorem RB_call_33 : type_of% (Fx.kN_callf Tryz.call33) := Fx.kN_callf Tryz.call33
theorem RB_al_131 : type_of% (Fx.run_alloc Tryz.zeroValue131) := Fx.run_alloc Tryz.zeroValue131
theorem RB_ix_131 : type_of% (Fx.run_index_array Tryz.underlying131 Tryz.sizeOf5) := Fx.run_index_array Tryz.underlying131 Tryz.sizeOf5
theorem RB_st_5 : type_of% (Fx.run_store1' Tryz.sizeOf5) := Fx.run_store1' Tryz.sizeOf5
theorem RB_sl_131 : type_of% (Fx.sl_arr Tryz.underlying131 Tryz.sizeOf5) := Fx.sl_arr Tryz.underlying131 Tryz.sizeOf5
theorem rulesB : type_of% (And.intro @RL_call_4 (And.intro @RB_bl_41_0_1 (And.intro @RB_call_9 (And.intro @RA_len_22 (And.intro @RL_ix_22 (And.intro @RL_ld_28 (And.intro @RB_call_10 (And.intro @RB_fld_41_1 (And.intro @RB_ld_35 (And.intro @RB_call_12 (And.intro @RB_call_11 (And.intro @RB_fld_41_2 (And.intro @RB_call_13 (And.intro @RB_fld_41_0 (And.intro @RB_ld_22 (And.intro @RX_call_6 (And.intro @RA_al_25 (And.intro @RA_st_25 (And.intro @RA_ld_25 (And.intro @RB_call_32 (And.intro @RB_call_33 (And.intro @RA_call_34 (And.intro @RA_call_35 (And.intro @RA_call_37 (And.intro @RA_fld_25_0 (And.intro @RA_ld_3 (And.intro @RA_call_57 (And.intro @RA_fld_25_4 (And.intro @RA_ld_2 (And.intro @RB_al_131 (And.intro @RB_ix_131 (And.intro @RB_st_5 (@RB_sl_131))))))))))))))))))))))))))))))))) := ⟨@RL_call_4, @RB_bl_41_0_1, @RB_call_9, @RA_len_22, @RL_ix_22, @RL_ld_28, @RB_call_10, @RB_fld_41_1, @RB_ld_35, @RB_call_12, @RB_call_11, @RB_fld_41_2, @RB_call_13, @RB_fld_41_0, @RB_ld_22, @RX_call_6, @RA_al_25, @RA_st_25, @RA_ld_25, @RB_call_32, @RB_call_33, @RA_call_34, @RA_call_35, @RA_call_37, @RA_fld_25_0, @RA_ld_3, @RA_call_57, @RA_fld_25_4, @RA_ld_2, @RB_al_131, @RB_ix_131, @RB_st_5, @RB_sl_131⟩
open Go.Fx
set_option maxRecDepth 100000
theorem mixedW : Tryz.prog.follows .mixedOrders = true := by kernel_rfl
section
variable (P : Program) (w : World) (K : Value -> World -> Prop)
def F11 (t0 t1 : Value) : Prop :=
 kN P (nilN t0) w fun v5 w =>
 kV P (Instr.fieldAt 41 v5 2) w fun v6 w =>
 kV P (binV .add 9 (.tmp 7) (.const (.string ⟨#[10]⟩)) t1 (.string ⟨#[10]⟩)) w fun v8 w =>
 kN P (callN (.func (.func 36) #[] #[]) #[v6, v8]) w fun v9 w =>
 K (.tuple #[]) w
theorem F11_eq (t0 t1 : Value) : funE P ⟨[], [], []⟩ Tryz.f11 [t0, t1] w K = F11 P w K t0 t1 := by kernel_rfl
theorem F11_ok (t0 t1 : Value) (h : F11 Tryz.prog w K t0 t1) : callsK Tryz.prog 11 #[t0, t1] w K := calls_of_eq mixedW Tryz.func11 (F11_eq _ w K t0 t1) h
def F13 (t0 : Value) : Prop :=
 drewK (fun w =>
 pN P (nilN t0) fun v4 =>
 pV P (Instr.fieldAt 39 v4 1) fun v5 =>
 pN P (nilN t0) fun v9 =>
 pV P (Instr.fieldAt 39 v9 1) fun v10 =>
 (kV P (Instr.loadAt 37 v5) w fun v6 w =>
 (kV P (Builtin.unsafeSliceData_ #[37] 94 #[v6]) w fun v7 w =>
 kV P (Instr.loadAt 37 v10) w fun v11 w =>
 pV P (Builtin.len_ #[37] 3 #[v11]) fun v12 =>
 kV P (Builtin.unsafeString_ #[94, 3] 9 #[v7, v12]) w fun v13 w =>
 K v13 w) /\
 (kV P (Instr.loadAt 37 v10) w fun v11_1 w =>
 pV P (Builtin.len_ #[37] 3 #[v11_1]) fun v12_1 =>
 kV P (Builtin.unsafeSliceData_ #[37] 94 #[v6]) w fun v7_1 w =>
 kV P (Builtin.unsafeString_ #[94, 3] 9 #[v7_1, v12_1]) w fun v13_1 w =>
 K v13_1 w)) /\
 (kV P (Instr.loadAt 37 v10) w fun v11_2 w =>
 pV P (Builtin.len_ #[37] 3 #[v11_2]) fun v12_2 =>
 kV P (Instr.loadAt 37 v5) w fun v6_1 w =>
 kV P (Builtin.unsafeSliceData_ #[37] 94 #[v6_1]) w fun v7_2 w =>
 kV P (Builtin.unsafeString_ #[94, 3] 9 #[v7_2, v12_2]) w fun v13_2 w =>
 K v13_2 w)) w
theorem F13_eq (t0 : Value) : funE P ⟨[(1, 999)], [], []⟩ Tryz.f13 [t0] w K = F13 P w K t0 := by kernel_rfl
theorem F13_ok (t0 : Value) (h : F13 Tryz.prog w K t0) : callsK Tryz.prog 13 #[t0] w K := calls_of_eq mixedW Tryz.func13 (F13_eq _ w K t0) h
def F36 (t0 t1 : Value) : Prop :=
 kN P (callN (.func (.func 70) #[] #[]) #[t0]) w fun v7 w =>
 kN P (nilN t0) w fun v10 w =>
 kV P (Instr.fieldAt 39 v10 1) w fun v11 w =>
 kV P (Instr.loadAt 37 v11) w fun v12 w =>
 kV P (Builtin.append_ #[37, 9] 37 #[v12, t1]) w fun v14 w =>
 kN P (nilN t0) w fun v15 w =>
 kV P (Instr.fieldAt 39 v15 1) w fun v16 w =>
 kU P (Instr.storeAt 37 v16 v14) w fun _ w =>
 kV P (Builtin.len_ #[9] 3 #[t1]) w fun v18 w =>
 K (.tuple #[v18, .nilIface]) w
theorem F36_eq (t0 t1 : Value) : funE P ⟨[], [], []⟩ Tryz.f36 [t0, t1] w K = F36 P w K t0 t1 := by kernel_rfl
theorem F36_ok (t0 t1 : Value) (h : F36 Tryz.prog w K t0 t1) : callsK Tryz.prog 36 #[t0, t1] w K := calls_of_eq mixedW Tryz.func36 (F36_eq _ w K t0 t1) h
def F70 (t0 : Value) : Prop :=
 kN P (nilN t0) w fun v3 w =>
 kV P (Instr.fieldAt 39 v3 0) w fun v4 w =>
 kV P (Instr.loadAt 36 v4) w fun v5 w =>
 kV P (binV .eql 36 (.tmp 5) (.const (.pointer none)) v5 (.pointer none)) w fun v6 w =>
 condK v6
 (kV P (convert 36 150 t0) w fun v9 w =>
 kN P (callN (.func (.func 88) #[] #[]) #[v9]) w fun v10 w =>
 kV P (convert 150 36 v10) w fun v11 w =>
 kN P (nilN t0) w fun v12 w =>
 kV P (Instr.fieldAt 39 v12 0) w fun v13 w =>
 kU P (Instr.storeAt 36 v13 v11) w fun _ w =>
 K (.tuple #[]) w)
 (kN P (nilN t0) w fun v15 w =>
 kV P (Instr.fieldAt 39 v15 0) w fun v16 w =>
 kV P (Instr.loadAt 36 v16) w fun v17 w =>
 kV P (binV .neq 36 (.tmp 17) (.tmp 18) v17 t0) w fun v19 w =>
 condK v19
 (False /- refuse (*strings.Builder).copyCheck builder.go:41: unsupported: a written strings.Builder's value in another place: whether the library's copy check passes hangs on where the compiler lays the two -/)
 (K (.tuple #[]) w))
theorem F70_eq (t0 : Value) : funE P ⟨[], [], []⟩ Tryz.f70 [t0] w K = F70 P w K t0 := by kernel_rfl
theorem F70_ok (t0 : Value) (h : F70 Tryz.prog w K t0) : callsK Tryz.prog 70 #[t0] w K := calls_of_eq mixedW Tryz.func70 (F70_eq _ w K t0) h
end
open Go.Fx
set_option maxRecDepth 100000
set_option maxHeartbeats 4000000
theorem RW_call_36 : type_of% (Fx.kN_callf Tryz.call36) := Fx.kN_callf Tryz.call36
theorem RW_fld_39_1 : ∀ (b o : Nat) (w : World), (Instr.fieldAt 39 (.pointer (some ⟨b, o, none⟩)) 1).run Tryz.prog w = .ok (.pointer (some ⟨b, o + 1, none⟩)) w := Fx.run_fieldO 1 1 1 Tryz.underlying39 rfl Tryz.sizeOf37 (by decide)
theorem RW_ld_37 : type_of% (Fx.run_load1' Tryz.isAgg37) := Fx.run_load1' Tryz.isAgg37
theorem RW_call_70 : type_of% (Fx.kN_callf Tryz.call70) := Fx.kN_callf Tryz.call70
theorem RW_st_37 : type_of% (Fx.run_store1' Tryz.sizeOf37) := Fx.run_store1' Tryz.sizeOf37
theorem RW_fld_39_0 : ∀ (b o : Nat) (w : World), (Instr.fieldAt 39 (.pointer (some ⟨b, o, none⟩)) 0).run Tryz.prog w = .ok (.pointer (some ⟨b, o, none⟩)) w := Fx.run_fieldO 0 0 1 Tryz.underlying39 rfl Tryz.sizeOf36 (by decide)
theorem RW_ld_36 : type_of% (Fx.run_load1' Tryz.isAgg36) := Fx.run_load1' Tryz.isAgg36
theorem RW_eql_36 : type_of% (Fx.run_eqlP Tryz.underlying36) := Fx.run_eqlP Tryz.underlying36
theorem RW_st_36 : type_of% (Fx.run_store1' Tryz.sizeOf36) := Fx.run_store1' Tryz.sizeOf36
theorem RW_neq_36 : type_of% (Fx.run_neqP Tryz.underlying36) := Fx.run_neqP Tryz.underlying36
theorem rulesW : type_of% (And.intro @RB_call_11 (And.intro @RB_fld_41_2 (And.intro @RW_call_36 (And.intro @RB_call_13 (And.intro @RW_fld_39_1 (And.intro @RW_ld_37 (And.intro @RA_len_37 (And.intro @RW_call_70 (And.intro @RW_st_37 (And.intro @RW_fld_39_0 (And.intro @RW_ld_36 (And.intro @RW_eql_36 (And.intro @RW_st_36 (@RW_neq_36)))))))))))))) := ⟨@RB_call_11, @RB_fld_41_2, @RW_call_36, @RB_call_13, @RW_fld_39_1, @RW_ld_37, @RA_len_37, @RW_call_70, @RW_st_37, @RW_fld_39_0, @RW_ld_36, @RW_eql_36, @RW_st_36, @RW_neq_36⟩
open Go.Fx
set_option maxRecDepth 100000
theorem mixedD : Tryz.prog.follows .mixedOrders = true := by kernel_rfl
section
variable (P : Program) (w : World) (K : Value -> World -> Prop)
def F16 (t0 : Value) : Prop :=
 kV P (Instr.alloc 48 true (.tuple #[])) w fun v2 w =>
 kN P (callN (.func (.func 38) #[] #[]) #[]) w fun v10 w =>
 loopT (fun R0 s0 w => ∀ _ : Nat -> Value,
 kV P (Builtin.len_ #[95] 3 #[v10]) w fun v13 w =>
 kV P (binV .lss 3 (.tmp 11) (.tmp 13) (s0.getD 0 undef) v13) w fun v14 w =>
 condK v14
 (kV P (Instr.indexAt 95 v10 (s0.getD 0 undef)) w fun v19 w =>
 kV P (Instr.fieldAt 98 v19 1) w fun v20 w =>
 kV P (Instr.loadAt 5 v20) w fun v21 w =>
 kV P (binV .add 3 (.tmp 22) (.const (.int .i64 1)) (s0.getD 0 undef) (.int .i64 1)) w fun v23 w =>
 kN P (callN (.func (.func 39) #[] #[]) #[t0, v21]) w fun v26 w =>
 kV P (Instr.build 48 #[(0, v23), (4, v26)]) w fun v27 w =>
 kV P (Instr.alloc 48 true (.tuple #[])) w fun v7 w =>
 kU P (Instr.storeAt 48 v7 v27) w fun _ w =>
 joinL (fun J2 =>
 kV P (binV .neq 5 (.tmp 28) (.const (.int .u8 83)) v21 (.int .u8 83)) w fun v29 w =>
 joinK (fun J14 : Value -> World -> Prop => gdK (yb v29) true (fun k => k v21 w) w fun v31 w =>
 gdK (yb v29) true (fun k => kV P (binV .neq 5 (.tmp 31) (.const (.int .u8 66)) v31 (.int .u8 66)) w k) w fun v32 w =>
 kN P (pickN v29 v32 (.bool false)) w fun v33_1 w =>
 J14 v33_1 w) fun v33 w =>
 joinK (fun J15 : Value -> World -> Prop => gdK (yb v33) true (fun k => k v21 w) w fun v35 w =>
 gdK (yb v33) true (fun k => kV P (binV .neq 5 (.tmp 35) (.const (.int .u8 78)) v35 (.int .u8 78)) w k) w fun v36 w =>
 kN P (pickN v33 v36 (.bool false)) w fun v37_1 w =>
 J15 v37_1 w) fun v37 w =>
 condK v37
 (kN P (callN (.func (.func 40) #[] #[]) #[t0, (.int .i64 7), (.int .i64 5)]) w fun v39 w =>
 kV P (convert 55 3 v39) w fun v40 w =>
 kV P (Instr.fieldAt 48 v7 1) w fun v41 w =>
 kU P (Instr.storeAt 3 v41 v40) w fun _ w =>
 J2 [] w)
 (J2 [] w)) fun s2 w => ∀ _ : Nat -> Value,
 joinL (fun J4 =>
 kV P (binV .neq 5 (.tmp 42) (.const (.int .u8 85)) v21 (.int .u8 85)) w fun v43 w =>
 joinK (fun J12 : Value -> World -> Prop => gdK (yb v43) true (fun k => k v21 w) w fun v45 w =>
 gdK (yb v43) true (fun k => kV P (binV .neq 5 (.tmp 45) (.const (.int .u8 74)) v45 (.int .u8 74)) w k) w fun v46 w =>
 kN P (pickN v43 v46 (.bool false)) w fun v47_1 w =>
 J12 v47_1 w) fun v47 w =>
 joinK (fun J13 : Value -> World -> Prop => gdK (yb v47) true (fun k => k v21 w) w fun v49 w =>
 gdK (yb v47) true (fun k => kV P (binV .neq 5 (.tmp 49) (.const (.int .u8 78)) v49 (.int .u8 78)) w k) w fun v50 w =>
 kN P (pickN v47 v50 (.bool false)) w fun v51_1 w =>
 J13 v51_1 w) fun v51 w =>
 condK v51
 (kN P (callN (.func (.func 40) #[] #[]) #[t0, (.int .i64 15), (.int .i64 5)]) w fun v53 w =>
 kV P (convert 55 3 v53) w fun v54 w =>
 kV P (Instr.fieldAt 48 v7 2) w fun v55 w =>
 kU P (Instr.storeAt 3 v55 v54) w fun _ w =>
 J4 [] w)
 (J4 [] w)) fun s4 w => ∀ _ : Nat -> Value,
 joinL (fun J6 =>
 kV P (binV .eql 5 (.tmp 56) (.const (.int .u8 82)) v21 (.int .u8 82)) w fun v57 w =>
 joinK (fun J10 : Value -> World -> Prop => gdK (yb v57) false (fun k => k v21 w) w fun v59 w =>
 gdK (yb v57) false (fun k => kV P (binV .eql 5 (.tmp 59) (.const (.int .u8 83)) v59 (.int .u8 83)) w k) w fun v60 w =>
 kN P (pickN v57 (.bool true) v60) w fun v61_1 w =>
 J10 v61_1 w) fun v61 w =>
 joinK (fun J11 : Value -> World -> Prop => gdK (yb v61) false (fun k => k v21 w) w fun v63 w =>
 gdK (yb v61) false (fun k => kV P (binV .eql 5 (.tmp 63) (.const (.int .u8 66)) v63 (.int .u8 66)) w k) w fun v64 w =>
 kN P (pickN v61 (.bool true) v64) w fun v65_1 w =>
 J11 v65_1 w) fun v65 w =>
 condK v65
 (kN P (callN (.func (.func 40) #[] #[]) #[t0, (.int .i64 20), (.int .i64 5)]) w fun v67 w =>
 kV P (convert 55 3 v67) w fun v68 w =>
 kV P (Instr.fieldAt 48 v7 3) w fun v69 w =>
 kU P (Instr.storeAt 3 v69 v68) w fun _ w =>
 J6 [] w)
 (J6 [] w)) fun s6 w => ∀ _ : Nat -> Value,
 kV P (Instr.loadAt 48 v7) w fun v71 w =>
 kN P (callN (.func (.func 41) #[] #[]) #[v71]) w fun v72 w =>
 kV P (Instr.extract v72 0) w fun v73 w =>
 kV P (Instr.extract v72 1) w fun v74 w =>
 joinK (fun J8 : Value -> World -> Prop => gdK (yb v74) true (fun k => k v73 w) w fun v77 w =>
 gdK (yb v74) true (fun k => k t0 w) w fun v78 w =>
 gdK (yb v74) true (fun k => kV P (binV .eql 28 (.tmp 77) (.tmp 78) v77 v78) w k) w fun v79 w =>
 kN P (pickN v74 v79 (.bool false)) w fun v80_1 w =>
 J8 v80_1 w) fun v80 w =>
 condK v80
 (kV P (Instr.loadAt 48 v7) w fun v81 w =>
 kU P (Instr.storeAt 48 v2 v81) w fun _ w =>
 retV P 48 v2 w fun r9 =>
 K (.tuple #[r9, (.bool true)]) w)
 (kV P (binV .add 3 (.tmp 15) (.const (.int .i64 1)) (s0.getD 0 undef) (.int .i64 1)) w fun v16 w =>
 R0 [v16] w))
 (kV P (Instr.build 48 #[]) w fun v82 w =>
 kU P (Instr.storeAt 48 v2 v82) w fun _ w =>
 retV P 48 v2 w fun r16 =>
 K (.tuple #[r16, (.bool false)]) w)) [(.int .i64 0)] w
theorem F16_eq (t0 : Value) : funE P ⟨[], [(3, [5])], [(9, []), (11, []), (13, [])]⟩ Tryz.f16 [t0] w K = F16 P w K t0 := by kernel_rfl
theorem F16_ok (t0 : Value) (h : F16 Tryz.prog w K t0) : callsK Tryz.prog 16 #[t0] w K := calls_of_eq mixedD Tryz.func16 (F16_eq _ w K t0) h
def F38 : Prop :=
 kV P (Instr.build 98 #[(0, (.string ⟨#[108, 117, 105]⟩)), (1, (.int .u8 85)), (2, (.int .u32 55)), (3, (.int .u32 0)), (4, (.int .u32 0))]) w fun v1 w =>
 kV P (Instr.build 98 #[(0, (.string ⟨#[97, 117, 105, 112, 99]⟩)), (1, (.int .u8 85)), (2, (.int .u32 23)), (3, (.int .u32 0)), (4, (.int .u32 0))]) w fun v2 w =>
 kV P (Instr.build 98 #[(0, (.string ⟨#[106, 97, 108]⟩)), (1, (.int .u8 74)), (2, (.int .u32 111)), (3, (.int .u32 0)), (4, (.int .u32 0))]) w fun v3 w =>
 kV P (Instr.build 98 #[(0, (.string ⟨#[106, 97, 108, 114]⟩)), (1, (.int .u8 73)), (2, (.int .u32 103)), (3, (.int .u32 0)), (4, (.int .u32 0))]) w fun v4 w =>
 kV P (Instr.build 98 #[(0, (.string ⟨#[98, 101, 113]⟩)), (1, (.int .u8 66)), (2, (.int .u32 99)), (3, (.int .u32 0)), (4, (.int .u32 0))]) w fun v5 w =>
 kV P (Instr.build 98 #[(0, (.string ⟨#[98, 110, 101]⟩)), (1, (.int .u8 66)), (2, (.int .u32 99)), (3, (.int .u32 1)), (4, (.int .u32 0))]) w fun v6 w =>
 kV P (Instr.build 98 #[(0, (.string ⟨#[98, 108, 116]⟩)), (1, (.int .u8 66)), (2, (.int .u32 99)), (3, (.int .u32 4)), (4, (.int .u32 0))]) w fun v7 w =>
 kV P (Instr.build 98 #[(0, (.string ⟨#[98, 103, 101]⟩)), (1, (.int .u8 66)), (2, (.int .u32 99)), (3, (.int .u32 5)), (4, (.int .u32 0))]) w fun v8 w =>
 kV P (Instr.build 98 #[(0, (.string ⟨#[98, 108, 116, 117]⟩)), (1, (.int .u8 66)), (2, (.int .u32 99)), (3, (.int .u32 6)), (4, (.int .u32 0))]) w fun v9 w =>
 kV P (Instr.build 98 #[(0, (.string ⟨#[98, 103, 101, 117]⟩)), (1, (.int .u8 66)), (2, (.int .u32 99)), (3, (.int .u32 7)), (4, (.int .u32 0))]) w fun v10 w =>
 kV P (Instr.build 98 #[(0, (.string ⟨#[108, 98]⟩)), (1, (.int .u8 73)), (2, (.int .u32 3)), (3, (.int .u32 0)), (4, (.int .u32 0))]) w fun v11 w =>
 kV P (Instr.build 98 #[(0, (.string ⟨#[108, 104]⟩)), (1, (.int .u8 73)), (2, (.int .u32 3)), (3, (.int .u32 1)), (4, (.int .u32 0))]) w fun v12 w =>
 kV P (Instr.build 98 #[(0, (.string ⟨#[108, 119]⟩)), (1, (.int .u8 73)), (2, (.int .u32 3)), (3, (.int .u32 2)), (4, (.int .u32 0))]) w fun v13 w =>
 kV P (Instr.build 98 #[(0, (.string ⟨#[108, 100]⟩)), (1, (.int .u8 73)), (2, (.int .u32 3)), (3, (.int .u32 3)), (4, (.int .u32 0))]) w fun v14 w =>
 kV P (Instr.build 98 #[(0, (.string ⟨#[108, 98, 117]⟩)), (1, (.int .u8 73)), (2, (.int .u32 3)), (3, (.int .u32 4)), (4, (.int .u32 0))]) w fun v15 w =>
 kV P (Instr.build 98 #[(0, (.string ⟨#[108, 104, 117]⟩)), (1, (.int .u8 73)), (2, (.int .u32 3)), (3, (.int .u32 5)), (4, (.int .u32 0))]) w fun v16 w =>
 kV P (Instr.build 98 #[(0, (.string ⟨#[108, 119, 117]⟩)), (1, (.int .u8 73)), (2, (.int .u32 3)), (3, (.int .u32 6)), (4, (.int .u32 0))]) w fun v17 w =>
 kV P (Instr.build 98 #[(0, (.string ⟨#[115, 98]⟩)), (1, (.int .u8 83)), (2, (.int .u32 35)), (3, (.int .u32 0)), (4, (.int .u32 0))]) w fun v18 w =>
 kV P (Instr.build 98 #[(0, (.string ⟨#[115, 104]⟩)), (1, (.int .u8 83)), (2, (.int .u32 35)), (3, (.int .u32 1)), (4, (.int .u32 0))]) w fun v19 w =>
 kV P (Instr.build 98 #[(0, (.string ⟨#[115, 119]⟩)), (1, (.int .u8 83)), (2, (.int .u32 35)), (3, (.int .u32 2)), (4, (.int .u32 0))]) w fun v20 w =>
 kV P (Instr.build 98 #[(0, (.string ⟨#[115, 100]⟩)), (1, (.int .u8 83)), (2, (.int .u32 35)), (3, (.int .u32 3)), (4, (.int .u32 0))]) w fun v21 w =>
 kV P (Instr.build 98 #[(0, (.string ⟨#[97, 100, 100, 105]⟩)), (1, (.int .u8 73)), (2, (.int .u32 19)), (3, (.int .u32 0)), (4, (.int .u32 0))]) w fun v22 w =>
 kV P (Instr.build 98 #[(0, (.string ⟨#[115, 108, 116, 105]⟩)), (1, (.int .u8 73)), (2, (.int .u32 19)), (3, (.int .u32 2)), (4, (.int .u32 0))]) w fun v23 w =>
 kV P (Instr.build 98 #[(0, (.string ⟨#[115, 108, 116, 105, 117]⟩)), (1, (.int .u8 73)), (2, (.int .u32 19)), (3, (.int .u32 3)), (4, (.int .u32 0))]) w fun v24 w =>
 kV P (Instr.build 98 #[(0, (.string ⟨#[120, 111, 114, 105]⟩)), (1, (.int .u8 73)), (2, (.int .u32 19)), (3, (.int .u32 4)), (4, (.int .u32 0))]) w fun v25 w =>
 kV P (Instr.build 98 #[(0, (.string ⟨#[111, 114, 105]⟩)), (1, (.int .u8 73)), (2, (.int .u32 19)), (3, (.int .u32 6)), (4, (.int .u32 0))]) w fun v26 w =>
 kV P (Instr.build 98 #[(0, (.string ⟨#[97, 110, 100, 105]⟩)), (1, (.int .u8 73)), (2, (.int .u32 19)), (3, (.int .u32 7)), (4, (.int .u32 0))]) w fun v27 w =>
 kV P (Instr.build 98 #[(0, (.string ⟨#[115, 108, 108, 105]⟩)), (1, (.int .u8 72)), (2, (.int .u32 19)), (3, (.int .u32 1)), (4, (.int .u32 0))]) w fun v28 w =>
 kV P (Instr.build 98 #[(0, (.string ⟨#[115, 114, 108, 105]⟩)), (1, (.int .u8 72)), (2, (.int .u32 19)), (3, (.int .u32 5)), (4, (.int .u32 0))]) w fun v29 w =>
 kV P (Instr.build 98 #[(0, (.string ⟨#[115, 114, 97, 105]⟩)), (1, (.int .u8 72)), (2, (.int .u32 19)), (3, (.int .u32 5)), (4, (.int .u32 16))]) w fun v30 w =>
 kV P (Instr.build 98 #[(0, (.string ⟨#[97, 100, 100]⟩)), (1, (.int .u8 82)), (2, (.int .u32 51)), (3, (.int .u32 0)), (4, (.int .u32 0))]) w fun v31 w =>
 kV P (Instr.build 98 #[(0, (.string ⟨#[115, 117, 98]⟩)), (1, (.int .u8 82)), (2, (.int .u32 51)), (3, (.int .u32 0)), (4, (.int .u32 32))]) w fun v32 w =>
 kV P (Instr.build 98 #[(0, (.string ⟨#[115, 108, 108]⟩)), (1, (.int .u8 82)), (2, (.int .u32 51)), (3, (.int .u32 1)), (4, (.int .u32 0))]) w fun v33 w =>
 kV P (Instr.build 98 #[(0, (.string ⟨#[115, 108, 116]⟩)), (1, (.int .u8 82)), (2, (.int .u32 51)), (3, (.int .u32 2)), (4, (.int .u32 0))]) w fun v34 w =>
 kV P (Instr.build 98 #[(0, (.string ⟨#[115, 108, 116, 117]⟩)), (1, (.int .u8 82)), (2, (.int .u32 51)), (3, (.int .u32 3)), (4, (.int .u32 0))]) w fun v35 w =>
 kV P (Instr.build 98 #[(0, (.string ⟨#[120, 111, 114]⟩)), (1, (.int .u8 82)), (2, (.int .u32 51)), (3, (.int .u32 4)), (4, (.int .u32 0))]) w fun v36 w =>
 kV P (Instr.build 98 #[(0, (.string ⟨#[115, 114, 108]⟩)), (1, (.int .u8 82)), (2, (.int .u32 51)), (3, (.int .u32 5)), (4, (.int .u32 0))]) w fun v37 w =>
 kV P (Instr.build 98 #[(0, (.string ⟨#[115, 114, 97]⟩)), (1, (.int .u8 82)), (2, (.int .u32 51)), (3, (.int .u32 5)), (4, (.int .u32 32))]) w fun v38 w =>
 kV P (Instr.build 98 #[(0, (.string ⟨#[111, 114]⟩)), (1, (.int .u8 82)), (2, (.int .u32 51)), (3, (.int .u32 6)), (4, (.int .u32 0))]) w fun v39 w =>
 kV P (Instr.build 98 #[(0, (.string ⟨#[97, 110, 100]⟩)), (1, (.int .u8 82)), (2, (.int .u32 51)), (3, (.int .u32 7)), (4, (.int .u32 0))]) w fun v40 w =>
 kV P (Instr.build 98 #[(0, (.string ⟨#[101, 99, 97, 108, 108]⟩)), (1, (.int .u8 78)), (2, (.int .u32 115)), (3, (.int .u32 0)), (4, (.int .u32 0))]) w fun v41 w =>
 kV P (Instr.build 98 #[(0, (.string ⟨#[101, 98, 114, 101, 97, 107]⟩)), (1, (.int .u8 78)), (2, (.int .u32 115)), (3, (.int .u32 0)), (4, (.int .u32 1))]) w fun v42 w =>
 kV P (Instr.build 98 #[(0, (.string ⟨#[99, 108, 99]⟩)), (1, (.int .u8 73)), (2, (.int .u32 15)), (3, (.int .u32 2)), (4, (.int .u32 0))]) w fun v43 w =>
 kV P (Instr.build 98 #[(0, (.string ⟨#[99, 115, 99]⟩)), (1, (.int .u8 83)), (2, (.int .u32 35)), (3, (.int .u32 4)), (4, (.int .u32 0))]) w fun v44 w =>
 kV P (Instr.build 98 #[(0, (.string ⟨#[99, 115, 101, 116, 98, 111, 117, 110, 100, 115]⟩)), (1, (.int .u8 82)), (2, (.int .u32 91)), (3, (.int .u32 0)), (4, (.int .u32 8))]) w fun v45 w =>
 kV P (Instr.build 98 #[(0, (.string ⟨#[99, 115, 101, 116, 98, 111, 117, 110, 100, 115, 101, 120, 97, 99, 116]⟩)), (1, (.int .u8 82)), (2, (.int .u32 91)), (3, (.int .u32 0)), (4, (.int .u32 9))]) w fun v46 w =>
 kV P (Instr.build 98 #[(0, (.string ⟨#[99, 115, 101, 97, 108]⟩)), (1, (.int .u8 82)), (2, (.int .u32 91)), (3, (.int .u32 0)), (4, (.int .u32 11))]) w fun v47 w =>
 kV P (Instr.build 98 #[(0, (.string ⟨#[99, 117, 110, 115, 101, 97, 108]⟩)), (1, (.int .u8 82)), (2, (.int .u32 91)), (3, (.int .u32 0)), (4, (.int .u32 12))]) w fun v48 w =>
 kV P (Instr.build 98 #[(0, (.string ⟨#[99, 97, 110, 100, 112, 101, 114, 109]⟩)), (1, (.int .u8 82)), (2, (.int .u32 91)), (3, (.int .u32 0)), (4, (.int .u32 13))]) w fun v49 w =>
 kV P (Instr.build 98 #[(0, (.string ⟨#[99, 115, 101, 116, 97, 100, 100, 114]⟩)), (1, (.int .u8 82)), (2, (.int .u32 91)), (3, (.int .u32 0)), (4, (.int .u32 16))]) w fun v50 w =>
 kV P (Instr.build 98 #[(0, (.string ⟨#[99, 105, 110, 99, 111, 102, 102, 115, 101, 116]⟩)), (1, (.int .u8 82)), (2, (.int .u32 91)), (3, (.int .u32 0)), (4, (.int .u32 17))]) w fun v51 w =>
 kV P (Instr.build 98 #[(0, (.string ⟨#[99, 115, 117, 98]⟩)), (1, (.int .u8 82)), (2, (.int .u32 91)), (3, (.int .u32 0)), (4, (.int .u32 20))]) w fun v52 w =>
 kV P (Instr.build 98 #[(0, (.string ⟨#[99, 98, 117, 105, 108, 100, 99, 97, 112]⟩)), (1, (.int .u8 82)), (2, (.int .u32 91)), (3, (.int .u32 0)), (4, (.int .u32 29))]) w fun v53 w =>
 kV P (Instr.build 98 #[(0, (.string ⟨#[99, 116, 101, 115, 116, 115, 117, 98, 115, 101, 116]⟩)), (1, (.int .u8 82)), (2, (.int .u32 91)), (3, (.int .u32 0)), (4, (.int .u32 32))]) w fun v54 w =>
 kV P (Instr.build 98 #[(0, (.string ⟨#[99, 115, 101, 116, 101, 113, 117, 97, 108]⟩)), (1, (.int .u8 82)), (2, (.int .u32 91)), (3, (.int .u32 0)), (4, (.int .u32 33))]) w fun v55 w =>
 kV P (Instr.build 98 #[(0, (.string ⟨#[99, 103, 101, 116, 112, 101, 114, 109]⟩)), (1, (.int .u8 71)), (2, (.int .u32 91)), (3, (.int .u32 0)), (4, (.int .u32 0))]) w fun v56 w =>
 kV P (Instr.build 98 #[(0, (.string ⟨#[99, 103, 101, 116, 116, 121, 112, 101]⟩)), (1, (.int .u8 71)), (2, (.int .u32 91)), (3, (.int .u32 0)), (4, (.int .u32 1))]) w fun v57 w =>
 kV P (Instr.build 98 #[(0, (.string ⟨#[99, 103, 101, 116, 98, 97, 115, 101]⟩)), (1, (.int .u8 71)), (2, (.int .u32 91)), (3, (.int .u32 0)), (4, (.int .u32 2))]) w fun v58 w =>
 kV P (Instr.build 98 #[(0, (.string ⟨#[99, 103, 101, 116, 108, 101, 110]⟩)), (1, (.int .u8 71)), (2, (.int .u32 91)), (3, (.int .u32 0)), (4, (.int .u32 3))]) w fun v59 w =>
 kV P (Instr.build 98 #[(0, (.string ⟨#[99, 103, 101, 116, 116, 97, 103]⟩)), (1, (.int .u8 71)), (2, (.int .u32 91)), (3, (.int .u32 0)), (4, (.int .u32 4))]) w fun v60 w =>
 kV P (Instr.build 98 #[(0, (.string ⟨#[99, 103, 101, 116, 111, 102, 102, 115, 101, 116]⟩)), (1, (.int .u8 71)), (2, (.int .u32 91)), (3, (.int .u32 0)), (4, (.int .u32 6))]) w fun v61 w =>
 kV P (Instr.build 98 #[(0, (.string ⟨#[99, 114, 114, 108]⟩)), (1, (.int .u8 71)), (2, (.int .u32 91)), (3, (.int .u32 0)), (4, (.int .u32 8))]) w fun v62 w =>
 kV P (Instr.build 98 #[(0, (.string ⟨#[99, 114, 97, 109]⟩)), (1, (.int .u8 71)), (2, (.int .u32 91)), (3, (.int .u32 0)), (4, (.int .u32 9))]) w fun v63 w =>
 kV P (Instr.build 98 #[(0, (.string ⟨#[99, 109, 111, 118, 101]⟩)), (1, (.int .u8 71)), (2, (.int .u32 91)), (3, (.int .u32 0)), (4, (.int .u32 10))]) w fun v64 w =>
 kV P (Instr.build 98 #[(0, (.string ⟨#[99, 99, 108, 101, 97, 114, 116, 97, 103]⟩)), (1, (.int .u8 71)), (2, (.int .u32 91)), (3, (.int .u32 0)), (4, (.int .u32 11))]) w fun v65 w =>
 kV P (Instr.build 98 #[(0, (.string ⟨#[99, 103, 101, 116, 97, 100, 100, 114]⟩)), (1, (.int .u8 71)), (2, (.int .u32 91)), (3, (.int .u32 0)), (4, (.int .u32 15))]) w fun v66 w =>
 kV P (Instr.build 98 #[(0, (.string ⟨#[99, 115, 101, 97, 108, 101, 110, 116, 114, 121]⟩)), (1, (.int .u8 71)), (2, (.int .u32 91)), (3, (.int .u32 0)), (4, (.int .u32 17))]) w fun v67 w =>
 kV P (Instr.build 98 #[(0, (.string ⟨#[99, 105, 110, 99, 111, 102, 102, 115, 101, 116, 105, 109, 109]⟩)), (1, (.int .u8 73)), (2, (.int .u32 91)), (3, (.int .u32 1)), (4, (.int .u32 0))]) w fun v68 w =>
 kV P (Instr.build 98 #[(0, (.string ⟨#[99, 115, 101, 116, 98, 111, 117, 110, 100, 115, 105, 109, 109]⟩)), (1, (.int .u8 67)), (2, (.int .u32 91)), (3, (.int .u32 2)), (4, (.int .u32 0))]) w fun v69 w =>
 kV P (Instr.buildSlice 95 69 #[(0, v1), (1, v2), (2, v3), (3, v4), (4, v5), (5, v6), (6, v7), (7, v8), (8, v9), (9, v10), (10, v11), (11, v12), (12, v13), (13, v14), (14, v15), (15, v16), (16, v17), (17, v18), (18, v19), (19, v20), (20, v21), (21, v22), (22, v23), (23, v24), (24, v25), (25, v26), (26, v27), (27, v28), (28, v29), (29, v30), (30, v31), (31, v32), (32, v33), (33, v34), (34, v35), (35, v36), (36, v37), (37, v38), (38, v39), (39, v40), (40, v41), (41, v42), (42, v43), (43, v44), (44, v45), (45, v46), (46, v47), (47, v48), (48, v49), (49, v50), (50, v51), (51, v52), (52, v53), (53, v54), (54, v55), (55, v56), (56, v57), (57, v58), (58, v59), (59, v60), (60, v61), (61, v62), (62, v63), (63, v64), (64, v65), (65, v66), (66, v67), (67, v68), (68, v69)]) w fun v70 w =>
 K v70 w
theorem F38_eq : funE P ⟨[], [], []⟩ Tryz.f38 [] w K = F38 P w K  := by kernel_rfl
theorem F38_ok  (h : F38 Tryz.prog w K ) : callsK Tryz.prog 38 #[] w K := calls_of_eq mixedD Tryz.func38 (F38_eq _ w K ) h
def F39 (t0 t1 : Value) : Prop :=
 kV P (binV .eql 5 (.tmp 5) (.const (.int .u8 73)) t1 (.int .u8 73)) w fun v7 w =>
 condK v7
 (kN P (callN (.func (.func 40) #[] #[]) #[t0, (.int .i64 20), (.int .i64 12)]) w fun v9 w =>
 kN P (callN (.func (.func 71) #[] #[]) #[v9, (.int .i64 12)]) w fun v10 w =>
 K v10 w)
 (kV P (binV .eql 5 (.tmp 5) (.const (.int .u8 67)) t1 (.int .u8 67)) w fun v12 w =>
 condK v12
 (kN P (callN (.func (.func 40) #[] #[]) #[t0, (.int .i64 20), (.int .i64 12)]) w fun v14 w =>
 kV P (convert 55 2 v14) w fun v15 w =>
 K v15 w)
 (kV P (binV .eql 5 (.tmp 5) (.const (.int .u8 72)) t1 (.int .u8 72)) w fun v17 w =>
 condK v17
 (kN P (callN (.func (.func 40) #[] #[]) #[t0, (.int .i64 20), (.int .i64 6)]) w fun v19 w =>
 kV P (convert 55 2 v19) w fun v20 w =>
 K v20 w)
 (kV P (binV .eql 5 (.tmp 5) (.const (.int .u8 83)) t1 (.int .u8 83)) w fun v22 w =>
 condK v22
 (kN P (callN (.func (.func 40) #[] #[]) #[t0, (.int .i64 7), (.int .i64 5)]) w fun v24 w =>
 kN P (callN (.func (.func 40) #[] #[]) #[t0, (.int .i64 25), (.int .i64 7)]) w fun v26 w =>
 kV P (binV .shl 55 (.tmp 26) (.const (.int .u64 5)) v26 (.int .u64 5)) w fun v27 w =>
 kV P (binV .add 55 (.tmp 24) (.tmp 27) v24 v27) w fun v28 w =>
 kN P (callN (.func (.func 71) #[] #[]) #[v28, (.int .i64 12)]) w fun v29 w =>
 K v29 w)
 (kV P (binV .eql 5 (.tmp 5) (.const (.int .u8 66)) t1 (.int .u8 66)) w fun v31 w =>
 condK v31
 (kN P (callN (.func (.func 40) #[] #[]) #[t0, (.int .i64 8), (.int .i64 4)]) w fun v33 w =>
 kV P (binV .shl 55 (.tmp 33) (.const (.int .u64 1)) v33 (.int .u64 1)) w fun v34 w =>
 kN P (callN (.func (.func 40) #[] #[]) #[t0, (.int .i64 25), (.int .i64 6)]) w fun v36 w =>
 kV P (binV .shl 55 (.tmp 36) (.const (.int .u64 5)) v36 (.int .u64 5)) w fun v37 w =>
 kV P (binV .add 55 (.tmp 34) (.tmp 37) v34 v37) w fun v38 w =>
 kN P (callN (.func (.func 40) #[] #[]) #[t0, (.int .i64 7), (.int .i64 1)]) w fun v40 w =>
 kV P (binV .shl 55 (.tmp 40) (.const (.int .u64 11)) v40 (.int .u64 11)) w fun v41 w =>
 kV P (binV .add 55 (.tmp 38) (.tmp 41) v38 v41) w fun v42 w =>
 kN P (callN (.func (.func 40) #[] #[]) #[t0, (.int .i64 31), (.int .i64 1)]) w fun v44 w =>
 kV P (binV .shl 55 (.tmp 44) (.const (.int .u64 12)) v44 (.int .u64 12)) w fun v45 w =>
 kV P (binV .add 55 (.tmp 42) (.tmp 45) v42 v45) w fun v46 w =>
 kN P (callN (.func (.func 71) #[] #[]) #[v46, (.int .i64 13)]) w fun v47 w =>
 K v47 w)
 (kV P (binV .eql 5 (.tmp 5) (.const (.int .u8 85)) t1 (.int .u8 85)) w fun v49 w =>
 condK v49
 (kN P (callN (.func (.func 40) #[] #[]) #[t0, (.int .i64 12), (.int .i64 20)]) w fun v51 w =>
 kV P (binV .shl 55 (.tmp 51) (.const (.int .u64 12)) v51 (.int .u64 12)) w fun v52 w =>
 kN P (callN (.func (.func 71) #[] #[]) #[v52, (.int .i64 32)]) w fun v53 w =>
 K v53 w)
 (kV P (binV .eql 5 (.tmp 5) (.const (.int .u8 74)) t1 (.int .u8 74)) w fun v55 w =>
 condK v55
 (kN P (callN (.func (.func 40) #[] #[]) #[t0, (.int .i64 21), (.int .i64 10)]) w fun v57 w =>
 kV P (binV .shl 55 (.tmp 57) (.const (.int .u64 1)) v57 (.int .u64 1)) w fun v58 w =>
 kN P (callN (.func (.func 40) #[] #[]) #[t0, (.int .i64 20), (.int .i64 1)]) w fun v60 w =>
 kV P (binV .shl 55 (.tmp 60) (.const (.int .u64 11)) v60 (.int .u64 11)) w fun v61 w =>
 kV P (binV .add 55 (.tmp 58) (.tmp 61) v58 v61) w fun v62 w =>
 kN P (callN (.func (.func 40) #[] #[]) #[t0, (.int .i64 12), (.int .i64 8)]) w fun v64 w =>
 kV P (binV .shl 55 (.tmp 64) (.const (.int .u64 12)) v64 (.int .u64 12)) w fun v65 w =>
 kV P (binV .add 55 (.tmp 62) (.tmp 65) v62 v65) w fun v66 w =>
 kN P (callN (.func (.func 40) #[] #[]) #[t0, (.int .i64 31), (.int .i64 1)]) w fun v68 w =>
 kV P (binV .shl 55 (.tmp 68) (.const (.int .u64 20)) v68 (.int .u64 20)) w fun v69 w =>
 kV P (binV .add 55 (.tmp 66) (.tmp 69) v66 v69) w fun v70 w =>
 kN P (callN (.func (.func 71) #[] #[]) #[v70, (.int .i64 21)]) w fun v71 w =>
 K v71 w)
 (K (.int .i64 0) w)))))))
theorem F39_eq (t0 t1 : Value) : funE P ⟨[], [], []⟩ Tryz.f39 [t0, t1] w K = F39 P w K t0 t1 := by kernel_rfl
theorem F39_ok (t0 t1 : Value) (h : F39 Tryz.prog w K t0 t1) : callsK Tryz.prog 39 #[t0, t1] w K := calls_of_eq mixedD Tryz.func39 (F39_eq _ w K t0 t1) h
def F40 (t0 t1 t2 : Value) : Prop :=
 kV P (convert 28 55 t0) w fun v8 w =>
 kN P (callN (.func (.func 72) #[] #[]) #[v8, t1, t2]) w fun v11 w =>
 K v11 w
theorem F40_eq (t0 t1 t2 : Value) : funE P ⟨[], [], []⟩ Tryz.f40 [t0, t1, t2] w K = F40 P w K t0 t1 t2 := by kernel_rfl
theorem F40_ok (t0 t1 t2 : Value) (h : F40 Tryz.prog w K t0 t1 t2) : callsK Tryz.prog 40 #[t0, t1, t2] w K := calls_of_eq mixedD Tryz.func40 (F40_eq _ w K t0 t1 t2) h
def F41 (t0 : Value) : Prop :=
 kV P (Instr.box 48 t0) w fun v1 w =>
 kN P (callN (.func (.func 38) #[] #[]) #[]) w fun v11 w =>
 kV P (Instr.fieldAt 48 v1 0) w fun v12 w =>
 kV P (Instr.loadAt 3 v12) w fun v13 w =>
 kV P (binV .lss 3 (.tmp 13) (.const (.int .i64 1)) v13 (.int .i64 1)) w fun v14 w =>
 joinK (fun J0 : Value -> World -> Prop => gdK (yb v14) false (fun k => kV P (Instr.fieldAt 48 v1 0) w k) w fun v16 w =>
 gdK (yb v14) false (fun k => kV P (Instr.loadAt 3 v16) w k) w fun v17 w =>
 gdK (yb v14) false (fun k => k v11 w) w fun v18 w =>
 gdK (yb v14) false (fun k => kV P (Builtin.len_ #[95] 3 #[v18]) w k) w fun v19 w =>
 gdK (yb v14) false (fun k => kV P (binV .gtr 3 (.tmp 17) (.tmp 19) v17 v19) w k) w fun v20 w =>
 kN P (pickN v14 (.bool true) v20) w fun v21_1 w =>
 J0 v21_1 w) fun v21 w =>
 condK v21
 (K (.tuple #[(.int .u32 0), (.bool false)]) w)
 (kV P (Instr.fieldAt 48 v1 0) w fun v23 w =>
 kV P (Instr.loadAt 3 v23) w fun v24 w =>
 kV P (binV .sub 3 (.tmp 24) (.const (.int .i64 1)) v24 (.int .i64 1)) w fun v25 w =>
 kV P (Instr.indexAt 95 v11 v25) w fun v26 w =>
 kV P (Instr.loadAt 98 v26) w fun v27 w =>
 kV P (Instr.alloc 98 true (.tuple #[])) w fun v5 w =>
 kU P (Instr.storeAt 98 v5 v27) w fun _ w =>
 kV P (Instr.fieldAt 48 v1 4) w fun v28 w =>
 kV P (Instr.loadAt 2 v28) w fun v29 w =>
 kV P (Instr.fieldAt 98 v5 2) w fun v30 w =>
 kV P (Instr.loadAt 28 v30) w fun v31 w =>
 kV P (Instr.fieldAt 98 v5 3) w fun v32 w =>
 kV P (Instr.loadAt 28 v32) w fun v33 w =>
 kV P (binV .shl 28 (.tmp 33) (.const (.int .u64 12)) v33 (.int .u64 12)) w fun v34 w =>
 kV P (binV .add 28 (.tmp 31) (.tmp 34) v31 v34) w fun v35 w =>
 kV P (Instr.fieldAt 48 v1 1) w fun v36 w =>
 kV P (Instr.loadAt 3 v36) w fun v37 w =>
 kV P (binV .and 3 (.tmp 37) (.const (.int .i64 31)) v37 (.int .i64 31)) w fun v38 w =>
 kV P (convert 3 28 v38) w fun v39 w =>
 kV P (binV .shl 28 (.tmp 39) (.const (.int .u64 7)) v39 (.int .u64 7)) w fun v40 w =>
 kV P (Instr.fieldAt 48 v1 2) w fun v41 w =>
 kV P (Instr.loadAt 3 v41) w fun v42 w =>
 kV P (binV .and 3 (.tmp 42) (.const (.int .i64 31)) v42 (.int .i64 31)) w fun v43 w =>
 kV P (convert 3 28 v43) w fun v44 w =>
 kV P (binV .shl 28 (.tmp 44) (.const (.int .u64 15)) v44 (.int .u64 15)) w fun v45 w =>
 kV P (Instr.fieldAt 48 v1 3) w fun v46 w =>
 kV P (Instr.loadAt 3 v46) w fun v47 w =>
 kV P (binV .and 3 (.tmp 47) (.const (.int .i64 31)) v47 (.int .i64 31)) w fun v48 w =>
 kV P (convert 3 28 v48) w fun v49 w =>
 kV P (binV .shl 28 (.tmp 49) (.const (.int .u64 20)) v49 (.int .u64 20)) w fun v50 w =>
 kV P (Instr.fieldAt 98 v5 1) w fun v51 w =>
 kV P (Instr.loadAt 5 v51) w fun v52 w =>
 kV P (binV .eql 5 (.tmp 52) (.const (.int .u8 82)) v52 (.int .u8 82)) w fun v54 w =>
 condK v54
 (drewK (fun w =>
 sV P (binV .add 28 (.tmp 55) (.tmp 56) v35 v40) w fun v57 =>
 sV P (binV .add 28 (.tmp 57) (.tmp 58) v57 v45) w fun v59 =>
 sV P (binV .add 28 (.tmp 59) (.tmp 60) v59 v50) w fun v61 =>
 sV P (Instr.fieldAt 98 v5 4) w fun v62 =>
 sV P (Instr.loadAt 28 v62) w fun v63 =>
 sV P (binV .shl 28 (.tmp 63) (.const (.int .u64 25)) v63 (.int .u64 25)) w fun v64 =>
 sV P (binV .add 28 (.tmp 61) (.tmp 64) v61 v64) w fun v65 =>
 sV P (Instr.fieldAt 48 v1 1) w fun v66 =>
 sV P (Instr.loadAt 3 v66) w fun v67 =>
 sN P (callN (.func (.func 73) #[] #[]) #[v67]) w fun v68 =>
 joinK (fun J1 : Value -> Prop => gdS (yb v68) true (fun k => sV P (Instr.fieldAt 48 v1 2) w k) fun v70 =>
 gdS (yb v68) true (fun k => sV P (Instr.loadAt 3 v70) w k) fun v71 =>
 gdS (yb v68) true (fun k => sN P (callN (.func (.func 73) #[] #[]) #[v71]) w k) fun v72 =>
 sN P (pickN v68 v72 (.bool false)) w fun v73_1 =>
 J1 v73_1) fun v73 =>
 joinK (fun J2 : Value -> Prop => gdS (yb v73) true (fun k => sV P (Instr.fieldAt 48 v1 3) w k) fun v75 =>
 gdS (yb v73) true (fun k => sV P (Instr.loadAt 3 v75) w k) fun v76 =>
 gdS (yb v73) true (fun k => sN P (callN (.func (.func 73) #[] #[]) #[v76]) w k) fun v77 =>
 sN P (pickN v73 v77 (.bool false)) w fun v78_1 =>
 J2 v78_1) fun v78 =>
 K (.tuple #[v65, v78]) w) w)
 (kV P (binV .eql 5 (.tmp 52) (.const (.int .u8 71)) v52 (.int .u8 71)) w fun v80 w =>
 condK v80
 (drewK (fun w =>
 sV P (binV .add 28 (.tmp 81) (.tmp 82) v35 v40) w fun v83 =>
 sV P (binV .add 28 (.tmp 83) (.tmp 84) v83 v45) w fun v85 =>
 sV P (Instr.fieldAt 98 v5 4) w fun v86 =>
 sV P (Instr.loadAt 28 v86) w fun v87 =>
 sV P (binV .shl 28 (.tmp 87) (.const (.int .u64 20)) v87 (.int .u64 20)) w fun v88 =>
 sV P (binV .add 28 (.tmp 85) (.tmp 88) v85 v88) w fun v89 =>
 sV P (binV .add 28 (.tmp 89) (.const (.int .u32 4261412864)) v89 (.int .u32 4261412864)) w fun v90 =>
 sV P (Instr.fieldAt 48 v1 1) w fun v91 =>
 sV P (Instr.loadAt 3 v91) w fun v92 =>
 sN P (callN (.func (.func 73) #[] #[]) #[v92]) w fun v93 =>
 joinK (fun J3 : Value -> Prop => gdS (yb v93) true (fun k => sV P (Instr.fieldAt 48 v1 2) w k) fun v95 =>
 gdS (yb v93) true (fun k => sV P (Instr.loadAt 3 v95) w k) fun v96 =>
 gdS (yb v93) true (fun k => sN P (callN (.func (.func 73) #[] #[]) #[v96]) w k) fun v97 =>
 sN P (pickN v93 v97 (.bool false)) w fun v98_1 =>
 J3 v98_1) fun v98 =>
 K (.tuple #[v90, v98]) w) w)
 (kV P (binV .eql 5 (.tmp 52) (.const (.int .u8 78)) v52 (.int .u8 78)) w fun v100 w =>
 condK v100
 (kV P (Instr.fieldAt 98 v5 2) w fun v101 w =>
 kV P (Instr.loadAt 28 v101) w fun v102 w =>
 kV P (Instr.fieldAt 98 v5 4) w fun v103 w =>
 kV P (Instr.loadAt 28 v103) w fun v104 w =>
 kV P (binV .shl 28 (.tmp 104) (.const (.int .u64 20)) v104 (.int .u64 20)) w fun v105 w =>
 kV P (binV .add 28 (.tmp 102) (.tmp 105) v102 v105) w fun v106 w =>
 K (.tuple #[v106, (.bool true)]) w)
 (joinL (fun J4 =>
 kV P (binV .eql 5 (.tmp 52) (.const (.int .u8 73)) v52 (.int .u8 73)) w fun v108 w =>
 condK v108
 (J4 [v108] w)
 (kV P (binV .eql 5 (.tmp 52) (.const (.int .u8 67)) v52 (.int .u8 67)) w fun v109 w =>
 J4 [v109] w)) fun s4 w => ∀ _ : Nat -> Value,
 condK (s4.getD 0 undef)
 (drewK (fun w =>
 sV P (binV .add 28 (.tmp 110) (.tmp 111) v35 v40) w fun v112 =>
 sV P (binV .add 28 (.tmp 112) (.tmp 113) v112 v45) w fun v114 =>
 sN P (callN (.func (.func 74) #[] #[]) #[v29, (.int .i64 0), (.int .i64 12), (.int .i64 20)]) w fun v116 =>
 sV P (binV .add 28 (.tmp 114) (.tmp 116) v114 v116) w fun v117 =>
 sV P (Instr.fieldAt 48 v1 1) w fun v118 =>
 sV P (Instr.loadAt 3 v118) w fun v119 =>
 sN P (callN (.func (.func 73) #[] #[]) #[v119]) w fun v120 =>
 joinK (fun J6 : Value -> Prop => gdS (yb v120) true (fun k => sV P (Instr.fieldAt 48 v1 2) w k) fun v122 =>
 gdS (yb v120) true (fun k => sV P (Instr.loadAt 3 v122) w k) fun v123 =>
 gdS (yb v120) true (fun k => sN P (callN (.func (.func 73) #[] #[]) #[v123]) w k) fun v124 =>
 sN P (pickN v120 v124 (.bool false)) w fun v125_1 =>
 J6 v125_1) fun v125 =>
 joinK (fun J7 : Value -> Prop => gdS (yb v125) true (fun k => k v29) fun v127 =>
 gdS (yb v125) true (fun k => sV P (Instr.fieldAt 98 v5 1) w k) fun v128 =>
 gdS (yb v125) true (fun k => sV P (Instr.loadAt 5 v128) w k) fun v129 =>
 gdS (yb v125) true (fun k => sV P (binV .eql 5 (.tmp 129) (.const (.int .u8 73)) v129 (.int .u8 73)) w k) fun v130 =>
 gdS (yb v125) true (fun k => sN P (callN (.func (.func 75) #[] #[]) #[v127, (.int .i64 12), v130]) w k) fun v131 =>
 sN P (pickN v125 v131 (.bool false)) w fun v132_1 =>
 J7 v132_1) fun v132 =>
 K (.tuple #[v117, v132]) w) w)
 (kV P (binV .eql 5 (.tmp 52) (.const (.int .u8 72)) v52 (.int .u8 72)) w fun v134 w =>
 condK v134
 (drewK (fun w =>
 sV P (binV .add 28 (.tmp 135) (.tmp 136) v35 v40) w fun v137 =>
 sV P (binV .add 28 (.tmp 137) (.tmp 138) v137 v45) w fun v139 =>
 sN P (callN (.func (.func 74) #[] #[]) #[v29, (.int .i64 0), (.int .i64 6), (.int .i64 20)]) w fun v141 =>
 sV P (binV .add 28 (.tmp 139) (.tmp 141) v139 v141) w fun v142 =>
 sV P (Instr.fieldAt 98 v5 4) w fun v143 =>
 sV P (Instr.loadAt 28 v143) w fun v144 =>
 sV P (binV .shl 28 (.tmp 144) (.const (.int .u64 26)) v144 (.int .u64 26)) w fun v145 =>
 sV P (binV .add 28 (.tmp 142) (.tmp 145) v142 v145) w fun v146 =>
 sV P (Instr.fieldAt 48 v1 1) w fun v147 =>
 sV P (Instr.loadAt 3 v147) w fun v148 =>
 sN P (callN (.func (.func 73) #[] #[]) #[v148]) w fun v149 =>
 joinK (fun J8 : Value -> Prop => gdS (yb v149) true (fun k => sV P (Instr.fieldAt 48 v1 2) w k) fun v151 =>
 gdS (yb v149) true (fun k => sV P (Instr.loadAt 3 v151) w k) fun v152 =>
 gdS (yb v149) true (fun k => sN P (callN (.func (.func 73) #[] #[]) #[v152]) w k) fun v153 =>
 sN P (pickN v149 v153 (.bool false)) w fun v154_1 =>
 J8 v154_1) fun v154 =>
 joinK (fun J9 : Value -> Prop => gdS (yb v154) true (fun k => k v29) fun v156 =>
 gdS (yb v154) true (fun k => sN P (callN (.func (.func 75) #[] #[]) #[v156, (.int .i64 6), (.bool false)]) w k) fun v157 =>
 sN P (pickN v154 v157 (.bool false)) w fun v158_1 =>
 J9 v158_1) fun v158 =>
 K (.tuple #[v146, v158]) w) w)
 (kV P (binV .eql 5 (.tmp 52) (.const (.int .u8 83)) v52 (.int .u8 83)) w fun v160 w =>
 condK v160
 (drewK (fun w =>
 sV P (binV .add 28 (.tmp 161) (.tmp 162) v35 v45) w fun v163 =>
 sV P (binV .add 28 (.tmp 163) (.tmp 164) v163 v50) w fun v165 =>
 sN P (callN (.func (.func 74) #[] #[]) #[v29, (.int .i64 0), (.int .i64 5), (.int .i64 7)]) w fun v167 =>
 sV P (binV .add 28 (.tmp 165) (.tmp 167) v165 v167) w fun v168 =>
 sN P (callN (.func (.func 74) #[] #[]) #[v29, (.int .i64 5), (.int .i64 7), (.int .i64 25)]) w fun v170 =>
 sV P (binV .add 28 (.tmp 168) (.tmp 170) v168 v170) w fun v171 =>
 sV P (Instr.fieldAt 48 v1 2) w fun v172 =>
 sV P (Instr.loadAt 3 v172) w fun v173 =>
 sN P (callN (.func (.func 73) #[] #[]) #[v173]) w fun v174 =>
 joinK (fun J10 : Value -> Prop => gdS (yb v174) true (fun k => sV P (Instr.fieldAt 48 v1 3) w k) fun v176 =>
 gdS (yb v174) true (fun k => sV P (Instr.loadAt 3 v176) w k) fun v177 =>
 gdS (yb v174) true (fun k => sN P (callN (.func (.func 73) #[] #[]) #[v177]) w k) fun v178 =>
 sN P (pickN v174 v178 (.bool false)) w fun v179_1 =>
 J10 v179_1) fun v179 =>
 joinK (fun J11 : Value -> Prop => gdS (yb v179) true (fun k => k v29) fun v181 =>
 gdS (yb v179) true (fun k => sN P (callN (.func (.func 75) #[] #[]) #[v181, (.int .i64 12), (.bool true)]) w k) fun v182 =>
 sN P (pickN v179 v182 (.bool false)) w fun v183_1 =>
 J11 v183_1) fun v183 =>
 K (.tuple #[v171, v183]) w) w)
 (kV P (binV .eql 5 (.tmp 52) (.const (.int .u8 66)) v52 (.int .u8 66)) w fun v185 w =>
 condK v185
 (drewK (fun w =>
 sV P (binV .add 28 (.tmp 186) (.tmp 187) v35 v45) w fun v188 =>
 sV P (binV .add 28 (.tmp 188) (.tmp 189) v188 v50) w fun v190 =>
 sN P (callN (.func (.func 74) #[] #[]) #[v29, (.int .i64 1), (.int .i64 4), (.int .i64 8)]) w fun v192 =>
 sV P (binV .add 28 (.tmp 190) (.tmp 192) v190 v192) w fun v193 =>
 sN P (callN (.func (.func 74) #[] #[]) #[v29, (.int .i64 5), (.int .i64 6), (.int .i64 25)]) w fun v195 =>
 sV P (binV .add 28 (.tmp 193) (.tmp 195) v193 v195) w fun v196 =>
 sN P (callN (.func (.func 74) #[] #[]) #[v29, (.int .i64 11), (.int .i64 1), (.int .i64 7)]) w fun v198 =>
 sV P (binV .add 28 (.tmp 196) (.tmp 198) v196 v198) w fun v199 =>
 sN P (callN (.func (.func 74) #[] #[]) #[v29, (.int .i64 12), (.int .i64 1), (.int .i64 31)]) w fun v201 =>
 sV P (binV .add 28 (.tmp 199) (.tmp 201) v199 v201) w fun v202 =>
 sV P (Instr.fieldAt 48 v1 2) w fun v203 =>
 sV P (Instr.loadAt 3 v203) w fun v204 =>
 sN P (callN (.func (.func 73) #[] #[]) #[v204]) w fun v205 =>
 joinK (fun J12 : Value -> Prop => gdS (yb v205) true (fun k => sV P (Instr.fieldAt 48 v1 3) w k) fun v207 =>
 gdS (yb v205) true (fun k => sV P (Instr.loadAt 3 v207) w k) fun v208 =>
 gdS (yb v205) true (fun k => sN P (callN (.func (.func 73) #[] #[]) #[v208]) w k) fun v209 =>
 sN P (pickN v205 v209 (.bool false)) w fun v210_1 =>
 J12 v210_1) fun v210 =>
 joinK (fun J13 : Value -> Prop => gdS (yb v210) true (fun k => k v29) fun v212 =>
 gdS (yb v210) true (fun k => sN P (callN (.func (.func 75) #[] #[]) #[v212, (.int .i64 13), (.bool true)]) w k) fun v213 =>
 sN P (pickN v210 v213 (.bool false)) w fun v214_1 =>
 J13 v214_1) fun v214 =>
 joinK (fun J14 : Value -> Prop => gdS (yb v214) true (fun k => k v29) fun v216 =>
 gdS (yb v214) true (fun k => sV P (binV .rem 2 (.tmp 216) (.const (.int .i64 2)) v216 (.int .i64 2)) w k) fun v217 =>
 gdS (yb v214) true (fun k => sV P (binV .eql 2 (.tmp 217) (.const (.int .i64 0)) v217 (.int .i64 0)) w k) fun v218 =>
 sN P (pickN v214 v218 (.bool false)) w fun v219_1 =>
 J14 v219_1) fun v219 =>
 K (.tuple #[v202, v219]) w) w)
 (kV P (binV .eql 5 (.tmp 52) (.const (.int .u8 85)) v52 (.int .u8 85)) w fun v221 w =>
 condK v221
 (drewK (fun w =>
 sV P (Instr.fieldAt 98 v5 2) w fun v222 =>
 sV P (Instr.loadAt 28 v222) w fun v223 =>
 sV P (binV .add 28 (.tmp 223) (.tmp 224) v223 v40) w fun v225 =>
 sN P (callN (.func (.func 74) #[] #[]) #[v29, (.int .i64 12), (.int .i64 20), (.int .i64 12)]) w fun v227 =>
 sV P (binV .add 28 (.tmp 225) (.tmp 227) v225 v227) w fun v228 =>
 sV P (Instr.fieldAt 48 v1 1) w fun v229 =>
 sV P (Instr.loadAt 3 v229) w fun v230 =>
 sN P (callN (.func (.func 73) #[] #[]) #[v230]) w fun v231 =>
 joinK (fun J15 : Value -> Prop => gdS (yb v231) true (fun k => k v29) fun v233 =>
 gdS (yb v231) true (fun k => sN P (callN (.func (.func 75) #[] #[]) #[v233, (.int .i64 32), (.bool true)]) w k) fun v234 =>
 sN P (pickN v231 v234 (.bool false)) w fun v235_1 =>
 J15 v235_1) fun v235 =>
 joinK (fun J16 : Value -> Prop => gdS (yb v235) true (fun k => k v29) fun v237 =>
 gdS (yb v235) true (fun k => sV P (binV .rem 2 (.tmp 237) (.const (.int .i64 4096)) v237 (.int .i64 4096)) w k) fun v238 =>
 gdS (yb v235) true (fun k => sV P (binV .eql 2 (.tmp 238) (.const (.int .i64 0)) v238 (.int .i64 0)) w k) fun v239 =>
 sN P (pickN v235 v239 (.bool false)) w fun v240_1 =>
 J16 v240_1) fun v240 =>
 K (.tuple #[v228, v240]) w) w)
 (drewK (fun w =>
 sV P (Instr.fieldAt 98 v5 2) w fun v241 =>
 sV P (Instr.loadAt 28 v241) w fun v242 =>
 sV P (binV .add 28 (.tmp 242) (.tmp 243) v242 v40) w fun v244 =>
 sN P (callN (.func (.func 74) #[] #[]) #[v29, (.int .i64 12), (.int .i64 8), (.int .i64 12)]) w fun v246 =>
 sV P (binV .add 28 (.tmp 244) (.tmp 246) v244 v246) w fun v247 =>
 sN P (callN (.func (.func 74) #[] #[]) #[v29, (.int .i64 11), (.int .i64 1), (.int .i64 20)]) w fun v249 =>
 sV P (binV .add 28 (.tmp 247) (.tmp 249) v247 v249) w fun v250 =>
 sN P (callN (.func (.func 74) #[] #[]) #[v29, (.int .i64 1), (.int .i64 10), (.int .i64 21)]) w fun v252 =>
 sV P (binV .add 28 (.tmp 250) (.tmp 252) v250 v252) w fun v253 =>
 sN P (callN (.func (.func 74) #[] #[]) #[v29, (.int .i64 20), (.int .i64 1), (.int .i64 31)]) w fun v255 =>
 sV P (binV .add 28 (.tmp 253) (.tmp 255) v253 v255) w fun v256 =>
 sV P (Instr.fieldAt 48 v1 1) w fun v257 =>
 sV P (Instr.loadAt 3 v257) w fun v258 =>
 sN P (callN (.func (.func 73) #[] #[]) #[v258]) w fun v259 =>
 joinK (fun J17 : Value -> Prop => gdS (yb v259) true (fun k => k v29) fun v261 =>
 gdS (yb v259) true (fun k => sN P (callN (.func (.func 75) #[] #[]) #[v261, (.int .i64 21), (.bool true)]) w k) fun v262 =>
 sN P (pickN v259 v262 (.bool false)) w fun v263_1 =>
 J17 v263_1) fun v263 =>
 joinK (fun J18 : Value -> Prop => gdS (yb v263) true (fun k => k v29) fun v265 =>
 gdS (yb v263) true (fun k => sV P (binV .rem 2 (.tmp 265) (.const (.int .i64 2)) v265 (.int .i64 2)) w k) fun v266 =>
 gdS (yb v263) true (fun k => sV P (binV .eql 2 (.tmp 266) (.const (.int .i64 0)) v266 (.int .i64 0)) w k) fun v267 =>
 sN P (pickN v263 v267 (.bool false)) w fun v268_1 =>
 J18 v268_1) fun v268 =>
 K (.tuple #[v256, v268]) w) w)))))))))
theorem F41_eq (t0 : Value) : funE P ⟨[], [], [(19, [107])]⟩ Tryz.f41 [t0] w K = F41 P w K t0 := by kernel_rfl
theorem F41_ok (t0 : Value) (h : F41 Tryz.prog w K t0) : callsK Tryz.prog 41 #[t0] w K := calls_of_eq mixedD Tryz.func41 (F41_eq _ w K t0) h
def F71 (t0 t1 : Value) : Prop :=
 kN P (callN (.func (.func 89) #[] #[]) #[t0, t1]) w fun v7 w =>
 kV P (convert 55 2 v7) w fun v8 w =>
 K v8 w
theorem F71_eq (t0 t1 : Value) : funE P ⟨[], [], []⟩ Tryz.f71 [t0, t1] w K = F71 P w K t0 t1 := by kernel_rfl
theorem F71_ok (t0 t1 : Value) (h : F71 Tryz.prog w K t0 t1) : callsK Tryz.prog 71 #[t0, t1] w K := calls_of_eq mixedD Tryz.func71 (F71_eq _ w K t0 t1) h
def F72 (t0 t1 t2 : Value) : Prop :=
 loopT (fun R0 s0 w => ∀ _ : Nat -> Value,
 kN P (callN (.func (.func 90) #[] #[]) #[t1, t2]) w fun v11 w =>
 joinK (fun J2 : Value -> World -> Prop => gdK (yb v11) true (fun k => k (s0.getD 1 undef) w) w fun v13 w =>
 gdK (yb v11) true (fun k => k t2 w) w fun v14 w =>
 gdK (yb v11) true (fun k => kV P (binV .lss 3 (.tmp 13) (.tmp 14) v13 v14) w k) w fun v15 w =>
 kN P (pickN v11 v15 (.bool false)) w fun v16_1 w =>
 J2 v16_1 w) fun v16 w =>
 condK v16
 (kV P (binV .add 3 (.tmp 21) (.tmp 22) t1 (s0.getD 1 undef)) w fun v23 w =>
 kV P (convert 3 136 v23) w fun v24 w =>
 kV P (binV .shr 55 (.tmp 20) (.tmp 24) t0 v24) w fun v25 w =>
 kV P (binV .and 55 (.tmp 25) (.const (.int .u64 1)) v25 (.int .u64 1)) w fun v26 w =>
 kV P (convert 3 136 (s0.getD 1 undef)) w fun v28 w =>
 kV P (binV .shl 55 (.tmp 26) (.tmp 28) v26 v28) w fun v29 w =>
 kV P (binV .or 55 (.tmp 19) (.tmp 29) (s0.getD 0 undef) v29) w fun v30 w =>
 kV P (binV .add 3 (.tmp 17) (.const (.int .i64 1)) (s0.getD 1 undef) (.int .i64 1)) w fun v18 w =>
 R0 [v30, v18] w)
 (K (s0.getD 0 undef) w)) [(.int .u64 0), (.int .i64 0)] w
theorem F72_eq (t0 t1 t2 : Value) : funE P ⟨[], [(3, [7, 8])], []⟩ Tryz.f72 [t0, t1, t2] w K = F72 P w K t0 t1 t2 := by kernel_rfl
theorem F72_ok (t0 t1 t2 : Value) (h : F72 Tryz.prog w K t0 t1 t2) : callsK Tryz.prog 72 #[t0, t1, t2] w K := calls_of_eq mixedD Tryz.func72 (F72_eq _ w K t0 t1 t2) h
def F73 (t0 : Value) : Prop :=
 kV P (binV .geq 3 (.tmp 3) (.const (.int .i64 0)) t0 (.int .i64 0)) w fun v4 w =>
 joinK (fun J0 : Value -> World -> Prop => gdK (yb v4) true (fun k => k t0 w) w fun v6 w =>
 gdK (yb v4) true (fun k => kV P (binV .leq 3 (.tmp 6) (.const (.int .i64 31)) v6 (.int .i64 31)) w k) w fun v7 w =>
 kN P (pickN v4 v7 (.bool false)) w fun v8_1 w =>
 J0 v8_1 w) fun v8 w =>
 K v8 w
theorem F73_eq (t0 : Value) : funE P ⟨[], [], []⟩ Tryz.f73 [t0] w K = F73 P w K t0 := by kernel_rfl
theorem F73_ok (t0 : Value) (h : F73 Tryz.prog w K t0) : callsK Tryz.prog 73 #[t0] w K := calls_of_eq mixedD Tryz.func73 (F73_eq _ w K t0) h
def F74 (t0 t1 t2 t3 : Value) : Prop :=
 kV P (convert 2 55 t0) w fun v10 w =>
 kN P (callN (.func (.func 72) #[] #[]) #[v10, t1, t2]) w fun v13 w =>
 kV P (convert 3 136 t3) w fun v15 w =>
 kV P (binV .shl 55 (.tmp 13) (.tmp 15) v13 v15) w fun v16 w =>
 kV P (convert 55 28 v16) w fun v17 w =>
 K v17 w
theorem F74_eq (t0 t1 t2 t3 : Value) : funE P ⟨[], [], []⟩ Tryz.f74 [t0, t1, t2, t3] w K = F74 P w K t0 t1 t2 t3 := by kernel_rfl
theorem F74_ok (t0 t1 t2 t3 : Value) (h : F74 Tryz.prog w K t0 t1 t2 t3) : callsK Tryz.prog 74 #[t0, t1, t2, t3] w K := calls_of_eq mixedD Tryz.func74 (F74_eq _ w K t0 t1 t2 t3) h
def F75 (t0 t1 t2 : Value) : Prop :=
 kV P (binV .lss 3 (.tmp 7) (.const (.int .i64 1)) t1 (.int .i64 1)) w fun v8 w =>
 joinK (fun J0 : Value -> World -> Prop => gdK (yb v8) false (fun k => k t1 w) w fun v10 w =>
 gdK (yb v8) false (fun k => kV P (binV .gtr 3 (.tmp 10) (.const (.int .i64 64)) v10 (.int .i64 64)) w k) w fun v11 w =>
 kN P (pickN v8 (.bool true) v11) w fun v12_1 w =>
 J0 v12_1 w) fun v12 w =>
 condK v12
 (K (.bool false) w)
 (condK t2
 (kV P (convert 2 55 t0) w fun v15 w =>
 kN P (callN (.func (.func 89) #[] #[]) #[v15, t1]) w fun v17 w =>
 kV P (convert 2 55 t0) w fun v19 w =>
 kV P (binV .eql 55 (.tmp 17) (.tmp 19) v17 v19) w fun v20 w =>
 K v20 w)
 (kV P (binV .geq 2 (.tmp 21) (.const (.int .i64 0)) t0 (.int .i64 0)) w fun v22 w =>
 joinK (fun J1 : Value -> World -> Prop => gdK (yb v22) true (fun k => k t0 w) w fun v24 w =>
 gdK (yb v22) true (fun k => kV P (convert 2 55 v24) w k) w fun v25 w =>
 gdK (yb v22) true (fun k => k t1 w) w fun v26 w =>
 gdK (yb v22) true (fun k => kN P (callN (.func (.func 72) #[] #[]) #[v25, (.int .i64 0), v26]) w k) w fun v27 w =>
 gdK (yb v22) true (fun k => k t0 w) w fun v28 w =>
 gdK (yb v22) true (fun k => kV P (convert 2 55 v28) w k) w fun v29 w =>
 gdK (yb v22) true (fun k => kV P (binV .eql 55 (.tmp 27) (.tmp 29) v27 v29) w k) w fun v30 w =>
 kN P (pickN v22 v30 (.bool false)) w fun v31_1 w =>
 J1 v31_1 w) fun v31 w =>
 K v31 w))
theorem F75_eq (t0 t1 t2 : Value) : funE P ⟨[], [], []⟩ Tryz.f75 [t0, t1, t2] w K = F75 P w K t0 t1 t2 := by kernel_rfl
theorem F75_ok (t0 t1 t2 : Value) (h : F75 Tryz.prog w K t0 t1 t2) : callsK Tryz.prog 75 #[t0, t1, t2] w K := calls_of_eq mixedD Tryz.func75 (F75_eq _ w K t0 t1 t2) h
def F89 (t0 t1 : Value) : Prop :=
 kV P (binV .lss 3 (.tmp 8) (.const (.int .i64 1)) t1 (.int .i64 1)) w fun v9 w =>
 joinK (fun J0 : Value -> World -> Prop => gdK (yb v9) false (fun k => k t1 w) w fun v11 w =>
 gdK (yb v9) false (fun k => kV P (binV .gtr 3 (.tmp 11) (.const (.int .i64 64)) v11 (.int .i64 64)) w k) w fun v12 w =>
 kN P (pickN v9 (.bool true) v12) w fun v13_1 w =>
 J0 v13_1 w) fun v13 w =>
 condK v13
 (K (.int .u64 0) w)
 (loopT (fun R1 s1 w => ∀ _ : Nat -> Value,
 kV P (binV .lss 3 (.tmp 14) (.const (.int .i64 64)) (s1.getD 1 undef) (.int .i64 64)) w fun v15 w =>
 condK v15
 (joinL (fun J3 =>
 kV P (binV .geq 3 (.tmp 19) (.tmp 20) (s1.getD 1 undef) t1) w fun v21 w =>
 condK v21
 (kV P (binV .sub 3 (.tmp 22) (.const (.int .i64 1)) t1 (.int .i64 1)) w fun v23 w =>
 J3 [v23] w)
 (J3 [(s1.getD 1 undef)] w)) fun s3 w => ∀ _ : Nat -> Value,
 kV P (convert 3 136 (s3.getD 0 undef)) w fun v27 w =>
 kV P (binV .shr 55 (.tmp 25) (.tmp 27) t0 v27) w fun v28 w =>
 kV P (binV .and 55 (.tmp 28) (.const (.int .u64 1)) v28 (.int .u64 1)) w fun v29 w =>
 kV P (convert 3 136 (s1.getD 1 undef)) w fun v31 w =>
 kV P (binV .shl 55 (.tmp 29) (.tmp 31) v29 v31) w fun v32 w =>
 kV P (binV .or 55 (.tmp 24) (.tmp 32) (s1.getD 0 undef) v32) w fun v33 w =>
 kV P (binV .add 3 (.tmp 16) (.const (.int .i64 1)) (s1.getD 1 undef) (.int .i64 1)) w fun v17 w =>
 R1 [v33, v17] w)
 (K (s1.getD 0 undef) w)) [(.int .u64 0), (.int .i64 0)] w)
theorem F89_eq (t0 t1 : Value) : funE P ⟨[], [(5, [5, 6])], [(10, [7])]⟩ Tryz.f89 [t0, t1] w K = F89 P w K t0 t1 := by kernel_rfl
theorem F89_ok (t0 t1 : Value) (h : F89 Tryz.prog w K t0 t1) : callsK Tryz.prog 89 #[t0, t1] w K := calls_of_eq mixedD Tryz.func89 (F89_eq _ w K t0 t1) h
def F90 (t0 t1 : Value) : Prop :=
 kV P (binV .geq 3 (.tmp 5) (.const (.int .i64 0)) t1 (.int .i64 0)) w fun v6 w =>
 joinK (fun J0 : Value -> World -> Prop => gdK (yb v6) true (fun k => k t1 w) w fun v8 w =>
 gdK (yb v6) true (fun k => kV P (binV .leq 3 (.tmp 8) (.const (.int .i64 64)) v8 (.int .i64 64)) w k) w fun v9 w =>
 kN P (pickN v6 v9 (.bool false)) w fun v10_1 w =>
 J0 v10_1 w) fun v10 w =>
 joinK (fun J1 : Value -> World -> Prop => gdK (yb v10) true (fun k => k t0 w) w fun v12 w =>
 gdK (yb v10) true (fun k => kV P (binV .geq 3 (.tmp 12) (.const (.int .i64 0)) v12 (.int .i64 0)) w k) w fun v13 w =>
 kN P (pickN v10 v13 (.bool false)) w fun v14_1 w =>
 J1 v14_1 w) fun v14 w =>
 joinK (fun J2 : Value -> World -> Prop => gdK (yb v14) true (fun k => k t0 w) w fun v16 w =>
 gdK (yb v14) true (fun k => k t1 w) w fun v17 w =>
 gdK (yb v14) true (fun k => kV P (binV .sub 3 (.const (.int .i64 64)) (.tmp 17) (.int .i64 64) v17) w k) w fun v18 w =>
 gdK (yb v14) true (fun k => kV P (binV .leq 3 (.tmp 16) (.tmp 18) v16 v18) w k) w fun v19 w =>
 kN P (pickN v14 v19 (.bool false)) w fun v20_1 w =>
 J2 v20_1 w) fun v20 w =>
 K v20 w
theorem F90_eq (t0 t1 : Value) : funE P ⟨[], [], []⟩ Tryz.f90 [t0, t1] w K = F90 P w K t0 t1 := by kernel_rfl
theorem F90_ok (t0 t1 : Value) (h : F90 Tryz.prog w K t0 t1) : callsK Tryz.prog 90 #[t0, t1] w K := calls_of_eq mixedD Tryz.func90 (F90_eq _ w K t0 t1) h
end
end Go.Proofs.YtobkjnmdbkieeaaGreatDoor
