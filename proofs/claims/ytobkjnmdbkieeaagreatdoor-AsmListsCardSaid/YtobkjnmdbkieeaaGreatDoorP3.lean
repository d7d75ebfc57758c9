/- Part 3 of what the law AsmLists stands on: formulas of the functions that it reaches, and what each of them does; conditions: those of each theorem. -/
import Derived.Test.YtobkjnmdbkieeaaGreatDoorP2
set_option linter.unusedVariables false
set_option linter.unusedSimpArgs false
namespace Go.Proofs.YtobkjnmdbkieeaaGreatDoor
open Go.Fx
set_option maxRecDepth 100000
set_option maxHeartbeats 4000000
theorem RD_call_16 : type_of% (Fx.kN_callf Tryz.call16) := Fx.kN_callf Tryz.call16
theorem RD_al_48 : type_of% (Fx.run_alloc Tryz.zeroValue48) := Fx.run_alloc Tryz.zeroValue48
theorem RD_call_38 : type_of% (Fx.kN_callf Tryz.call38) := Fx.kN_callf Tryz.call38
theorem RD_len_95 : ∀ (a : Option Addr) (len cap : Nat) (w : World), (Builtin.len_ #[95] 3 #[.slice a len cap]).run Tryz.prog w = .ok (.int .i64 len) w := Fx.run_len_slice Tryz.underlying95
theorem RD_ix_95 : type_of% (Fx.run_index_slice Tryz.underlying95 Tryz.sizeOf98) := Fx.run_index_slice Tryz.underlying95 Tryz.sizeOf98
theorem RD_fld_98_1 : ∀ (b o : Nat) (w : World), (Instr.fieldAt 98 (.pointer (some ⟨b, o, none⟩)) 1).run Tryz.prog w = .ok (.pointer (some ⟨b, o + 1, none⟩)) w := Fx.run_fieldO 1 1 1 Tryz.underlying98 rfl Tryz.sizeOf5 (by decide)
theorem RD_call_39 : type_of% (Fx.kN_callf Tryz.call39) := Fx.kN_callf Tryz.call39
theorem RD_bl_48_0_4 : ∀ (a0x0 : Int) (a4x0 : Int) (w : World), (Instr.build 48 [(0, .int .i64 a0x0), (4, .int .i64 a4x0)].toArray).run Tryz.prog w = .ok (.agg [.int .i64 a0x0, (.int .i64 0), (.int .i64 0), (.int .i64 0), .int .i64 a4x0].toArray) w := fun a0x0 a4x0 w => run_build w 48 _ _ (by kernel_rfl)
theorem RD_st_48 : type_of% (Fx.run_storeN' Tryz.sizeOf48) := Fx.run_storeN' Tryz.sizeOf48
theorem RD_call_40 : type_of% (Fx.kN_callf Tryz.call40) := Fx.kN_callf Tryz.call40
theorem RD_scall_40 : type_of% (Fx.sN_callf Tryz.call40) := Fx.sN_callf Tryz.call40
theorem RD_fld_48_1 : ∀ (b o : Nat) (w : World), (Instr.fieldAt 48 (.pointer (some ⟨b, o, none⟩)) 1).run Tryz.prog w = .ok (.pointer (some ⟨b, o + 1, none⟩)) w := Fx.run_fieldO 1 1 1 Tryz.underlying48 rfl Tryz.sizeOf3 (by decide)
theorem RD_fld_48_2 : ∀ (b o : Nat) (w : World), (Instr.fieldAt 48 (.pointer (some ⟨b, o, none⟩)) 2).run Tryz.prog w = .ok (.pointer (some ⟨b, o + 2, none⟩)) w := Fx.run_fieldO 2 2 1 Tryz.underlying48 rfl Tryz.sizeOf3 (by decide)
theorem RD_fld_48_3 : ∀ (b o : Nat) (w : World), (Instr.fieldAt 48 (.pointer (some ⟨b, o, none⟩)) 3).run Tryz.prog w = .ok (.pointer (some ⟨b, o + 3, none⟩)) w := Fx.run_fieldO 3 3 1 Tryz.underlying48 rfl Tryz.sizeOf3 (by decide)
theorem RD_ld_48 : type_of% (Fx.run_loadN' Tryz.isAgg48 Tryz.sizeOf48) := Fx.run_loadN' Tryz.isAgg48 Tryz.sizeOf48
theorem RD_call_41 : type_of% (Fx.kN_callf Tryz.call41) := Fx.kN_callf Tryz.call41
theorem RD_bl_48_ : ∀  (w : World), (Instr.build 48 [].toArray).run Tryz.prog w = .ok (.agg [(.int .i64 0), (.int .i64 0), (.int .i64 0), (.int .i64 0), (.int .i64 0)].toArray) w := fun w => run_build w 48 _ _ (by kernel_rfl)
theorem RD_bl_98_0_1_2_3_4 : ∀ (a0x0 : ByteArray) (a1x0 : Int) (a2x0 : Int) (a3x0 : Int) (a4x0 : Int) (w : World), (Instr.build 98 [(0, .string a0x0), (1, .int .u8 a1x0), (2, .int .u32 a2x0), (3, .int .u32 a3x0), (4, .int .u32 a4x0)].toArray).run Tryz.prog w = .ok (.agg [.string a0x0, .int .u8 a1x0, .int .u32 a2x0, .int .u32 a3x0, .int .u32 a4x0].toArray) w := fun a0x0 a1x0 a2x0 a3x0 a4x0 w => run_build w 98 _ _ (by kernel_rfl)
theorem RD_call_71 : type_of% (Fx.kN_callf Tryz.call71) := Fx.kN_callf Tryz.call71
theorem RD_scall_71 : type_of% (Fx.sN_callf Tryz.call71) := Fx.sN_callf Tryz.call71
theorem RD_call_72 : type_of% (Fx.kN_callf Tryz.call72) := Fx.kN_callf Tryz.call72
theorem RD_scall_72 : type_of% (Fx.sN_callf Tryz.call72) := Fx.sN_callf Tryz.call72
theorem RD_fld_48_0 : ∀ (b o : Nat) (w : World), (Instr.fieldAt 48 (.pointer (some ⟨b, o, none⟩)) 0).run Tryz.prog w = .ok (.pointer (some ⟨b, o, none⟩)) w := Fx.run_fieldO 0 0 1 Tryz.underlying48 rfl Tryz.sizeOf3 (by decide)
theorem RD_ld_98 : type_of% (Fx.run_loadN' Tryz.isAgg98 Tryz.sizeOf98) := Fx.run_loadN' Tryz.isAgg98 Tryz.sizeOf98
theorem RD_al_98 : type_of% (Fx.run_alloc Tryz.zeroValue98) := Fx.run_alloc Tryz.zeroValue98
theorem RD_st_98 : type_of% (Fx.run_storeN' Tryz.sizeOf98) := Fx.run_storeN' Tryz.sizeOf98
theorem RD_fld_48_4 : ∀ (b o : Nat) (w : World), (Instr.fieldAt 48 (.pointer (some ⟨b, o, none⟩)) 4).run Tryz.prog w = .ok (.pointer (some ⟨b, o + 4, none⟩)) w := Fx.run_fieldO 4 4 1 Tryz.underlying48 rfl Tryz.sizeOf2 (by decide)
theorem RD_fld_98_2 : ∀ (b o : Nat) (w : World), (Instr.fieldAt 98 (.pointer (some ⟨b, o, none⟩)) 2).run Tryz.prog w = .ok (.pointer (some ⟨b, o + 2, none⟩)) w := Fx.run_fieldO 2 2 1 Tryz.underlying98 rfl Tryz.sizeOf28 (by decide)
theorem RD_fld_98_3 : ∀ (b o : Nat) (w : World), (Instr.fieldAt 98 (.pointer (some ⟨b, o, none⟩)) 3).run Tryz.prog w = .ok (.pointer (some ⟨b, o + 3, none⟩)) w := Fx.run_fieldO 3 3 1 Tryz.underlying98 rfl Tryz.sizeOf28 (by decide)
theorem RD_cv_3_28 : type_of% (Fx.run_convert_int Tryz.underlying3 Tryz.underlying28) := Fx.run_convert_int Tryz.underlying3 Tryz.underlying28
theorem RD_fld_98_4 : ∀ (b o : Nat) (w : World), (Instr.fieldAt 98 (.pointer (some ⟨b, o, none⟩)) 4).run Tryz.prog w = .ok (.pointer (some ⟨b, o + 4, none⟩)) w := Fx.run_fieldO 4 4 1 Tryz.underlying98 rfl Tryz.sizeOf28 (by decide)
theorem RD_call_73 : type_of% (Fx.kN_callf Tryz.call73) := Fx.kN_callf Tryz.call73
theorem RD_scall_73 : type_of% (Fx.sN_callf Tryz.call73) := Fx.sN_callf Tryz.call73
theorem RD_call_74 : type_of% (Fx.kN_callf Tryz.call74) := Fx.kN_callf Tryz.call74
theorem RD_scall_74 : type_of% (Fx.sN_callf Tryz.call74) := Fx.sN_callf Tryz.call74
theorem RD_call_75 : type_of% (Fx.kN_callf Tryz.call75) := Fx.kN_callf Tryz.call75
theorem RD_scall_75 : type_of% (Fx.sN_callf Tryz.call75) := Fx.sN_callf Tryz.call75
theorem RD_call_89 : type_of% (Fx.kN_callf Tryz.call89) := Fx.kN_callf Tryz.call89
theorem RD_scall_89 : type_of% (Fx.sN_callf Tryz.call89) := Fx.sN_callf Tryz.call89
theorem RD_call_90 : type_of% (Fx.kN_callf Tryz.call90) := Fx.kN_callf Tryz.call90
theorem RD_scall_90 : type_of% (Fx.sN_callf Tryz.call90) := Fx.sN_callf Tryz.call90
theorem RD_cv_3_136 : type_of% (Fx.run_convert_int Tryz.underlying3 Tryz.underlying136) := Fx.run_convert_int Tryz.underlying3 Tryz.underlying136
theorem rulesD : type_of% (And.intro @RD_call_16 (And.intro @RD_al_48 (And.intro @RD_call_38 (And.intro @RD_len_95 (And.intro @RD_ix_95 (And.intro @RD_fld_98_1 (And.intro @RA_ld_5 (And.intro @RD_call_39 (And.intro @RD_bl_48_0_4 (And.intro @RD_st_48 (And.intro @RD_call_40 (And.intro @RD_scall_40 (And.intro @RX_cv_55_3 (And.intro @RD_fld_48_1 (And.intro @RA_st_3 (And.intro @RD_fld_48_2 (And.intro @RD_fld_48_3 (And.intro @RD_ld_48 (And.intro @RD_call_41 (And.intro @RD_bl_48_ (And.intro @RD_bl_98_0_1_2_3_4 (And.intro @RD_call_71 (And.intro @RD_scall_71 (And.intro @RC_cv_55_2 (And.intro @RX_cv_28_55 (And.intro @RD_call_72 (And.intro @RD_scall_72 (And.intro @RD_fld_48_0 (And.intro @RA_ld_3 (And.intro @RD_ld_98 (And.intro @RD_al_98 (And.intro @RD_st_98 (And.intro @RD_fld_48_4 (And.intro @RA_ld_2 (And.intro @RD_fld_98_2 (And.intro @RL_ld_28 (And.intro @RD_fld_98_3 (And.intro @RD_cv_3_28 (And.intro @RD_fld_98_4 (And.intro @RD_call_73 (And.intro @RD_scall_73 (And.intro @RD_call_74 (And.intro @RD_scall_74 (And.intro @RD_call_75 (And.intro @RD_scall_75 (And.intro @RD_call_89 (And.intro @RD_scall_89 (And.intro @RD_call_90 (And.intro @RD_scall_90 (And.intro @RD_cv_3_136 (And.intro @RA_cv_2_55 (@RX_cv_55_28)))))))))))))))))))))))))))))))))))))))))))))))))))) := ⟨@RD_call_16, @RD_al_48, @RD_call_38, @RD_len_95, @RD_ix_95, @RD_fld_98_1, @RA_ld_5, @RD_call_39, @RD_bl_48_0_4, @RD_st_48, @RD_call_40, @RD_scall_40, @RX_cv_55_3, @RD_fld_48_1, @RA_st_3, @RD_fld_48_2, @RD_fld_48_3, @RD_ld_48, @RD_call_41, @RD_bl_48_, @RD_bl_98_0_1_2_3_4, @RD_call_71, @RD_scall_71, @RC_cv_55_2, @RX_cv_28_55, @RD_call_72, @RD_scall_72, @RD_fld_48_0, @RA_ld_3, @RD_ld_98, @RD_al_98, @RD_st_98, @RD_fld_48_4, @RA_ld_2, @RD_fld_98_2, @RL_ld_28, @RD_fld_98_3, @RD_cv_3_28, @RD_fld_98_4, @RD_call_73, @RD_scall_73, @RD_call_74, @RD_scall_74, @RD_call_75, @RD_scall_75, @RD_call_89, @RD_scall_89, @RD_call_90, @RD_scall_90, @RD_cv_3_136, @RA_cv_2_55, @RX_cv_55_28⟩
open Go.Fx
set_option maxRecDepth 100000
theorem mixedE : Tryz.prog.follows .mixedOrders = true := by kernel_rfl
section
variable (P : Program) (w : World) (K : Value -> World -> Prop)
def F5 (t0 : Value) : Prop :=
 loopT (fun R0 s0 w => ∀ _ : Nat -> Value,
 kV P (Builtin.len_ #[22] 3 #[t0]) w fun v13 w =>
 kV P (binV .leq 3 (.tmp 11) (.tmp 13) (s0.getD 1 undef) v13) w fun v14 w =>
 condK v14
 (joinL (fun J2 =>
 joinL (fun J4 =>
 kN P (callN (.func (.func 14) #[] #[]) #[t0, (s0.getD 1 undef)]) w fun v19 w =>
 condK v19
 (kV P (binV .add 9 (.tmp 20) (.const (.string ⟨#[109]⟩)) (s0.getD 0 undef) (.string ⟨#[109]⟩)) w fun v21 w =>
 kN P (callN (.func (.func 15) #[] #[]) #[(s0.getD 1 undef)]) w fun v23 w =>
 kV P (binV .add 9 (.tmp 21) (.tmp 23) v21 v23) w fun v24 w =>
 kV P (binV .add 9 (.tmp 24) (.const (.string ⟨#[58, 10]⟩)) v24 (.string ⟨#[58, 10]⟩)) w fun v25 w =>
 J4 [v25] w)
 (J4 [(s0.getD 0 undef)] w)) fun s4 w => ∀ _ : Nat -> Value,
 kV P (Builtin.len_ #[22] 3 #[t0]) w fun v28 w =>
 kV P (binV .eql 3 (.tmp 26) (.tmp 28) (s0.getD 1 undef) v28) w fun v29 w =>
 condK v29
 (K (s4.getD 0 undef) w)
 (kV P (Instr.indexAt 22 t0 (s0.getD 1 undef)) w fun v34 w =>
 kV P (Instr.loadAt 28 v34) w fun v35 w =>
 kN P (callN (.func (.func 16) #[] #[]) #[v35]) w fun v36 w =>
 kV P (Instr.extract v36 0) w fun v37 w =>
 kV P (Instr.extract v36 1) w fun v38 w =>
 kV P (Instr.alloc 48 true (.tuple #[])) w fun v5 w =>
 kU P (Instr.storeAt 48 v5 v37) w fun _ w =>
 kV P (Op.unary .not v38) w fun v40 w =>
 condK v40
 (kV P (binV .add 9 (.tmp 41) (.const (.string ⟨#[35, 32, 119, 111, 114, 100, 32]⟩)) (s4.getD 0 undef) (.string ⟨#[35, 32, 119, 111, 114, 100, 32]⟩)) w fun v42 w =>
 kV P (Instr.indexAt 22 t0 (s0.getD 1 undef)) w fun v45 w =>
 kV P (Instr.loadAt 28 v45) w fun v46 w =>
 kN P (callN (.func (.func 17) #[] #[]) #[v46, (.int .i64 8)]) w fun v47 w =>
 kV P (binV .add 9 (.tmp 42) (.tmp 47) v42 v47) w fun v48 w =>
 kV P (binV .add 9 (.tmp 48) (.const (.string ⟨#[10]⟩)) v48 (.string ⟨#[10]⟩)) w fun v49 w =>
 J2 [v49] w)
 (kV P (Instr.loadAt 48 v5) w fun v50 w =>
 kN P (callN (.func (.func 18) #[] #[]) #[v50]) w fun v51 w =>
 kV P (Instr.loadAt 48 v5) w fun v53 w =>
 kV P (Builtin.len_ #[22] 3 #[t0]) w fun v56 w =>
 kN P (callN (.func (.func 19) #[] #[]) #[v53, (s0.getD 1 undef), v56]) w fun v57 w =>
 kV P (Instr.extract v57 0) w fun v58 w =>
 kV P (Instr.extract v57 1) w fun v59 w =>
 joinL (fun J6 =>
 condK v59
 (kV P (Builtin.len_ #[9] 3 #[v51]) w fun v62 w =>
 loopT (fun R8 s8 w => ∀ _ : Nat -> Value,
 kV P (binV .sub 3 (.tmp 64) (.const (.int .i64 1)) (s8.getD 0 undef) (.int .i64 1)) w fun v65 w =>
 kV P (Instr.index 9 v51 v65) w fun v66 w =>
 kV P (binV .neq 5 (.tmp 66) (.const (.int .u8 32)) v66 (.int .u8 32)) w fun v67 w =>
 condK v67
 (kV P (binV .sub 3 (.tmp 68) (.const (.int .i64 1)) (s8.getD 0 undef) (.int .i64 1)) w fun v69 w =>
 R8 [v69] w)
 (drewK (fun w =>
 sV P (Instr.sliceAt 9 v51 none (some (s8.getD 0 undef)) none) w fun v72 =>
 sV P (binV .add 9 (.tmp 72) (.const (.string ⟨#[109]⟩)) v72 (.string ⟨#[109]⟩)) w fun v73 =>
 sN P (callN (.func (.func 15) #[] #[]) #[v58]) w fun v75 =>
 sV P (binV .add 9 (.tmp 73) (.tmp 75) v73 v75) w fun v76 =>
 J6 [v76] w) w)) [v62] w)
 (J6 [v51] w)) fun s6 w => ∀ _ : Nat -> Value,
 kV P (binV .add 9 (.tmp 77) (.tmp 78) (s4.getD 0 undef) (s6.getD 0 undef)) w fun v79 w =>
 kV P (binV .add 9 (.tmp 79) (.const (.string ⟨#[10]⟩)) v79 (.string ⟨#[10]⟩)) w fun v80 w =>
 J2 [v80] w))) fun s2 w => ∀ _ : Nat -> Value,
 kV P (binV .add 3 (.tmp 15) (.const (.int .i64 1)) (s0.getD 1 undef) (.int .i64 1)) w fun v16 w =>
 R0 [(s2.getD 0 undef), v16] w)
 (K (s0.getD 0 undef) w)) [(.string ⟨#[]⟩), (.int .i64 0)] w
theorem F5_eq (t0 : Value) : funE P ⟨[], [(3, [3, 4]), (16, [10])], [(4, [3]), (7, [3]), (19, [7])]⟩ Tryz.f5 [t0] w K = F5 P w K t0 := by kernel_rfl
theorem F5_ok (t0 : Value) (h : F5 Tryz.prog w K t0) : callsK Tryz.prog 5 #[t0] w K := calls_of_eq mixedE Tryz.func5 (F5_eq _ w K t0) h
def F14 (t0 t1 : Value) : Prop :=
 loopT (fun R0 s0 w => ∀ _ : Nat -> Value,
 kV P (Builtin.len_ #[22] 3 #[t0]) w fun v12 w =>
 kV P (binV .lss 3 (.tmp 10) (.tmp 12) (s0.getD 0 undef) v12) w fun v13 w =>
 condK v13
 (joinL (fun J2 =>
 kV P (Instr.indexAt 22 t0 (s0.getD 0 undef)) w fun v19 w =>
 kV P (Instr.loadAt 28 v19) w fun v20 w =>
 kN P (callN (.func (.func 16) #[] #[]) #[v20]) w fun v21 w =>
 kV P (Instr.extract v21 0) w fun v22 w =>
 kV P (Instr.extract v21 1) w fun v23 w =>
 kV P (Instr.alloc 48 true (.tuple #[])) w fun v6 w =>
 kU P (Instr.storeAt 48 v6 v22) w fun _ w =>
 condK v23
 (kV P (Instr.loadAt 48 v6) w fun v26 w =>
 kV P (Builtin.len_ #[22] 3 #[t0]) w fun v29 w =>
 kN P (callN (.func (.func 19) #[] #[]) #[v26, (s0.getD 0 undef), v29]) w fun v30 w =>
 kV P (Instr.extract v30 0) w fun v31 w =>
 kV P (Instr.extract v30 1) w fun v32 w =>
 joinK (fun J4 : Value -> World -> Prop => gdK (yb v32) true (fun k => k v31 w) w fun v35 w =>
 gdK (yb v32) true (fun k => k t1 w) w fun v36 w =>
 gdK (yb v32) true (fun k => kV P (binV .eql 3 (.tmp 35) (.tmp 36) v35 v36) w k) w fun v37 w =>
 kN P (pickN v32 v37 (.bool false)) w fun v38_1 w =>
 J4 v38_1 w) fun v38 w =>
 condK v38
 (K (.bool true) w)
 (J2 [] w))
 (J2 [] w)) fun s2 w => ∀ _ : Nat -> Value,
 kV P (binV .add 3 (.tmp 14) (.const (.int .i64 1)) (s0.getD 0 undef) (.int .i64 1)) w fun v15 w =>
 R0 [v15] w)
 (K (.bool false) w)) [(.int .i64 0)] w
theorem F14_eq (t0 t1 : Value) : funE P ⟨[], [(2, [5])], [(3, [])]⟩ Tryz.f14 [t0, t1] w K = F14 P w K t0 t1 := by kernel_rfl
theorem F14_ok (t0 t1 : Value) (h : F14 Tryz.prog w K t0 t1) : callsK Tryz.prog 14 #[t0, t1] w K := calls_of_eq mixedE Tryz.func14 (F14_eq _ w K t0 t1) h
def F15 (t0 : Value) : Prop :=
 kV P (binV .lss 2 (.tmp 4) (.const (.int .i64 0)) t0 (.int .i64 0)) w fun v5 w =>
 condK v5
 (kV P (Op.unary .neg t0) w fun v7 w =>
 kN P (callN (.func (.func 15) #[] #[]) #[v7]) w fun v8 w =>
 kV P (binV .add 9 (.const (.string ⟨#[45]⟩)) (.tmp 8) (.string ⟨#[45]⟩) v8) w fun v9 w =>
 K v9 w)
 (kV P (binV .rem 2 (.tmp 10) (.const (.int .i64 10)) t0 (.int .i64 10)) w fun v11 w =>
 kV P (binV .rem 2 (.tmp 12) (.const (.int .i64 10)) t0 (.int .i64 10)) w fun v13 w =>
 kV P (binV .add 2 (.tmp 13) (.const (.int .i64 1)) v13 (.int .i64 1)) w fun v14 w =>
 kV P (Instr.sliceAt 9 (.string ⟨#[48, 49, 50, 51, 52, 53, 54, 55, 56, 57]⟩) (some v11) (some v14) none) w fun v15 w =>
 kV P (binV .lss 2 (.tmp 16) (.const (.int .i64 10)) t0 (.int .i64 10)) w fun v17 w =>
 condK v17
 (K v15 w)
 (kV P (binV .quo 2 (.tmp 19) (.const (.int .i64 10)) t0 (.int .i64 10)) w fun v20 w =>
 kN P (callN (.func (.func 15) #[] #[]) #[v20]) w fun v21 w =>
 kV P (binV .add 9 (.tmp 21) (.tmp 22) v21 v15) w fun v23 w =>
 K v23 w))
theorem F15_eq (t0 : Value) : funE P ⟨[], [], []⟩ Tryz.f15 [t0] w K = F15 P w K t0 := by kernel_rfl
theorem F15_ok (t0 : Value) (h : F15 Tryz.prog w K t0) : callsK Tryz.prog 15 #[t0] w K := calls_of_eq mixedE Tryz.func15 (F15_eq _ w K t0) h
def F17 (t0 t1 : Value) : Prop :=
 kV P (binV .eql 3 (.tmp 6) (.const (.int .i64 0)) t1 (.int .i64 0)) w fun v7 w =>
 condK v7
 (K (.string ⟨#[]⟩) w)
 (drewK (fun w =>
 pV P (binV .quo 28 (.tmp 8) (.const (.int .u32 16)) t0 (.int .u32 16)) fun v9 =>
 pV P (binV .sub 3 (.tmp 10) (.const (.int .i64 1)) t1 (.int .i64 1)) fun v11 =>
 pV P (binV .rem 28 (.tmp 14) (.const (.int .u32 16)) t0 (.int .u32 16)) fun v15 =>
 pV P (binV .rem 28 (.tmp 16) (.const (.int .u32 16)) t0 (.int .u32 16)) fun v17 =>
 pV P (binV .add 28 (.tmp 17) (.const (.int .u32 1)) v17 (.int .u32 1)) fun v18 =>
 pV P (Instr.sliceAt 9 (.string ⟨#[48, 49, 50, 51, 52, 53, 54, 55, 56, 57, 97, 98, 99, 100, 101, 102]⟩) (some v15) (some v18) none) fun v19 =>
 kN P (callN (.func (.func 17) #[] #[]) #[v9, v11]) w fun v12 w =>
 pV P (binV .add 9 (.tmp 12) (.tmp 19) v12 v19) fun v20 =>
 K v20 w) w)
theorem F17_eq (t0 t1 : Value) : funE P ⟨[(4, 999)], [], []⟩ Tryz.f17 [t0, t1] w K = F17 P w K t0 t1 := by kernel_rfl
theorem F17_ok (t0 t1 : Value) (h : F17 Tryz.prog w K t0 t1) : callsK Tryz.prog 17 #[t0, t1] w K := calls_of_eq mixedE Tryz.func17 (F17_eq _ w K t0 t1) h
def F18 (t0 : Value) : Prop :=
 kV P (Instr.box 48 t0) w fun v1 w =>
 kV P (Instr.loadAt 48 v1) w fun v11 w =>
 kN P (callN (.func (.func 41) #[] #[]) #[v11]) w fun v12 w =>
 kV P (Instr.extract v12 0) w fun v13 w =>
 kV P (Instr.extract v12 1) w fun v14 w =>
 kV P (Op.unary .not v14) w fun v16 w =>
 condK v16
 (K (.string ⟨#[]⟩) w)
 (joinL (fun J0 =>
 drewK (fun w =>
 relX fun R4 =>
 postX R4 (fun p4_17 => allX R4 w fun V4 w => True -> kN P (callN (.func (.func 38) #[] #[]) #[]) w (okX R4 w p4_17)) fun p4_17 =>
 postX R4 (fun p4_18 => allX R4 w fun V4 w => True -> kV P (Instr.fieldAt 48 v1 0) w (okX R4 w p4_18)) fun p4_18 =>
 postX R4 (fun p4_19 => allX R4 w fun V4 w => p4_18 (V4 18) w /\ True -> kV P (Instr.loadAt 3 (V4 18)) w (okX R4 w p4_19)) fun p4_19 =>
 postX R4 (fun p4_20 => allX R4 w fun V4 w => p4_19 (V4 19) w /\ True -> kV P (binV .sub 3 (.tmp 19) (.const (.int .i64 1)) (V4 19) (.int .i64 1)) w (okX R4 w p4_20)) fun p4_20 =>
 postX R4 (fun p4_21 => allX R4 w fun V4 w => p4_17 (V4 17) w /\ p4_20 (V4 20) w /\ True -> kV P (Instr.indexAt 95 (V4 17) (V4 20)) w (okX R4 w p4_21)) fun p4_21 =>
 postX R4 (fun p4_22 => allX R4 w fun V4 w => p4_21 (V4 21) w /\ True -> kV P (Instr.loadAt 98 (V4 21)) w (okX R4 w p4_22)) fun p4_22 =>
 postX R4 (fun p4_5 => allX R4 w fun V4 w => True -> kV P (Instr.alloc 98 true (.tuple #[])) w (okX R4 w p4_5)) fun p4_5 =>
 allX R4 w fun V4 w => p4_17 (V4 17) w /\ p4_18 (V4 18) w /\ p4_19 (V4 19) w /\ p4_20 (V4 20) w /\ p4_21 (V4 21) w /\ p4_22 (V4 22) w /\ p4_5 (V4 5) w /\ True -> xDist V4 [5] ->
 kU P (Instr.storeAt 98 (V4 5) (V4 22)) w fun _ w =>
 J0 [(V4 5)] w) w) fun s0 w => ∀ _ : Nat -> Value,
 drewK (fun w =>
 sV P (Instr.fieldAt 48 v1 1) w fun v23 =>
 sV P (Instr.loadAt 3 v23) w fun v24 =>
 sN P (callN (.func (.func 42) #[] #[]) #[v24]) w fun v25 =>
 sV P (Instr.fieldAt 48 v1 2) w fun v26 =>
 sV P (Instr.loadAt 3 v26) w fun v27 =>
 sN P (callN (.func (.func 42) #[] #[]) #[v27]) w fun v28 =>
 sV P (Instr.fieldAt 48 v1 3) w fun v29 =>
 sV P (Instr.loadAt 3 v29) w fun v30 =>
 sN P (callN (.func (.func 42) #[] #[]) #[v30]) w fun v31 =>
 sV P (Instr.fieldAt 48 v1 4) w fun v32 =>
 sV P (Instr.loadAt 2 v32) w fun v33 =>
 sN P (callN (.func (.func 15) #[] #[]) #[v33]) w fun v34 =>
 kV P (Instr.fieldAt 98 (s0.getD 0 undef) 1) w fun v35 w =>
 kV P (Instr.loadAt 5 v35) w fun v36 w =>
 kV P (binV .eql 5 (.tmp 36) (.const (.int .u8 82)) v36 (.int .u8 82)) w fun v38 w =>
 condK v38
 (kV P (Instr.fieldAt 98 (s0.getD 0 undef) 0) w fun v39 w =>
 kV P (Instr.loadAt 9 v39) w fun v40 w =>
 kV P (binV .add 9 (.tmp 40) (.const (.string ⟨#[32]⟩)) v40 (.string ⟨#[32]⟩)) w fun v41 w =>
 kV P (binV .add 9 (.tmp 41) (.tmp 42) v41 v25) w fun v43 w =>
 kV P (binV .add 9 (.tmp 43) (.const (.string ⟨#[44, 32]⟩)) v43 (.string ⟨#[44, 32]⟩)) w fun v44 w =>
 kV P (binV .add 9 (.tmp 44) (.tmp 45) v44 v28) w fun v46 w =>
 kV P (binV .add 9 (.tmp 46) (.const (.string ⟨#[44, 32]⟩)) v46 (.string ⟨#[44, 32]⟩)) w fun v47 w =>
 kV P (binV .add 9 (.tmp 47) (.tmp 48) v47 v31) w fun v49 w =>
 K v49 w)
 (kV P (binV .eql 5 (.tmp 36) (.const (.int .u8 71)) v36 (.int .u8 71)) w fun v51 w =>
 condK v51
 (kV P (Instr.fieldAt 98 (s0.getD 0 undef) 0) w fun v52 w =>
 kV P (Instr.loadAt 9 v52) w fun v53 w =>
 kV P (binV .add 9 (.tmp 53) (.const (.string ⟨#[32]⟩)) v53 (.string ⟨#[32]⟩)) w fun v54 w =>
 kV P (binV .add 9 (.tmp 54) (.tmp 55) v54 v25) w fun v56 w =>
 kV P (binV .add 9 (.tmp 56) (.const (.string ⟨#[44, 32]⟩)) v56 (.string ⟨#[44, 32]⟩)) w fun v57 w =>
 kV P (binV .add 9 (.tmp 57) (.tmp 58) v57 v28) w fun v59 w =>
 K v59 w)
 (joinL (fun J2 =>
 kV P (binV .eql 5 (.tmp 36) (.const (.int .u8 73)) v36 (.int .u8 73)) w fun v61 w =>
 condK v61
 (J2 [v61] w)
 (kV P (binV .eql 5 (.tmp 36) (.const (.int .u8 67)) v36 (.int .u8 67)) w fun v62 w =>
 condK v62
 (J2 [v62] w)
 (kV P (binV .eql 5 (.tmp 36) (.const (.int .u8 72)) v36 (.int .u8 72)) w fun v63 w =>
 J2 [v63] w))) fun s2 w => ∀ _ : Nat -> Value,
 condK (s2.getD 0 undef)
 (kV P (Instr.fieldAt 98 (s0.getD 0 undef) 0) w fun v64 w =>
 kV P (Instr.loadAt 9 v64) w fun v65 w =>
 kV P (binV .add 9 (.tmp 65) (.const (.string ⟨#[32]⟩)) v65 (.string ⟨#[32]⟩)) w fun v66 w =>
 kV P (binV .add 9 (.tmp 66) (.tmp 67) v66 v25) w fun v68 w =>
 kV P (binV .add 9 (.tmp 68) (.const (.string ⟨#[44, 32]⟩)) v68 (.string ⟨#[44, 32]⟩)) w fun v69 w =>
 kV P (binV .add 9 (.tmp 69) (.tmp 70) v69 v28) w fun v71 w =>
 kV P (binV .add 9 (.tmp 71) (.const (.string ⟨#[44, 32]⟩)) v71 (.string ⟨#[44, 32]⟩)) w fun v72 w =>
 kV P (binV .add 9 (.tmp 72) (.tmp 73) v72 v34) w fun v74 w =>
 K v74 w)
 (kV P (binV .eql 5 (.tmp 36) (.const (.int .u8 83)) v36 (.int .u8 83)) w fun v76 w =>
 condK v76
 (kV P (Instr.fieldAt 98 (s0.getD 0 undef) 0) w fun v77 w =>
 kV P (Instr.loadAt 9 v77) w fun v78 w =>
 kV P (binV .add 9 (.tmp 78) (.const (.string ⟨#[32]⟩)) v78 (.string ⟨#[32]⟩)) w fun v79 w =>
 kV P (binV .add 9 (.tmp 79) (.tmp 80) v79 v31) w fun v81 w =>
 kV P (binV .add 9 (.tmp 81) (.const (.string ⟨#[44, 32]⟩)) v81 (.string ⟨#[44, 32]⟩)) w fun v82 w =>
 kV P (binV .add 9 (.tmp 82) (.tmp 83) v82 v28) w fun v84 w =>
 kV P (binV .add 9 (.tmp 84) (.const (.string ⟨#[44, 32]⟩)) v84 (.string ⟨#[44, 32]⟩)) w fun v85 w =>
 kV P (binV .add 9 (.tmp 85) (.tmp 86) v85 v34) w fun v87 w =>
 K v87 w)
 (kV P (binV .eql 5 (.tmp 36) (.const (.int .u8 66)) v36 (.int .u8 66)) w fun v89 w =>
 condK v89
 (kV P (Instr.fieldAt 98 (s0.getD 0 undef) 0) w fun v90 w =>
 kV P (Instr.loadAt 9 v90) w fun v91 w =>
 kV P (binV .add 9 (.tmp 91) (.const (.string ⟨#[32]⟩)) v91 (.string ⟨#[32]⟩)) w fun v92 w =>
 kV P (binV .add 9 (.tmp 92) (.tmp 93) v92 v28) w fun v94 w =>
 kV P (binV .add 9 (.tmp 94) (.const (.string ⟨#[44, 32]⟩)) v94 (.string ⟨#[44, 32]⟩)) w fun v95 w =>
 kV P (binV .add 9 (.tmp 95) (.tmp 96) v95 v31) w fun v97 w =>
 kV P (binV .add 9 (.tmp 97) (.const (.string ⟨#[44, 32]⟩)) v97 (.string ⟨#[44, 32]⟩)) w fun v98 w =>
 kV P (binV .add 9 (.tmp 98) (.tmp 99) v98 v34) w fun v100 w =>
 K v100 w)
 (kV P (binV .eql 5 (.tmp 36) (.const (.int .u8 78)) v36 (.int .u8 78)) w fun v102 w =>
 condK v102
 (kV P (Instr.fieldAt 98 (s0.getD 0 undef) 0) w fun v103 w =>
 kV P (Instr.loadAt 9 v103) w fun v104 w =>
 K v104 w)
 (kV P (Instr.fieldAt 98 (s0.getD 0 undef) 0) w fun v105 w =>
 kV P (Instr.loadAt 9 v105) w fun v106 w =>
 kV P (binV .add 9 (.tmp 106) (.const (.string ⟨#[32]⟩)) v106 (.string ⟨#[32]⟩)) w fun v107 w =>
 kV P (binV .add 9 (.tmp 107) (.tmp 108) v107 v25) w fun v109 w =>
 kV P (binV .add 9 (.tmp 109) (.const (.string ⟨#[44, 32]⟩)) v109 (.string ⟨#[44, 32]⟩)) w fun v110 w =>
 kV P (binV .add 9 (.tmp 110) (.tmp 111) v110 v34) w fun v112 w =>
 K v112 w))))))) w)
theorem F18_eq (t0 : Value) : funE P ⟨[(4, 1007)], [], [(5, [5]), (14, [60])]⟩ Tryz.f18 [t0] w K = F18 P w K t0 := by kernel_rfl
theorem F18_ok (t0 : Value) (h : F18 Tryz.prog w K t0) : callsK Tryz.prog 18 #[t0] w K := calls_of_eq mixedE Tryz.func18 (F18_eq _ w K t0) h
def F19 (t0 t1 t2 : Value) : Prop :=
 kV P (Instr.box 48 t0) w fun v3 w =>
 joinL (fun J0 =>
 drewK (fun w =>
 relX fun R5 =>
 postX R5 (fun p5_10 => allX R5 w fun V5 w => True -> kN P (callN (.func (.func 38) #[] #[]) #[]) w (okX R5 w p5_10)) fun p5_10 =>
 postX R5 (fun p5_11 => allX R5 w fun V5 w => True -> kV P (Instr.fieldAt 48 v3 0) w (okX R5 w p5_11)) fun p5_11 =>
 postX R5 (fun p5_12 => allX R5 w fun V5 w => p5_11 (V5 11) w /\ True -> kV P (Instr.loadAt 3 (V5 11)) w (okX R5 w p5_12)) fun p5_12 =>
 postX R5 (fun p5_13 => allX R5 w fun V5 w => p5_12 (V5 12) w /\ True -> kV P (binV .sub 3 (.tmp 12) (.const (.int .i64 1)) (V5 12) (.int .i64 1)) w (okX R5 w p5_13)) fun p5_13 =>
 postX R5 (fun p5_14 => allX R5 w fun V5 w => p5_10 (V5 10) w /\ p5_13 (V5 13) w /\ True -> kV P (Instr.indexAt 95 (V5 10) (V5 13)) w (okX R5 w p5_14)) fun p5_14 =>
 postX R5 (fun p5_15 => allX R5 w fun V5 w => p5_14 (V5 14) w /\ True -> kV P (Instr.fieldAt 98 (V5 14) 1) w (okX R5 w p5_15)) fun p5_15 =>
 postX R5 (fun p5_16 => allX R5 w fun V5 w => p5_15 (V5 15) w /\ True -> kV P (Instr.loadAt 5 (V5 15)) w (okX R5 w p5_16)) fun p5_16 =>
 allX R5 w fun V5 w => p5_10 (V5 10) w /\ p5_11 (V5 11) w /\ p5_12 (V5 12) w /\ p5_13 (V5 13) w /\ p5_14 (V5 14) w /\ p5_15 (V5 15) w /\ p5_16 (V5 16) w /\ True -> xDist V5 [] ->
 J0 [(V5 16)] w) w) fun s0 w => ∀ _ : Nat -> Value,
 kV P (binV .neq 5 (.tmp 17) (.const (.int .u8 66)) (s0.getD 0 undef) (.int .u8 66)) w fun v18 w =>
 joinK (fun J2 : Value -> World -> Prop => gdK (yb v18) true (fun k => k (s0.getD 0 undef) w) w fun v20 w =>
 gdK (yb v18) true (fun k => kV P (binV .neq 5 (.tmp 20) (.const (.int .u8 74)) v20 (.int .u8 74)) w k) w fun v21 w =>
 kN P (pickN v18 v21 (.bool false)) w fun v22_1 w =>
 J2 v22_1 w) fun v22 w =>
 joinK (fun J3 : Value -> World -> Prop => gdK (yb v22) false (fun k => kV P (Instr.fieldAt 48 v3 4) w k) w fun v24 w =>
 gdK (yb v22) false (fun k => kV P (Instr.loadAt 2 v24) w k) w fun v25 w =>
 gdK (yb v22) false (fun k => kV P (binV .rem 2 (.tmp 25) (.const (.int .i64 4)) v25 (.int .i64 4)) w k) w fun v26 w =>
 gdK (yb v22) false (fun k => kV P (binV .neq 2 (.tmp 26) (.const (.int .i64 0)) v26 (.int .i64 0)) w k) w fun v27 w =>
 kN P (pickN v22 (.bool true) v27) w fun v28_1 w =>
 J3 v28_1 w) fun v28 w =>
 condK v28
 (K (.tuple #[(.int .i64 0), (.bool false)]) w)
 (kV P (Instr.fieldAt 48 v3 4) w fun v30 w =>
 kV P (Instr.loadAt 2 v30) w fun v31 w =>
 kV P (binV .quo 2 (.tmp 31) (.const (.int .i64 4)) v31 (.int .i64 4)) w fun v32 w =>
 kV P (binV .add 3 (.tmp 29) (.tmp 32) t1 v32) w fun v33 w =>
 kV P (binV .geq 3 (.tmp 35) (.const (.int .i64 0)) v33 (.int .i64 0)) w fun v36 w =>
 joinK (fun J4 : Value -> World -> Prop => gdK (yb v36) true (fun k => k v33 w) w fun v38 w =>
 gdK (yb v36) true (fun k => k t2 w) w fun v39 w =>
 gdK (yb v36) true (fun k => kV P (binV .leq 3 (.tmp 38) (.tmp 39) v38 v39) w k) w fun v40 w =>
 kN P (pickN v36 v40 (.bool false)) w fun v41_1 w =>
 J4 v41_1 w) fun v41 w =>
 K (.tuple #[v33, v41]) w)
theorem F19_eq (t0 t1 t2 : Value) : funE P ⟨[(1, 1007)], [], [(2, [8])]⟩ Tryz.f19 [t0, t1, t2] w K = F19 P w K t0 t1 t2 := by kernel_rfl
theorem F19_ok (t0 t1 t2 : Value) (h : F19 Tryz.prog w K t0 t1 t2) : callsK Tryz.prog 19 #[t0, t1, t2] w K := calls_of_eq mixedE Tryz.func19 (F19_eq _ w K t0 t1 t2) h
def F42 (t0 : Value) : Prop :=
 kN P (callN (.func (.func 15) #[] #[]) #[t0]) w fun v4 w =>
 kV P (binV .add 9 (.const (.string ⟨#[99]⟩)) (.tmp 4) (.string ⟨#[99]⟩) v4) w fun v5 w =>
 K v5 w
theorem F42_eq (t0 : Value) : funE P ⟨[], [], []⟩ Tryz.f42 [t0] w K = F42 P w K t0 := by kernel_rfl
theorem F42_ok (t0 : Value) (h : F42 Tryz.prog w K t0) : callsK Tryz.prog 42 #[t0] w K := calls_of_eq mixedE Tryz.func42 (F42_eq _ w K t0) h
end
open Go.Fx
set_option maxRecDepth 100000
set_option maxHeartbeats 4000000
theorem RE_call_14 : type_of% (Fx.kN_callf Tryz.call14) := Fx.kN_callf Tryz.call14
theorem RE_call_15 : type_of% (Fx.kN_callf Tryz.call15) := Fx.kN_callf Tryz.call15
theorem RE_scall_15 : type_of% (Fx.sN_callf Tryz.call15) := Fx.sN_callf Tryz.call15
theorem RE_call_17 : type_of% (Fx.kN_callf Tryz.call17) := Fx.kN_callf Tryz.call17
theorem RE_call_18 : type_of% (Fx.kN_callf Tryz.call18) := Fx.kN_callf Tryz.call18
theorem RE_call_19 : type_of% (Fx.kN_callf Tryz.call19) := Fx.kN_callf Tryz.call19
theorem RE_call_42 : type_of% (Fx.kN_callf Tryz.call42) := Fx.kN_callf Tryz.call42
theorem RE_scall_42 : type_of% (Fx.sN_callf Tryz.call42) := Fx.sN_callf Tryz.call42
theorem RE_fld_98_0 : ∀ (b o : Nat) (w : World), (Instr.fieldAt 98 (.pointer (some ⟨b, o, none⟩)) 0).run Tryz.prog w = .ok (.pointer (some ⟨b, o, none⟩)) w := Fx.run_fieldO 0 0 1 Tryz.underlying98 rfl Tryz.sizeOf9 (by decide)
theorem rulesE : type_of% (And.intro @RL_call_5 (And.intro @RA_len_22 (And.intro @RE_call_14 (And.intro @RE_call_15 (And.intro @RE_scall_15 (And.intro @RL_ix_22 (And.intro @RL_ld_28 (And.intro @RD_call_16 (And.intro @RD_al_48 (And.intro @RD_st_48 (And.intro @RE_call_17 (And.intro @RD_ld_48 (And.intro @RE_call_18 (And.intro @RE_call_19 (And.intro @RD_call_41 (And.intro @RD_call_38 (And.intro @RD_fld_48_0 (And.intro @RA_ld_3 (And.intro @RD_ix_95 (And.intro @RD_ld_98 (And.intro @RD_al_98 (And.intro @RD_st_98 (And.intro @RD_fld_48_1 (And.intro @RE_call_42 (And.intro @RE_scall_42 (And.intro @RD_fld_48_2 (And.intro @RD_fld_48_3 (And.intro @RD_fld_48_4 (And.intro @RA_ld_2 (And.intro @RD_fld_98_1 (And.intro @RA_ld_5 (And.intro @RE_fld_98_0 (@RA_ld_9))))))))))))))))))))))))))))))))) := ⟨@RL_call_5, @RA_len_22, @RE_call_14, @RE_call_15, @RE_scall_15, @RL_ix_22, @RL_ld_28, @RD_call_16, @RD_al_48, @RD_st_48, @RE_call_17, @RD_ld_48, @RE_call_18, @RE_call_19, @RD_call_41, @RD_call_38, @RD_fld_48_0, @RA_ld_3, @RD_ix_95, @RD_ld_98, @RD_al_98, @RD_st_98, @RD_fld_48_1, @RE_call_42, @RE_scall_42, @RD_fld_48_2, @RD_fld_48_3, @RD_fld_48_4, @RA_ld_2, @RD_fld_98_1, @RA_ld_5, @RE_fld_98_0, @RA_ld_9⟩
end Go.Proofs.YtobkjnmdbkieeaaGreatDoor
namespace Go.Fx
theorem wrap_small {k : IntKind} {n : Int} (h0 : 0 <= n) (h : n < 2 ^ (k.bits - 1)) : k.wrap n = n := by
  cases k <;> simp [IntKind.bits, IntKind.wrap, IntKind.signed] at h ⊢ <;> first | omega | (split <;> omega)
theorem and_mask {k : IntKind} {a : Int} {n : Nat} (hn : n < k.bits) : bitI .and k a ((2 ^ n - 1 : Nat) : Int) = a % ((2 ^ n : Nat) : Int) := by
  have hlt : 2 ^ n < 2 ^ k.bits := Nat.pow_lt_pow_right (by omega) hn
  have hpos : 0 < 2 ^ n := Nat.two_pow_pos n
  have h1 : (BitVec.ofInt k.bits a &&& BitVec.ofInt k.bits ((2 ^ n - 1 : Nat) : Int)).toNat = (a % ((2 ^ n : Nat) : Int)).toNat := by
    rw [BitVec.toNat_and, BitVec.toNat_ofInt, BitVec.toNat_ofInt]
    have e2 : (((2 ^ n - 1 : Nat) : Int) % ((2 ^ k.bits : Nat) : Int)).toNat = 2 ^ n - 1 := by
      rw [Int.emod_eq_of_lt (by omega) (by omega)]
      omega
    rw [e2, Nat.and_two_pow_sub_one_eq_mod]
    have hd : ((2 ^ n : Nat) : Int) ∣ ((2 ^ k.bits : Nat) : Int) := by
      rw [Int.natCast_dvd_natCast]
      exact Nat.pow_dvd_pow 2 (by omega)
    have e3 : a % ((2 ^ n : Nat) : Int) = (a % ((2 ^ k.bits : Nat) : Int)) % ((2 ^ n : Nat) : Int) := (Int.emod_emod_of_dvd a hd).symm
    rw [e3]
    have h0 : 0 <= a % ((2 ^ k.bits : Nat) : Int) := Int.emod_nonneg _ (by have := Nat.two_pow_pos k.bits; omega)
    obtain ⟨m, hm⟩ := Int.eq_ofNat_of_zero_le h0
    rw [hm, Int.toNat_natCast, <- Int.natCast_emod, Int.toNat_natCast]
  unfold bitI
  simp only
  rw [h1]
  have h2 : 0 <= a % ((2 ^ n : Nat) : Int) := Int.emod_nonneg _ (by omega)
  have h3 : a % ((2 ^ n : Nat) : Int) < ((2 ^ n : Nat) : Int) := Int.emod_lt_of_pos _ (by omega)
  have h4 : 2 ^ n <= 2 ^ (k.bits - 1) := Nat.pow_le_pow_right (by omega) (by omega)
  rw [Int.toNat_of_nonneg h2]
  refine wrap_small h2 ?_
  have : ((2 ^ (k.bits - 1) : Nat) : Int) = (2 : Int) ^ (k.bits - 1) := by simp
  omega
theorem ofInt_toNat {a : Int} (h0 : 0 <= a) (h : a < 18446744073709551616) : (BitVec.ofInt 64 a).toNat = a.toNat := by
  rw [BitVec.toNat_ofInt]
  have : a % ((2 ^ 64 : Nat) : Int) = a := Int.emod_eq_of_lt h0 (by simpa using h)
  rw [this]
theorem wrap64 (x : BitVec 64) : IntKind.u64.wrap (x.toNat : Int) = (x.toNat : Int) := by
  have := x.isLt
  simp only [IntKind.wrap, IntKind.signed, IntKind.bits]
  simp
  omega
theorem or_u64 {a b : Int} (ha : 0 <= a /\ a < 18446744073709551616) (hb : 0 <= b /\ b < 18446744073709551616) : bitI .or .u64 a b = ((a.toNat ||| b.toNat : Nat) : Int) := by
  have h : bitI .or .u64 a b = IntKind.u64.wrap (((BitVec.ofInt 64 a ||| BitVec.ofInt 64 b : BitVec 64).toNat : Nat) : Int) := rfl
  rw [h, wrap64, BitVec.toNat_or, ofInt_toNat ha.1 ha.2, ofInt_toNat hb.1 hb.2]
theorem and_u64 {a b : Int} (ha : 0 <= a /\ a < 18446744073709551616) (hb : 0 <= b /\ b < 18446744073709551616) : bitI .and .u64 a b = ((a.toNat &&& b.toNat : Nat) : Int) := by
  have h : bitI .and .u64 a b = IntKind.u64.wrap (((BitVec.ofInt 64 a &&& BitVec.ofInt 64 b : BitVec 64).toNat : Nat) : Int) := rfl
  rw [h, wrap64, BitVec.toNat_and, ofInt_toNat ha.1 ha.2, ofInt_toNat hb.1 hb.2]
theorem andNot_u64 {a b : Int} (hb : 0 <= b /\ b < 18446744073709551616) (ha : 0 <= a /\ a < 18446744073709551616) : ∃ r : Nat, bitI .andNot .u64 a b = (r : Int) /\ r < 18446744073709551616 /\ ∀ i, i < 64 -> r.testBit i = (a.toNat.testBit i && !b.toNat.testBit i) := by
  have h : bitI .andNot .u64 a b = IntKind.u64.wrap (((BitVec.ofInt 64 a &&& ~~~ BitVec.ofInt 64 b : BitVec 64).toNat : Nat) : Int) := rfl
  refine ⟨_, by rw [h, wrap64], (BitVec.ofInt 64 a &&& ~~~ BitVec.ofInt 64 b : BitVec 64).isLt, fun i hi => ?_⟩
  rw [BitVec.testBit_toNat, BitVec.getLsbD_and, BitVec.getLsbD_not, <- BitVec.testBit_toNat, <- BitVec.testBit_toNat, ofInt_toNat ha.1 ha.2, ofInt_toNat hb.1 hb.2]
  simp [hi]
end Go.Fx
namespace Go.Proofs.YtobkjnmdbkieeaaGreatDoor
open Go.Fx
theorem qG0 : type_of% (And.intro @gen0 (And.intro (@gen1 Tryz.prog) (And.intro @gen2 (And.intro @rulesC (And.intro @litR (And.intro @bolR (And.intro (@numR Tryz.prog) (And.intro (@memR Tryz.prog) (And.intro @valR (And.intro @heapR (And.intro @updR (And.intro @intR (And.intro @decR (And.intro (@extR Tryz.prog) (And.intro (@slR Tryz.prog) (And.intro @segR (And.intro @thenR ((@pnR Tryz.prog))))))))))))))))))) := ⟨@gen0, (@gen1 Tryz.prog), @gen2, @rulesC, @litR, @bolR, (@numR Tryz.prog), (@memR Tryz.prog), @valR, @heapR, @updR, @intR, @decR, (@extR Tryz.prog), (@slR Tryz.prog), @segR, @thenR, (@pnR Tryz.prog)⟩
theorem qX {S : List Nat} {w w' : World} (h : Ext S w w' := by (repeat first | assumption | exact Ext.refl | apply Ext.alloc | apply Ext.drew | (refine Ext.updN ?_ ?_; (focus first | omega | (simp only [szR] <;> omega))) | (refine Ext.updI ?_ ?_; (focus (simp; done))))) : Ext S w w' := h
set_option maxRecDepth 100000
theorem pow64 {i : Nat} (h : i < 64) : (2 : Nat) ^ i < 18446744073709551616 := Nat.pow_lt_pow_right (a := 2) (by omega) h
theorem shl_one {i : Int} (h : 0 <= i /\ i < 64) : IntKind.u64.wrap (1 * 2 ^ i.toNat) = ((2 ^ i.toNat : Nat) : Int) := by
 have := pow64 (i := i.toNat) (by omega)
 have e2 : (1 : Int) * 2 ^ i.toNat = ((2 ^ i.toNat : Nat) : Int) := by simp
 rw [e2]
 generalize 2 ^ i.toNat = p at this
 exact wrap_u64 ⟨by omega, by omega⟩
theorem fdivP {v : Nat} (k : Nat) : (v : Int).fdiv (2 ^ k) = ((v / 2 ^ k : Nat) : Int) := by
 rw [Int.fdiv_eq_ediv_of_nonneg _ (Int.le_of_lt (Int.pow_pos (by omega)))]
 simp
theorem mulP {v : Nat} (k : Nat) (h : v * 2 ^ k < 18446744073709551616) : IntKind.u64.wrap ((v : Int) * 2 ^ k) = ((v * 2 ^ k : Nat) : Int) := by
 have e : (v : Int) * 2 ^ k = ((v * 2 ^ k : Nat) : Int) := by simp
 rw [e]
 generalize v * 2 ^ k = p at h
 exact wrap_u64 ⟨by omega, by omega⟩
theorem qDR {p : Prop} (h : p := by first | assumption | omega | (simp only [szR] <;> omega) | rfl | decide) : p := h
theorem fmay_spec {w : World} {a b : Int} (h : 0 <= b /\ b <= 64 /\ 0 <= a /\ a <= 64 - b) {K : Value -> World -> Prop} (hK : K (.bool true) w) : callsK Tryz.prog 46 #[.int .i64 a, .int .i64 b] w K := by
 apply F46_ok
 unfold F46
 simp (disch := first | exact qDR | fail) only [qG0, Nat.reduceAdd, Nat.reduceLeDiff, Int.reduceToNat, Int.reduceAdd, Int.reduceSub, Int.reduceLT, Int.reduceLE, Nat.reduceSub, Nat.reduceMul, Nat.reduceEqDiff, joinBR]
 exact hK
theorem fMask_spec {w : World} {k : Int} (h : 0 < k /\ k < 64) {K : Value -> World -> Prop} (hK : K (.int .u64 ((2 ^ k.toNat - 1 : Nat) : Int)) w) : callsK Tryz.prog 47 #[.int .i64 k] w K := by
 have hs := shl_one (i := k) ⟨by omega, by omega⟩
 have hpl := pow64 (i := k.toNat) (by omega)
 have hp := Nat.two_pow_pos k.toNat
 apply F47_ok
 unfold F47
 generalize 2 ^ k.toNat = p at hpl hp hK hs
 have e : (p : Int) - 1 = ((p - 1 : Nat) : Int) := by omega
 simp (disch := first | exact qDR | fail) only [qG0, Nat.reduceAdd, Nat.reduceLeDiff, Int.reduceToNat, Int.reduceAdd, Int.reduceSub, Int.reduceLT, Int.reduceLE, Nat.reduceSub, Nat.reduceMul, Nat.reduceEqDiff, hs, e]
 exact hK
theorem fGet_spec {w : World} {x : Nat} {a k : Int} (ha : 0 <= a) (hk : 0 < k /\ k < 64) (hak : a + k <= 64) (hx : x < 18446744073709551616) {K : Value -> World -> Prop}
  (hK : ∀ w', Ext [] w w' -> K (.int .u64 ((x / 2 ^ a.toNat % 2 ^ k.toNat : Nat) : Int)) w') : callsK Tryz.prog 25 #[.int .u64 x, .int .i64 a, .int .i64 k] w K := by
 have hfd := fdivP (v := x) a.toNat
 have hq : x / 2 ^ a.toNat < 18446744073709551616 := Nat.lt_of_le_of_lt (Nat.div_le_self _ _) hx
 have hmod := Nat.and_two_pow_sub_one_eq_mod (x / 2 ^ a.toNat) k.toNat
 have hpl := pow64 (i := k.toNat) (by omega)
 have hp := Nat.two_pow_pos k.toNat
 apply F25_ok
 unfold F25
 simp (disch := first | exact qDR | fail) only [qG0, Nat.reduceAdd, Nat.reduceLeDiff, Int.reduceToNat, Int.reduceAdd, Int.reduceSub, Int.reduceLT, Int.reduceLE, Nat.reduceSub, Nat.reduceMul, Nat.reduceEqDiff]
 refine fmay_spec (by omega) ?_
 generalize x / 2 ^ a.toNat = q at hfd hq hmod hK
 simp (disch := first | exact qDR | fail) only [qG0, Nat.reduceAdd, Nat.reduceLeDiff, Int.reduceToNat, Int.reduceAdd, Int.reduceSub, Int.reduceLT, Int.reduceLE, Nat.reduceSub, Nat.reduceMul, Nat.reduceEqDiff, hfd]
 refine fMask_spec hk ?_
 generalize 2 ^ k.toNat = p at hmod hpl hp hK
 have hand := and_u64 (a := (q : Int)) (b := ((p - 1 : Nat) : Int)) (by omega) (by omega)
 simp only [Int.toNat_natCast, hmod] at hand
 simp (disch := first | exact qDR | fail) only [qG0, Nat.reduceAdd, Nat.reduceLeDiff, Int.reduceToNat, Int.reduceAdd, Int.reduceSub, Int.reduceLT, Int.reduceLE, Nat.reduceSub, Nat.reduceMul, Nat.reduceEqDiff, hand]
 exact hK _ qX
theorem fPut_spec {w : World} {x v : Nat} {a k : Int} (ha : 0 <= a) (hk : 0 < k /\ k < 64) (hak : a + k <= 64) (hx : x < 2 ^ a.toNat) (hv : v < 18446744073709551616) {K : Value -> World -> Prop}
  (hK : ∀ w', Ext [] w w' -> K (.int .u64 ((x + v % 2 ^ k.toNat * 2 ^ a.toNat : Nat) : Int)) w') : callsK Tryz.prog 44 #[.int .u64 x, .int .i64 a, .int .i64 k, .int .u64 v] w K := by
 have hmod := Nat.and_two_pow_sub_one_eq_mod v k.toNat
 have hpl := pow64 (i := k.toNat) (by omega)
 have hpa := pow64 (i := a.toNat) (by omega)
 have hp := Nat.two_pow_pos k.toNat
 have hpp : 2 ^ k.toNat * 2 ^ a.toNat <= 18446744073709551616 := by
  rw [<- Nat.pow_add]
  exact Nat.pow_le_pow_right (n := 2) (by omega) (show k.toNat + a.toNat <= 64 by omega)
 have hor := Nat.two_pow_add_eq_or_of_lt hx (v % 2 ^ k.toNat)
 have hm : (2 ^ k.toNat - 1) * 2 ^ a.toNat < 18446744073709551616 := by
  refine Nat.lt_of_lt_of_le ?_ hpp
  exact Nat.mul_lt_mul_of_pos_right (by omega) (Nat.two_pow_pos _)
 have hmv : v % 2 ^ k.toNat * 2 ^ a.toNat < 18446744073709551616 := by
  refine Nat.lt_of_lt_of_le ?_ hpp
  exact Nat.mul_lt_mul_of_pos_right (Nat.mod_lt _ hp) (Nat.two_pow_pos _)
 have hs1 := mulP (v := 2 ^ k.toNat - 1) a.toNat hm
 have hs2 := mulP (v := v % 2 ^ k.toNat) a.toNat hmv
 have hx64 : x < 18446744073709551616 := by omega
 obtain ⟨r, hr, hr64, hrb⟩ := andNot_u64 (a := (x : Int)) (b := (((2 ^ k.toNat - 1) * 2 ^ a.toNat : Nat) : Int)) (by omega) (by omega)
 have hrx : r = x := by
  apply Nat.eq_of_testBit_eq
  intro i
  by_cases hi : i < 64
  ·rw [hrb i hi, Int.toNat_natCast, Int.toNat_natCast]
   by_cases hia : i < a.toNat
   ·rw [Nat.mul_comm, Nat.testBit_two_pow_mul]
    simp
    omega
   ·have : x.testBit i = false := Nat.testBit_lt_two_pow (Nat.lt_of_lt_of_le hx (Nat.pow_le_pow_right (by omega) (by omega)))
    rw [this]
    simp
  ·have p : 2 ^ 64 <= 2 ^ i := Nat.pow_le_pow_right (by omega) (by omega)
   rw [Nat.testBit_lt_two_pow (by omega), Nat.testBit_lt_two_pow (by omega)]
 rw [hrx] at hr
 have hand := and_u64 (a := (v : Int)) (b := ((2 ^ k.toNat - 1 : Nat) : Int)) (by omega) (by omega)
 simp only [Int.toNat_natCast, hmod] at hand
 have horu := or_u64 (a := (x : Int)) (b := ((v % 2 ^ k.toNat * 2 ^ a.toNat : Nat) : Int)) (by omega) (by omega)
 simp only [Int.toNat_natCast] at horu
 have e : x ||| v % 2 ^ k.toNat * 2 ^ a.toNat = x + v % 2 ^ k.toNat * 2 ^ a.toNat := by
  rw [Nat.or_comm, Nat.mul_comm, <- hor, Nat.add_comm]
 rw [e] at horu
 apply F44_ok
 unfold F44
 simp (disch := first | exact qDR | fail) only [qG0, Nat.reduceAdd, Nat.reduceLeDiff, Int.reduceToNat, Int.reduceAdd, Int.reduceSub, Int.reduceLT, Int.reduceLE, Nat.reduceSub, Nat.reduceMul, Nat.reduceEqDiff]
 refine fmay_spec (by omega) ?_
 simp (disch := first | exact qDR | fail) only [qG0, Nat.reduceAdd, Nat.reduceLeDiff, Int.reduceToNat, Int.reduceAdd, Int.reduceSub, Int.reduceLT, Int.reduceLE, Nat.reduceSub, Nat.reduceMul, Nat.reduceEqDiff]
 refine fMask_spec hk ?_
 generalize 2 ^ k.toNat - 1 = mk at hs1 hr hand hm
 generalize v % 2 ^ k.toNat = vk at hs2 hand horu hmv hK
 generalize mk * 2 ^ a.toNat = q1 at hs1 hr hm
 generalize vk * 2 ^ a.toNat = q2 at hs2 horu hmv hK
 simp (disch := first | exact qDR | fail) only [qG0, Nat.reduceAdd, Nat.reduceLeDiff, Int.reduceToNat, Int.reduceAdd, Int.reduceSub, Int.reduceLT, Int.reduceLE, Nat.reduceSub, Nat.reduceMul, Nat.reduceEqDiff, hs1, hr, hand, hs2, horu]
 exact hK _ qX
open Go.Fx
set_option maxRecDepth 100000
/-- a word with another field. -/
def putB (x a k v : Nat) : Nat := x / 2 ^ (a + k) * 2 ^ (a + k) + v % 2 ^ k * 2 ^ a + x % 2 ^ a
theorem putB_or (x a k v : Nat) : putB x a k v = 2 ^ (a + k) * (x / 2 ^ (a + k)) ||| (2 ^ a * (v % 2 ^ k) ||| x % 2 ^ a) := by
 have hL : x % 2 ^ a < 2 ^ a := Nat.mod_lt _ (Nat.two_pow_pos _)
 have hv : v % 2 ^ k < 2 ^ k := Nat.mod_lt _ (Nat.two_pow_pos _)
 have hlt : 2 ^ a * (v % 2 ^ k) + x % 2 ^ a < 2 ^ (a + k) := by
  rw [Nat.pow_add]
  have : 2 ^ a * (v % 2 ^ k) + 2 ^ a <= 2 ^ a * 2 ^ k := by
   rw [<- Nat.mul_succ]
   exact Nat.mul_le_mul_left _ hv
  omega
 rw [<- Nat.two_pow_add_eq_or_of_lt hL, <- Nat.two_pow_add_eq_or_of_lt hlt]
 unfold putB
 rw [Nat.mul_comm (2 ^ (a + k)), Nat.mul_comm (2 ^ a)]
 omega
theorem putB_lt {x a k v : Nat} (hx : x < 18446744073709551616) (h : a + k <= 64) : putB x a k v < 18446744073709551616 := by
 have e64 : (18446744073709551616 : Nat) = 2 ^ 64 := by decide
 rw [e64] at hx ⊢
 rw [putB_or]
 have h1 : 2 ^ (a + k) * (x / 2 ^ (a + k)) < 2 ^ 64 := Nat.lt_of_le_of_lt (Nat.mul_div_le _ _) hx
 have hp : 2 ^ a * (v % 2 ^ k) < 2 ^ 64 := by
  refine Nat.lt_of_lt_of_le (Nat.mul_lt_mul_of_pos_left (Nat.mod_lt _ (Nat.two_pow_pos _)) (Nat.two_pow_pos _)) ?_
  rw [<- Nat.pow_add]
  exact Nat.pow_le_pow_right (by omega) h
 have h2 : x % 2 ^ a < 2 ^ 64 := Nat.lt_of_le_of_lt (Nat.mod_le _ _) hx
 exact Nat.or_lt_two_pow h1 (Nat.or_lt_two_pow hp h2)
theorem fPutG_spec {w : World} {x v : Nat} {a k : Int} (ha : 0 <= a) (hk : 0 < k /\ k < 64) (hak : a + k <= 64) (hx64 : x < 18446744073709551616) (hv : v < 18446744073709551616) {K : Value -> World -> Prop}
  (hK : ∀ w', Ext [] w w' -> K (.int .u64 ((putB x a.toNat k.toNat v : Nat) : Int)) w') : callsK Tryz.prog 44 #[.int .u64 x, .int .i64 a, .int .i64 k, .int .u64 v] w K := by
 have hmod := Nat.and_two_pow_sub_one_eq_mod v k.toNat
 have hpl := pow64 (i := k.toNat) (by omega)
 have hpa := pow64 (i := a.toNat) (by omega)
 have hp := Nat.two_pow_pos k.toNat
 have hpp : 2 ^ k.toNat * 2 ^ a.toNat <= 18446744073709551616 := by
  rw [<- Nat.pow_add]
  exact Nat.pow_le_pow_right (n := 2) (by omega) (show k.toNat + a.toNat <= 64 by omega)
 have hm : (2 ^ k.toNat - 1) * 2 ^ a.toNat < 18446744073709551616 := by
  refine Nat.lt_of_lt_of_le ?_ hpp
  exact Nat.mul_lt_mul_of_pos_right (by omega) (Nat.two_pow_pos _)
 have hmv : v % 2 ^ k.toNat * 2 ^ a.toNat < 18446744073709551616 := by
  refine Nat.lt_of_lt_of_le ?_ hpp
  exact Nat.mul_lt_mul_of_pos_right (Nat.mod_lt _ hp) (Nat.two_pow_pos _)
 have hs1 := mulP (v := 2 ^ k.toNat - 1) a.toNat hm
 have hs2 := mulP (v := v % 2 ^ k.toNat) a.toNat hmv
 obtain ⟨r, hr, hr64, hrb⟩ := andNot_u64 (a := (x : Int)) (b := (((2 ^ k.toNat - 1) * 2 ^ a.toNat : Nat) : Int)) (by omega) (by omega)
 have hand := and_u64 (a := (v : Int)) (b := ((2 ^ k.toNat - 1 : Nat) : Int)) (by omega) (by omega)
 simp only [Int.toNat_natCast, hmod] at hand
 have horu := or_u64 (a := (r : Int)) (b := ((v % 2 ^ k.toNat * 2 ^ a.toNat : Nat) : Int)) (by omega) (by omega)
 simp only [Int.toNat_natCast] at horu
 have hko : k.toNat <= 64 := by omega
 have e : r ||| v % 2 ^ k.toNat * 2 ^ a.toNat = putB x a.toNat k.toNat v := by
  rw [putB_or]
  apply Nat.eq_of_testBit_eq
  intro i
  by_cases hi : i < 64
  ·simp only [Nat.testBit_or, hrb i hi, Int.toNat_natCast]
   rw [Nat.mul_comm (2 ^ k.toNat - 1), Nat.mul_comm (v % 2 ^ k.toNat)]
   simp only [Nat.testBit_two_pow_mul, Nat.testBit_two_pow_sub_one, Nat.testBit_mod_two_pow, Nat.testBit_div_two_pow]
   by_cases h1 : i < a.toNat
   ·have q1 : ¬ i ≥ a.toNat := by omega
    have q2 : ¬ i ≥ a.toNat + k.toNat := by omega
    simp [h1, q1, q2]
   ·by_cases h2 : i < a.toNat + k.toNat
    ·have q1 : i ≥ a.toNat := by omega
     have q2 : ¬ i ≥ a.toNat + k.toNat := by omega
     have q3 : i - a.toNat < k.toNat := by omega
     simp [h1, q1, q2, q3]
    ·have q1 : i ≥ a.toNat := by omega
     have q2 : i ≥ a.toNat + k.toNat := by omega
     have q3 : ¬ i - a.toNat < k.toNat := by omega
     simp [h1, q1, q2, q3, Nat.sub_add_cancel q2]
  ·have p : 2 ^ 64 <= 2 ^ i := Nat.pow_le_pow_right (by omega) (by omega)
   have e64 : (18446744073709551616 : Nat) = 2 ^ 64 := by decide
   have l1 : r ||| v % 2 ^ k.toNat * 2 ^ a.toNat < 2 ^ 64 := Nat.or_lt_two_pow (by omega) (by omega)
   have l2 := putB_lt (x := x) (a := a.toNat) (k := k.toNat) (v := v) hx64 (by omega)
   rw [putB_or] at l2
   rw [Nat.testBit_lt_two_pow (by omega), Nat.testBit_lt_two_pow (by omega)]
 rw [e] at horu
 apply F44_ok
 unfold F44
 simp (disch := first | exact qDR | fail) only [qG0, Nat.reduceAdd, Nat.reduceLeDiff, Int.reduceToNat, Int.reduceAdd, Int.reduceSub, Int.reduceLT, Int.reduceLE, Nat.reduceSub, Nat.reduceMul, Nat.reduceEqDiff]
 refine fmay_spec (by omega) ?_
 simp (disch := first | exact qDR | fail) only [qG0, Nat.reduceAdd, Nat.reduceLeDiff, Int.reduceToNat, Int.reduceAdd, Int.reduceSub, Int.reduceLT, Int.reduceLE, Nat.reduceSub, Nat.reduceMul, Nat.reduceEqDiff]
 refine fMask_spec hk ?_
 generalize 2 ^ k.toNat - 1 = mk at hs1 hr hand hm
 generalize v % 2 ^ k.toNat = vk at hs2 hand horu hmv
 generalize mk * 2 ^ a.toNat = q1 at hs1 hr hm
 generalize vk * 2 ^ a.toNat = q2 at hs2 horu hmv
 generalize putB x a.toNat k.toNat v = pb at horu hK
 simp (disch := first | exact qDR | fail) only [qG0, Nat.reduceAdd, Nat.reduceLeDiff, Int.reduceToNat, Int.reduceAdd, Int.reduceSub, Int.reduceLT, Int.reduceLE, Nat.reduceSub, Nat.reduceMul, Nat.reduceEqDiff, hs1, hr, hand, hs2, horu]
 exact hK _ qX
/-- a number with a sign as a word. -/
def un (x : Int) : Nat := (x % 18446744073709551616).toNat
theorem un_lt (x : Int) : un x < 18446744073709551616 := by unfold un; omega
theorem un_nn {x : Int} (h : 0 <= x /\ x < 18446744073709551616) : un x = x.toNat := by unfold un; omega
theorem un_neg {x : Int} (h : -18446744073709551616 <= x /\ x < 0) : (un x : Int) = x + 18446744073709551616 := by unfold un; omega
theorem wrap_un (x : Int) : IntKind.u64.wrap x = un x := by
 unfold un
 simp [IntKind.wrap, IntKind.signed, IntKind.bits]
 omega
theorem wrap_i64N {x : Nat} (h : x < 18446744073709551616) : IntKind.i64.wrap (x : Int) = if x < 9223372036854775808 then (x : Int) else (x : Int) - 18446744073709551616 := by
 split
 ·exact wrap_i64 ⟨by omega, by omega⟩
 ·simp [IntKind.wrap, IntKind.signed, IntKind.bits]
  omega
/-- a number of b bits with a sign, as a word. -/
def signN (x b : Nat) : Nat := if x % 2 ^ b < 2 ^ (b - 1) then x % 2 ^ b else x % 2 ^ b + (18446744073709551616 - 2 ^ b)
theorem signN_lt {x b : Nat} (h : 1 <= b /\ b <= 64) : signN x b < 18446744073709551616 := by
 have h1 : x % 2 ^ b < 2 ^ b := Nat.mod_lt _ (Nat.two_pow_pos _)
 have h2 : (2 : Nat) ^ b <= 2 ^ 64 := Nat.pow_le_pow_right (by omega) h.2
 have e64 : (18446744073709551616 : Nat) = 2 ^ 64 := by decide
 unfold signN
 split <;> omega
theorem signW {x b : Nat} (h : 1 <= b /\ b <= 64) : IntKind.u64.wrap ((IntKind.i64.wrap (IntKind.u64.wrap ((x : Int) * 2 ^ (64 - b)))).fdiv (2 ^ (64 - b))) = (signN x b : Nat) := by
 have e1 : (x : Int) * 2 ^ (64 - b) = ((x * 2 ^ (64 - b) : Nat) : Int) := by simp
 have e64 : (18446744073709551616 : Nat) = 2 ^ b * 2 ^ (64 - b) := by
  rw [<- Nat.pow_add, show b + (64 - b) = 64 by omega]
 have e63 : (9223372036854775808 : Nat) = 2 ^ (b - 1) * 2 ^ (64 - b) := by
  rw [<- Nat.pow_add, show b - 1 + (64 - b) = 63 by omega]
 have eb : (2 : Nat) ^ b = 2 * 2 ^ (b - 1) := by
  rw [<- Nat.pow_succ']
  congr 1
  omega
 have hu : un ((x * 2 ^ (64 - b) : Nat) : Int) = x % 2 ^ b * 2 ^ (64 - b) := by
  have : un ((x * 2 ^ (64 - b) : Nat) : Int) = (x * 2 ^ (64 - b)) % 18446744073709551616 := by unfold un; omega
  rw [this, e64, Nat.mul_mod_mul_right]
 rw [e1, wrap_un ((x * 2 ^ (64 - b) : Nat) : Int), hu]
 have hy : x % 2 ^ b < 2 ^ b := Nat.mod_lt _ (Nat.two_pow_pos _)
 have hg := Nat.two_pow_pos (64 - b)
 have hh := Nat.two_pow_pos (b - 1)
 unfold signN
 have hgI : ((2 : Int) ^ (64 - b)) = ((2 ^ (64 - b) : Nat) : Int) := by simp
 rw [hgI]
 generalize x % 2 ^ b = y at *
 generalize 2 ^ (64 - b) = g at *
 generalize 2 ^ (b - 1) = hf at *
 generalize 2 ^ b = B at *
 have hlt : y * g < 18446744073709551616 := by rw [e64]; exact Nat.mul_lt_mul_of_pos_right hy hg
 rw [wrap_i64N hlt]
 have hBl : B <= B * g := Nat.le_mul_of_pos_right _ hg
 by_cases hc : y < hf
 ·have l1 : y * g < hf * g := Nat.mul_lt_mul_of_pos_right hc hg
  have l2 : y <= y * g := Nat.le_mul_of_pos_right _ hg
  rw [if_pos (by omega), if_pos hc]
  rw [Int.fdiv_eq_ediv_of_nonneg _ (by omega)]
  have : ((y * g : Nat) : Int) / (g : Int) = y := by
   rw [Int.natCast_mul]
   exact Int.mul_ediv_cancel _ (by omega)
  rw [this]
  exact wrap_u64 ⟨by omega, by omega⟩
 ·have l1 : hf * g <= y * g := Nat.mul_le_mul_right _ (by omega)
  rw [if_neg (by omega), if_neg hc]
  have e2 : ((y * g : Nat) : Int) - 18446744073709551616 = ((y : Int) - B) * g := by
   rw [Int.sub_mul, <- Int.natCast_mul, <- Int.natCast_mul, <- e64]
   rfl
  rw [e2, Int.fdiv_eq_ediv_of_nonneg _ (by omega), Int.mul_ediv_cancel _ (by omega)]
  rw [wrap_un]
  have := un_neg (x := (y : Int) - B) ⟨by omega, by omega⟩
  omega
theorem SignG_spec {w : World} {x b : Nat} (hb : 1 <= b /\ b <= 64) {K : Value -> World -> Prop} (hK : K (.int .u64 (signN x b : Nat)) w) : callsK Tryz.prog 45 #[.int .u64 (x : Nat), .int .i64 (b : Nat)] w K := by
 apply F45_ok
 unfold F45
 have e1 : (64 : Int) - (b : Nat) = ((64 - b : Nat) : Int) := by omega
 have hw := signW (x := x) hb
 simp (disch := first | exact qDR | fail) only [qG0, Nat.reduceAdd, Nat.reduceLeDiff, Int.reduceToNat, Int.reduceAdd, Int.reduceSub, Int.reduceLT, Int.reduceLE, Nat.reduceSub, Nat.reduceMul, Nat.reduceEqDiff, joinBR, e1]
 rw [hw]
 exact hK
def fitsS (x : Int) (b : Nat) : Bool := decide (-((2 ^ (b - 1) : Nat) : Int) <= x /\ x < ((2 ^ (b - 1) : Nat) : Int))
theorem signN_fits {x : Int} {b : Nat} (hb : 1 <= b /\ b <= 64) (hx : -9223372036854775808 <= x /\ x < 9223372036854775808) : decide (((signN (un x) b : Nat) : Int) = (un x : Nat)) = fitsS x b := by
 have e64 : (18446744073709551616 : Nat) = 2 ^ b * 2 ^ (64 - b) := by
  rw [<- Nat.pow_add, show b + (64 - b) = 64 by omega]
 have e63 : (9223372036854775808 : Nat) = 2 ^ (b - 1) * 2 ^ (64 - b) := by
  rw [<- Nat.pow_add, show b - 1 + (64 - b) = 63 by omega]
 have eb : (2 : Nat) ^ b = 2 * 2 ^ (b - 1) := by
  rw [<- Nat.pow_succ']
  congr 1
  omega
 have hg := Nat.two_pow_pos (64 - b)
 have hh := Nat.two_pow_pos (b - 1)
 have hB := Nat.two_pow_pos b
 have hy : un x % 2 ^ b < 2 ^ b := Nat.mod_lt _ (Nat.two_pow_pos _)
 have hdm := Nat.div_add_mod (un x) (2 ^ b)
 unfold signN fitsS
 generalize 2 ^ (64 - b) = g at *
 generalize 2 ^ (b - 1) = hf at *
 generalize 2 ^ b = B at *
 have hBl : B <= B * g := Nat.le_mul_of_pos_right _ hg
 have hhl : hf <= hf * g := Nat.le_mul_of_pos_right _ hg
 apply decide_eq_decide.2
 by_cases hn : 0 <= x
 ·have hu := un_nn (x := x) ⟨hn, by omega⟩
  by_cases hs : x < hf
  ·have hm : un x % B = un x := Nat.mod_eq_of_lt (by omega)
   rw [hm, if_pos (by omega)]
   constructor
   ·intro _; omega
   ·intro _; rfl
  ·constructor
   ·intro h
    exfalso
    split at h
    ·omega
    ·omega
   ·intro h; omega
 ·have hu := un_neg (x := x) ⟨by omega, by omega⟩
  have hub : ∃ q : Nat, (un x : Int) = x + B * q := ⟨g, by rw [hu]; omega⟩
  by_cases hs : -(hf : Int) <= x
  ·have hm : un x % B = un x - (18446744073709551616 - B) := by
    have hr : un x = (un x - (18446744073709551616 - B)) + B * (g - 1) := by
     rw [Nat.mul_sub, Nat.mul_one, <- e64]
     omega
    rw [hr, Nat.add_mul_mod_self_left, Nat.mod_eq_of_lt (by omega)]
    omega
   rw [hm, if_neg (by omega)]
   constructor
   ·intro _; omega
   ·intro _; omega
  ·constructor
   ·intro h
    exfalso
    split at h
    ·omega
    ·omega
   ·intro h; omega
theorem FitsS_spec {w : World} {x : Int} {b : Nat} (hb : 1 <= b /\ b <= 64) (hx : -9223372036854775808 <= x /\ x < 9223372036854775808) {K : Value -> World -> Prop} (hK : K (.bool (fitsS x b)) w) : callsK Tryz.prog 64 #[.int .i64 x, .int .i64 (b : Nat), .bool true] w K := by
 apply F64_ok
 unfold F64
 have hw := wrap_un x
 have hl := un_lt x
 simp (disch := first | exact qDR | fail) only [qG0, Nat.reduceAdd, Nat.reduceLeDiff, Int.reduceToNat, Int.reduceAdd, Int.reduceSub, Int.reduceLT, Int.reduceLE, Nat.reduceSub, Nat.reduceMul, Nat.reduceEqDiff, joinBR, hw]
 refine SignG_spec hb ?_
 have hs := signN_fits hb hx
 have hl2 := signN_lt (x := un x) hb
 simp (disch := first | exact qDR | fail) only [qG0, Nat.reduceAdd, Nat.reduceLeDiff, Int.reduceToNat, Int.reduceAdd, Int.reduceSub, Int.reduceLT, Int.reduceLE, Nat.reduceSub, Nat.reduceMul, Nat.reduceEqDiff, hw]
 rw [hs]
 exact hK
def fitsU (x : Int) (b : Nat) : Bool := decide (0 <= x /\ x < ((2 ^ b : Nat) : Int))
theorem FitsU_spec {w : World} {x : Int} {b : Nat} (hb : 1 <= b /\ b <= 63) (hx : -9223372036854775808 <= x /\ x < 9223372036854775808) {K : Value -> World -> Prop} (hK : K (.bool (fitsU x b)) w) : callsK Tryz.prog 64 #[.int .i64 x, .int .i64 (b : Nat), .bool false] w K := by
 apply F64_ok
 unfold F64
 have hw := wrap_un x
 have hl := un_lt x
 by_cases hn : 0 <= x
 ·simp (disch := first | exact qDR | fail) only [qG0, Nat.reduceAdd, Nat.reduceLeDiff, Int.reduceToNat, Int.reduceAdd, Int.reduceSub, Int.reduceLT, Int.reduceLE, Nat.reduceSub, Nat.reduceMul, Nat.reduceEqDiff, joinBR, hw]
  refine fMask_spec (k := (b : Nat)) (by omega) ?_
  rw [Int.toNat_natCast]
  have hpl := pow64 (i := b) (by omega)
  have hp := Nat.two_pow_pos b
  obtain ⟨r, hr, hr64, hrb⟩ := andNot_u64 (a := ((un x : Nat) : Int)) (b := ((2 ^ b - 1 : Nat) : Int)) (by omega) (by omega)
  have hfin : decide ((r : Int) = 0) = fitsU x b := by
   have hu := un_nn (x := x) ⟨hn, by omega⟩
   have hrx : r = un x / 2 ^ b * 2 ^ b := by
    apply Nat.eq_of_testBit_eq
    intro i
    by_cases hi : i < 64
    ·rw [hrb i hi, Int.toNat_natCast, Int.toNat_natCast, Nat.mul_comm, Nat.testBit_two_pow_mul, Nat.testBit_two_pow_sub_one, Nat.testBit_div_two_pow]
     by_cases h1 : i < b
     ·have : ¬ i ≥ b := by omega
      simp [h1, this]
     ·have : i ≥ b := by omega
      simp [h1, this]
    ·have p : 2 ^ 64 <= 2 ^ i := Nat.pow_le_pow_right (by omega) (by omega)
     have : un x / 2 ^ b * 2 ^ b <= un x := Nat.div_mul_le_self _ _
     rw [Nat.testBit_lt_two_pow (by omega), Nat.testBit_lt_two_pow (by omega)]
   unfold fitsU
   apply decide_eq_decide.2
   constructor
   ·intro h
    refine ⟨hn, ?_⟩
    have h0 : un x / 2 ^ b * 2 ^ b = 0 := by omega
    rcases Nat.mul_eq_zero.1 h0 with h1 | h1
    ·have := Nat.lt_of_div_eq_zero hp h1
     omega
    ·omega
   ·intro h
    have : un x / 2 ^ b = 0 := Nat.div_eq_of_lt (by omega)
    rw [hrx, this]
    simp
  generalize 2 ^ b - 1 = m at *
  simp (disch := first | exact qDR | fail) only [qG0, Nat.reduceAdd, Nat.reduceLeDiff, Int.reduceToNat, Int.reduceAdd, Int.reduceSub, Int.reduceLT, Int.reduceLE, Nat.reduceSub, Nat.reduceMul, Nat.reduceEqDiff, joinBR, hw, hr]
  rw [hfin]
  exact hK
 ·have hf : fitsU x b = false := by
   unfold fitsU
   exact decide_eq_false (by omega)
  rw [hf] at hK
  simp (disch := first | exact qDR | fail) only [qG0, Nat.reduceAdd, Nat.reduceLeDiff, Int.reduceToNat, Int.reduceAdd, Int.reduceSub, Int.reduceLT, Int.reduceLE, Nat.reduceSub, Nat.reduceMul, Nat.reduceEqDiff, joinBR]
  exact hK
end Go.Proofs.YtobkjnmdbkieeaaGreatDoor
namespace Go.Fx
theorem Ext.step {S : List Nat} {a b c : World} (h1 : Ext S a b) (h2 : Ext S b c) : Ext S a c := h1.trans h2 fun _ h => .inl h
theorem relX.ext (S : List Nat) {G : (World -> World -> Prop) -> Prop} (h : G (Ext S)) : relX G := ⟨Ext S, fun _ => Ext.refl, fun _ _ _ h1 h2 => h1.step h2, fun _ _ h => h.size, h⟩
theorem postX.is {R : World -> World -> Prop} {G rest : (Value -> World -> Prop) -> Prop} (c : Value) (h1 : G fun v _ => v = c) (h2 : rest fun v _ => v = c) : postX R G rest := ⟨_, fun _ _ _ _ h => h, h1, h2⟩
theorem okX.mk {R : World -> World -> Prop} {w w' : World} {p : Value -> World -> Prop} {v : Value} (h1 : R w w') (h2 : p v w') : okX R w p v w' := ⟨h1, h2⟩
theorem okX.is {S : List Nat} {w : World} {v : Value} : okX (Ext S) w (fun u _ => u = v) v w := ⟨Ext.refl, rfl⟩
/-- .. where one block, that may be written, keeps what it holds. -/
theorem relX.keep (S : List Nat) (b : Nat) (o : Obj) {G : (World -> World -> Prop) -> Prop} (h : G fun w w' => Ext S w w' /\ (w.heap[b]? = some o -> w'.heap[b]? = some o)) : relX G :=
  ⟨_, fun _ => ⟨Ext.refl, id⟩, fun _ _ _ h1 h2 => ⟨h1.1.step h2.1, fun hb => h2.2 (h1.2 hb)⟩, fun _ _ h => h.1.size, h⟩
end Go.Fx
namespace Go.Proofs.YtobkjnmdbkieeaaGreatDoor
open Go.Fx
theorem qG1 : type_of% (And.intro @gen0 (And.intro (@gen1 Tryz.prog) (And.intro @gen2 (And.intro @rulesC (And.intro @rulesX (And.intro @litR (And.intro @bolR (And.intro (@numR Tryz.prog) (And.intro (@memR Tryz.prog) (And.intro @valR (And.intro @heapR (And.intro @updR (And.intro @intR (And.intro @decR (And.intro (@extR Tryz.prog) (And.intro (@slR Tryz.prog) (And.intro @segR (And.intro @thenR ((@pnR Tryz.prog)))))))))))))))))))) := ⟨@gen0, (@gen1 Tryz.prog), @gen2, @rulesC, @rulesX, @litR, @bolR, (@numR Tryz.prog), (@memR Tryz.prog), @valR, @heapR, @updR, @intR, @decR, (@extR Tryz.prog), (@slR Tryz.prog), @segR, @thenR, (@pnR Tryz.prog)⟩
set_option maxRecDepth 100000
def ptC (p : Nat × Nat × Nat) : List Value := [.int .i64 (p.1 : Nat), .int .i64 (p.2.1 : Nat), .int .u64 (p.2.2 : Nat)]
theorem ptC_len (p : Nat × Nat × Nat) : (ptC p).length = 3 := by simp [ptC]
theorem ptC_all (p : Nat × Nat × Nat) : (ptC p).all (fun v => v.oneCell') = true := by simp [ptC]; exact ⟨rfl, rfl, rfl⟩
def ptOk (p : Nat × Nat × Nat) : Prop := 0 < p.2.1 /\ p.2.1 < 64 /\ p.1 + p.2.1 <= 64 /\ p.2.2 < 18446744073709551616
def putN (x : Nat) (p : Nat × Nat × Nat) : Nat := x + p.2.2 % 2 ^ p.2.1 * 2 ^ p.1
theorem putN_eq (x a k v : Nat) : putN x (a, k, v) = x + v % 2 ^ k * 2 ^ a := rfl
/-- a row: its name, its shape, and three numbers. -/
structure Rw where
 n : List UInt8
 s : Nat
 c : Nat
 f : Nat
 o : Nat
def rowI : List Rw := [⟨[108, 117, 105], 85, 55, 0, 0⟩, ⟨[97, 117, 105, 112, 99], 85, 23, 0, 0⟩, ⟨[106, 97, 108], 74, 111, 0, 0⟩, ⟨[106, 97, 108, 114], 73, 103, 0, 0⟩, ⟨[98, 101, 113], 66, 99, 0, 0⟩, ⟨[98, 110, 101], 66, 99, 1, 0⟩, ⟨[98, 108, 116], 66, 99, 4, 0⟩, ⟨[98, 103, 101], 66, 99, 5, 0⟩, ⟨[98, 108, 116, 117], 66, 99, 6, 0⟩, ⟨[98, 103, 101, 117], 66, 99, 7, 0⟩, ⟨[108, 98], 73, 3, 0, 0⟩, ⟨[108, 104], 73, 3, 1, 0⟩, ⟨[108, 119], 73, 3, 2, 0⟩, ⟨[108, 100], 73, 3, 3, 0⟩, ⟨[108, 98, 117], 73, 3, 4, 0⟩, ⟨[108, 104, 117], 73, 3, 5, 0⟩, ⟨[108, 119, 117], 73, 3, 6, 0⟩, ⟨[115, 98], 83, 35, 0, 0⟩, ⟨[115, 104], 83, 35, 1, 0⟩, ⟨[115, 119], 83, 35, 2, 0⟩, ⟨[115, 100], 83, 35, 3, 0⟩, ⟨[97, 100, 100, 105], 73, 19, 0, 0⟩, ⟨[115, 108, 116, 105], 73, 19, 2, 0⟩, ⟨[115, 108, 116, 105, 117], 73, 19, 3, 0⟩, ⟨[120, 111, 114, 105], 73, 19, 4, 0⟩, ⟨[111, 114, 105], 73, 19, 6, 0⟩, ⟨[97, 110, 100, 105], 73, 19, 7, 0⟩, ⟨[115, 108, 108, 105], 72, 19, 1, 0⟩, ⟨[115, 114, 108, 105], 72, 19, 5, 0⟩, ⟨[115, 114, 97, 105], 72, 19, 5, 16⟩, ⟨[97, 100, 100], 82, 51, 0, 0⟩, ⟨[115, 117, 98], 82, 51, 0, 32⟩, ⟨[115, 108, 108], 82, 51, 1, 0⟩, ⟨[115, 108, 116], 82, 51, 2, 0⟩, ⟨[115, 108, 116, 117], 82, 51, 3, 0⟩, ⟨[120, 111, 114], 82, 51, 4, 0⟩, ⟨[115, 114, 108], 82, 51, 5, 0⟩, ⟨[115, 114, 97], 82, 51, 5, 32⟩, ⟨[111, 114], 82, 51, 6, 0⟩, ⟨[97, 110, 100], 82, 51, 7, 0⟩, ⟨[101, 99, 97, 108, 108], 78, 115, 0, 0⟩, ⟨[101, 98, 114, 101, 97, 107], 78, 115, 0, 1⟩, ⟨[99, 108, 99], 73, 15, 2, 0⟩, ⟨[99, 115, 99], 83, 35, 4, 0⟩, ⟨[99, 115, 101, 116, 98, 111, 117, 110, 100, 115], 82, 91, 0, 8⟩, ⟨[99, 115, 101, 116, 98, 111, 117, 110, 100, 115, 101, 120, 97, 99, 116], 82, 91, 0, 9⟩, ⟨[99, 115, 101, 97, 108], 82, 91, 0, 11⟩, ⟨[99, 117, 110, 115, 101, 97, 108], 82, 91, 0, 12⟩, ⟨[99, 97, 110, 100, 112, 101, 114, 109], 82, 91, 0, 13⟩, ⟨[99, 115, 101, 116, 97, 100, 100, 114], 82, 91, 0, 16⟩, ⟨[99, 105, 110, 99, 111, 102, 102, 115, 101, 116], 82, 91, 0, 17⟩, ⟨[99, 115, 117, 98], 82, 91, 0, 20⟩, ⟨[99, 98, 117, 105, 108, 100, 99, 97, 112], 82, 91, 0, 29⟩, ⟨[99, 116, 101, 115, 116, 115, 117, 98, 115, 101, 116], 82, 91, 0, 32⟩, ⟨[99, 115, 101, 116, 101, 113, 117, 97, 108], 82, 91, 0, 33⟩, ⟨[99, 103, 101, 116, 112, 101, 114, 109], 71, 91, 0, 0⟩, ⟨[99, 103, 101, 116, 116, 121, 112, 101], 71, 91, 0, 1⟩, ⟨[99, 103, 101, 116, 98, 97, 115, 101], 71, 91, 0, 2⟩, ⟨[99, 103, 101, 116, 108, 101, 110], 71, 91, 0, 3⟩, ⟨[99, 103, 101, 116, 116, 97, 103], 71, 91, 0, 4⟩, ⟨[99, 103, 101, 116, 111, 102, 102, 115, 101, 116], 71, 91, 0, 6⟩, ⟨[99, 114, 114, 108], 71, 91, 0, 8⟩, ⟨[99, 114, 97, 109], 71, 91, 0, 9⟩, ⟨[99, 109, 111, 118, 101], 71, 91, 0, 10⟩, ⟨[99, 99, 108, 101, 97, 114, 116, 97, 103], 71, 91, 0, 11⟩, ⟨[99, 103, 101, 116, 97, 100, 100, 114], 71, 91, 0, 15⟩, ⟨[99, 115, 101, 97, 108, 101, 110, 116, 114, 121], 71, 91, 0, 17⟩, ⟨[99, 105, 110, 99, 111, 102, 102, 115, 101, 116, 105, 109, 109], 73, 91, 1, 0⟩, ⟨[99, 115, 101, 116, 98, 111, 117, 110, 100, 115, 105, 109, 109], 67, 91, 2, 0⟩]
def rwC (r : Rw) : List Value := [.string ⟨r.n.toArray⟩, .int .u8 (r.s : Nat), .int .u64 (r.c : Nat), .int .u64 (r.f : Nat), .int .u64 (r.o : Nat)]
theorem rwC_len (r : Rw) : (rwC r).length = 5 := by simp [rwC]
theorem rwC_all (r : Rw) : (rwC r).all (fun v => v.oneCell') = true := by simp [rwC]; exact ⟨rfl, rfl, rfl, rfl, rfl⟩
def Rw.zero : Rw := ⟨[], 0, 0, 0, 0⟩
def rwsC (l : List Rw) : List Value := l.flatMap rwC
theorem rwsC_len (l : List Rw) : (rwsC l).length = l.length * 5 := by
 induction l with
 | nil => rfl
 | cons r l ih => rw [rwsC, List.flatMap_cons, List.length_append, rwC_len]; rw [rwsC] at ih; rw [ih, List.length_cons]; omega
theorem rwsC_all (l : List Rw) : (rwsC l).all (fun v => v.oneCell') = true := by
 induction l with
 | nil => rfl
 | cons r l ih => rw [rwsC, List.flatMap_cons, List.all_append, rwC_all]; exact ih
theorem rws_at : ∀ (l : List Rw) (i : Nat), i < l.length -> sub (rwsC l) (i * 5) 5 = rwC (l.getD i Rw.zero)
 | [], i, h => by simp at h
 | r :: l, 0, h => by simp [sub, rwsC, rwC]
 | r :: l, i + 1, h => by
  have := rws_at l i (by simpa using h)
  have e : (i + 1) * 5 = 5 + i * 5 := by omega
  rw [sub, rwsC, List.flatMap_cons, e, <- List.drop_drop]
  simpa [sub, rwC, rwsC] using this
theorem rowI_len : rowI.length = 69 := by decide
theorem rw_over (r : Rw) : splice [.string ⟨#[]⟩, .int .u8 0, .int .u64 0, .int .u64 0, .int .u64 0] 0 (rwC r) = rwC r := rfl
theorem rw_put (r : Rw) : rwC r ++ List.drop (rwC r).length [.string ⟨#[]⟩, .int .u8 0, .int .u64 0, .int .u64 0, .int .u64 0] = rwC r := by simp [rwC]
theorem blRows (w : World) : (Instr.build 58 [(0, Value.agg [.string ⟨#[108, 117, 105]⟩, .int .u8 85, .int .u64 55, .int .u64 0, .int .u64 0].toArray), (1, Value.agg [.string ⟨#[97, 117, 105, 112, 99]⟩, .int .u8 85, .int .u64 23, .int .u64 0, .int .u64 0].toArray), (2, Value.agg [.string ⟨#[106, 97, 108]⟩, .int .u8 74, .int .u64 111, .int .u64 0, .int .u64 0].toArray), (3, Value.agg [.string ⟨#[106, 97, 108, 114]⟩, .int .u8 73, .int .u64 103, .int .u64 0, .int .u64 0].toArray), (4, Value.agg [.string ⟨#[98, 101, 113]⟩, .int .u8 66, .int .u64 99, .int .u64 0, .int .u64 0].toArray), (5, Value.agg [.string ⟨#[98, 110, 101]⟩, .int .u8 66, .int .u64 99, .int .u64 1, .int .u64 0].toArray), (6, Value.agg [.string ⟨#[98, 108, 116]⟩, .int .u8 66, .int .u64 99, .int .u64 4, .int .u64 0].toArray), (7, Value.agg [.string ⟨#[98, 103, 101]⟩, .int .u8 66, .int .u64 99, .int .u64 5, .int .u64 0].toArray), (8, Value.agg [.string ⟨#[98, 108, 116, 117]⟩, .int .u8 66, .int .u64 99, .int .u64 6, .int .u64 0].toArray), (9, Value.agg [.string ⟨#[98, 103, 101, 117]⟩, .int .u8 66, .int .u64 99, .int .u64 7, .int .u64 0].toArray), (10, Value.agg [.string ⟨#[108, 98]⟩, .int .u8 73, .int .u64 3, .int .u64 0, .int .u64 0].toArray), (11, Value.agg [.string ⟨#[108, 104]⟩, .int .u8 73, .int .u64 3, .int .u64 1, .int .u64 0].toArray), (12, Value.agg [.string ⟨#[108, 119]⟩, .int .u8 73, .int .u64 3, .int .u64 2, .int .u64 0].toArray), (13, Value.agg [.string ⟨#[108, 100]⟩, .int .u8 73, .int .u64 3, .int .u64 3, .int .u64 0].toArray), (14, Value.agg [.string ⟨#[108, 98, 117]⟩, .int .u8 73, .int .u64 3, .int .u64 4, .int .u64 0].toArray), (15, Value.agg [.string ⟨#[108, 104, 117]⟩, .int .u8 73, .int .u64 3, .int .u64 5, .int .u64 0].toArray), (16, Value.agg [.string ⟨#[108, 119, 117]⟩, .int .u8 73, .int .u64 3, .int .u64 6, .int .u64 0].toArray), (17, Value.agg [.string ⟨#[115, 98]⟩, .int .u8 83, .int .u64 35, .int .u64 0, .int .u64 0].toArray), (18, Value.agg [.string ⟨#[115, 104]⟩, .int .u8 83, .int .u64 35, .int .u64 1, .int .u64 0].toArray), (19, Value.agg [.string ⟨#[115, 119]⟩, .int .u8 83, .int .u64 35, .int .u64 2, .int .u64 0].toArray), (20, Value.agg [.string ⟨#[115, 100]⟩, .int .u8 83, .int .u64 35, .int .u64 3, .int .u64 0].toArray), (21, Value.agg [.string ⟨#[97, 100, 100, 105]⟩, .int .u8 73, .int .u64 19, .int .u64 0, .int .u64 0].toArray), (22, Value.agg [.string ⟨#[115, 108, 116, 105]⟩, .int .u8 73, .int .u64 19, .int .u64 2, .int .u64 0].toArray), (23, Value.agg [.string ⟨#[115, 108, 116, 105, 117]⟩, .int .u8 73, .int .u64 19, .int .u64 3, .int .u64 0].toArray), (24, Value.agg [.string ⟨#[120, 111, 114, 105]⟩, .int .u8 73, .int .u64 19, .int .u64 4, .int .u64 0].toArray), (25, Value.agg [.string ⟨#[111, 114, 105]⟩, .int .u8 73, .int .u64 19, .int .u64 6, .int .u64 0].toArray), (26, Value.agg [.string ⟨#[97, 110, 100, 105]⟩, .int .u8 73, .int .u64 19, .int .u64 7, .int .u64 0].toArray), (27, Value.agg [.string ⟨#[115, 108, 108, 105]⟩, .int .u8 72, .int .u64 19, .int .u64 1, .int .u64 0].toArray), (28, Value.agg [.string ⟨#[115, 114, 108, 105]⟩, .int .u8 72, .int .u64 19, .int .u64 5, .int .u64 0].toArray), (29, Value.agg [.string ⟨#[115, 114, 97, 105]⟩, .int .u8 72, .int .u64 19, .int .u64 5, .int .u64 16].toArray), (30, Value.agg [.string ⟨#[97, 100, 100]⟩, .int .u8 82, .int .u64 51, .int .u64 0, .int .u64 0].toArray), (31, Value.agg [.string ⟨#[115, 117, 98]⟩, .int .u8 82, .int .u64 51, .int .u64 0, .int .u64 32].toArray), (32, Value.agg [.string ⟨#[115, 108, 108]⟩, .int .u8 82, .int .u64 51, .int .u64 1, .int .u64 0].toArray), (33, Value.agg [.string ⟨#[115, 108, 116]⟩, .int .u8 82, .int .u64 51, .int .u64 2, .int .u64 0].toArray), (34, Value.agg [.string ⟨#[115, 108, 116, 117]⟩, .int .u8 82, .int .u64 51, .int .u64 3, .int .u64 0].toArray), (35, Value.agg [.string ⟨#[120, 111, 114]⟩, .int .u8 82, .int .u64 51, .int .u64 4, .int .u64 0].toArray), (36, Value.agg [.string ⟨#[115, 114, 108]⟩, .int .u8 82, .int .u64 51, .int .u64 5, .int .u64 0].toArray), (37, Value.agg [.string ⟨#[115, 114, 97]⟩, .int .u8 82, .int .u64 51, .int .u64 5, .int .u64 32].toArray), (38, Value.agg [.string ⟨#[111, 114]⟩, .int .u8 82, .int .u64 51, .int .u64 6, .int .u64 0].toArray), (39, Value.agg [.string ⟨#[97, 110, 100]⟩, .int .u8 82, .int .u64 51, .int .u64 7, .int .u64 0].toArray), (40, Value.agg [.string ⟨#[101, 99, 97, 108, 108]⟩, .int .u8 78, .int .u64 115, .int .u64 0, .int .u64 0].toArray), (41, Value.agg [.string ⟨#[101, 98, 114, 101, 97, 107]⟩, .int .u8 78, .int .u64 115, .int .u64 0, .int .u64 1].toArray), (42, Value.agg [.string ⟨#[99, 108, 99]⟩, .int .u8 73, .int .u64 15, .int .u64 2, .int .u64 0].toArray), (43, Value.agg [.string ⟨#[99, 115, 99]⟩, .int .u8 83, .int .u64 35, .int .u64 4, .int .u64 0].toArray), (44, Value.agg [.string ⟨#[99, 115, 101, 116, 98, 111, 117, 110, 100, 115]⟩, .int .u8 82, .int .u64 91, .int .u64 0, .int .u64 8].toArray), (45, Value.agg [.string ⟨#[99, 115, 101, 116, 98, 111, 117, 110, 100, 115, 101, 120, 97, 99, 116]⟩, .int .u8 82, .int .u64 91, .int .u64 0, .int .u64 9].toArray), (46, Value.agg [.string ⟨#[99, 115, 101, 97, 108]⟩, .int .u8 82, .int .u64 91, .int .u64 0, .int .u64 11].toArray), (47, Value.agg [.string ⟨#[99, 117, 110, 115, 101, 97, 108]⟩, .int .u8 82, .int .u64 91, .int .u64 0, .int .u64 12].toArray), (48, Value.agg [.string ⟨#[99, 97, 110, 100, 112, 101, 114, 109]⟩, .int .u8 82, .int .u64 91, .int .u64 0, .int .u64 13].toArray), (49, Value.agg [.string ⟨#[99, 115, 101, 116, 97, 100, 100, 114]⟩, .int .u8 82, .int .u64 91, .int .u64 0, .int .u64 16].toArray), (50, Value.agg [.string ⟨#[99, 105, 110, 99, 111, 102, 102, 115, 101, 116]⟩, .int .u8 82, .int .u64 91, .int .u64 0, .int .u64 17].toArray), (51, Value.agg [.string ⟨#[99, 115, 117, 98]⟩, .int .u8 82, .int .u64 91, .int .u64 0, .int .u64 20].toArray), (52, Value.agg [.string ⟨#[99, 98, 117, 105, 108, 100, 99, 97, 112]⟩, .int .u8 82, .int .u64 91, .int .u64 0, .int .u64 29].toArray), (53, Value.agg [.string ⟨#[99, 116, 101, 115, 116, 115, 117, 98, 115, 101, 116]⟩, .int .u8 82, .int .u64 91, .int .u64 0, .int .u64 32].toArray), (54, Value.agg [.string ⟨#[99, 115, 101, 116, 101, 113, 117, 97, 108]⟩, .int .u8 82, .int .u64 91, .int .u64 0, .int .u64 33].toArray), (55, Value.agg [.string ⟨#[99, 103, 101, 116, 112, 101, 114, 109]⟩, .int .u8 71, .int .u64 91, .int .u64 0, .int .u64 0].toArray), (56, Value.agg [.string ⟨#[99, 103, 101, 116, 116, 121, 112, 101]⟩, .int .u8 71, .int .u64 91, .int .u64 0, .int .u64 1].toArray), (57, Value.agg [.string ⟨#[99, 103, 101, 116, 98, 97, 115, 101]⟩, .int .u8 71, .int .u64 91, .int .u64 0, .int .u64 2].toArray), (58, Value.agg [.string ⟨#[99, 103, 101, 116, 108, 101, 110]⟩, .int .u8 71, .int .u64 91, .int .u64 0, .int .u64 3].toArray), (59, Value.agg [.string ⟨#[99, 103, 101, 116, 116, 97, 103]⟩, .int .u8 71, .int .u64 91, .int .u64 0, .int .u64 4].toArray), (60, Value.agg [.string ⟨#[99, 103, 101, 116, 111, 102, 102, 115, 101, 116]⟩, .int .u8 71, .int .u64 91, .int .u64 0, .int .u64 6].toArray), (61, Value.agg [.string ⟨#[99, 114, 114, 108]⟩, .int .u8 71, .int .u64 91, .int .u64 0, .int .u64 8].toArray), (62, Value.agg [.string ⟨#[99, 114, 97, 109]⟩, .int .u8 71, .int .u64 91, .int .u64 0, .int .u64 9].toArray), (63, Value.agg [.string ⟨#[99, 109, 111, 118, 101]⟩, .int .u8 71, .int .u64 91, .int .u64 0, .int .u64 10].toArray), (64, Value.agg [.string ⟨#[99, 99, 108, 101, 97, 114, 116, 97, 103]⟩, .int .u8 71, .int .u64 91, .int .u64 0, .int .u64 11].toArray), (65, Value.agg [.string ⟨#[99, 103, 101, 116, 97, 100, 100, 114]⟩, .int .u8 71, .int .u64 91, .int .u64 0, .int .u64 15].toArray), (66, Value.agg [.string ⟨#[99, 115, 101, 97, 108, 101, 110, 116, 114, 121]⟩, .int .u8 71, .int .u64 91, .int .u64 0, .int .u64 17].toArray), (67, Value.agg [.string ⟨#[99, 105, 110, 99, 111, 102, 102, 115, 101, 116, 105, 109, 109]⟩, .int .u8 73, .int .u64 91, .int .u64 1, .int .u64 0].toArray), (68, Value.agg [.string ⟨#[99, 115, 101, 116, 98, 111, 117, 110, 100, 115, 105, 109, 109]⟩, .int .u8 67, .int .u64 91, .int .u64 2, .int .u64 0].toArray)].toArray).run Tryz.prog w = .ok (.agg (rwsC rowI).toArray) w := run_build w _ _ _ (by kernel_rfl)
theorem qZ0 : type_of% (And.intro @szR (And.intro @rwC_len (And.intro @rwC_all (And.intro @rwsC_len (@rwsC_all))))) := ⟨@szR, @rwC_len, @rwC_all, @rwsC_len, @rwsC_all⟩
theorem qD0 {p : Prop} (h : p := by first | assumption | omega | (simp only [qZ0] <;> omega) | rfl | decide) : p := h
theorem rows_spec {w : World} {K : Value -> World -> Prop} (hK : ∀ w', Ext [] w w' -> K (.agg (rwsC rowI).toArray) w') : callsK Tryz.prog 20 #[] w K := by
 apply F20_ok
 unfold F20
 obtain ⟨z, hz, hzl⟩ : ∃ z : List Value, Tryz.zeroCells58 = z.toArray /\ z.length = 345 := ⟨Tryz.zeroCells58.toList, by simp, by kernel_rfl⟩
 have hl : (rwsC rowI).length = 345 := by rw [rwsC_len, rowI_len]
 have hs : splice z 0 (rwsC rowI) = rwsC rowI := by rw [splice, List.take_zero, List.nil_append, Nat.zero_add, List.drop_eq_nil_of_le (by rw [hzl, hl]; decide), List.append_nil]
 have hsub : sub (rwsC rowI) 0 345 = rwsC rowI := by
  rw [sub, List.drop_zero, List.take_of_length_le (by rw [hl]; decide)]
 have hzle : 0 + (rwsC rowI).length <= z.length := by rw [hzl, hl]; decide
 have hall := rwsC_all rowI
 simp (disch := first | exact qD0 | fail) only [qG1, Nat.reduceAdd, Nat.reduceLeDiff, Int.reduceToNat, Int.reduceAdd, Int.reduceSub, Int.reduceLT, Int.reduceLE, Nat.reduceSub, Nat.reduceMul, Nat.reduceEqDiff, hz, blRows, hs, hsub]
 exact hK _ qX
open Go.Fx
set_option maxRecDepth 100000
def ones : Nat := 18446744073709551615
/-- a part's mask. -/
def msk (p : Nat × Nat × Nat) : Nat × Nat × Nat := (p.1, p.2.1, ones)
theorem qZ1 : type_of% (And.intro @szR (And.intro @rwC_len (And.intro @rwC_all (And.intro @rwsC_len (And.intro @rwsC_all (And.intro @ptC_len (@ptC_all))))))) := ⟨@szR, @rwC_len, @rwC_all, @rwsC_len, @rwsC_all, @ptC_len, @ptC_all⟩
theorem qD1 {p : Prop} (h : p := by first | assumption | omega | (simp only [qZ1] <;> omega) | rfl | decide) : p := h
theorem putF_spec {w : World} {x y b1 b2 : Nat} {p : Nat × Nat × Nat} (hp : ptOk p) (hx : x < 2 ^ p.1) (hy : y < 2 ^ p.1) (hne : b1 ≠ b2) (h1 : w.heap[b1]? = some (.cells [.int .u64 (x : Nat)].toArray 55 (0, 0))) (h2 : w.heap[b2]? = some (.cells [.int .u64 (y : Nat)].toArray 55 (0, 0))) {K : Value -> World -> Prop}
  (hK : ∀ w', w'.heap[b1]? = some (.cells [.int .u64 (putN x p : Nat)].toArray 55 (0, 0)) -> w'.heap[b2]? = some (.cells [.int .u64 (putN y (msk p) : Nat)].toArray 55 (0, 0)) -> Ext [b1, b2] w w' -> K (.tuple #[]) w') :
  callsK Tryz.prog 43 #[.int .i64 (p.1 : Nat), .int .i64 (p.2.1 : Nat), .int .u64 (p.2.2 : Nat), .pointer (some ⟨b1, 0, none⟩), .pointer (some ⟨b2, 0, none⟩)] w K := by
 obtain ⟨q1, q2, q3, q4⟩ := hp
 apply F43_ok
 unfold F43
 rw [drewK_eq]
 have hd0 : Ext [] w w.drew := qX
 replace hK : ∀ w', w'.heap[b1]? = some (.cells [.int .u64 (putN x p : Nat)].toArray 55 (0, 0)) -> w'.heap[b2]? = some (.cells [.int .u64 (putN y (msk p) : Nat)].toArray 55 (0, 0)) -> Ext [b1, b2] w.drew w' -> K (.tuple #[]) w' := fun w' a b h => hK w' a b (Ext.step (hd0.mono nofun) h)
 replace h1 := hd0.at h1 (by simp)
 replace h2 := hd0.at h2 (by simp)
 clear hd0
 generalize w.drew = w at *
 refine relX.ext [] ?_
 refine postX.is (.int .u64 (x : Nat)) (fun v w' hR _ => by
  have e := hR.at h1 (by simp)
  simp (disch := first | exact qD1 | fail) only [qG1, Nat.reduceAdd, Nat.reduceLeDiff, Int.reduceToNat, Int.reduceAdd, Int.reduceSub, Int.reduceLT, Int.reduceLE, Nat.reduceSub, Nat.reduceMul, Nat.reduceEqDiff, e]
  exact okX.is) ?_
 refine postX.is (.int .i64 (p.1 : Nat)) (fun v w' hR _ => okX.is) ?_
 refine postX.is (.int .i64 (p.2.1 : Nat)) (fun v w' hR _ => okX.is) ?_
 refine postX.is (.int .u64 (p.2.2 : Nat)) (fun v w' hR _ => okX.is) ?_
 refine postX.is (.int .u64 (putN x p : Nat)) (fun v w' hR hd => by
  obtain ⟨d1, d2, d3, d4, -⟩ := hd
  simp (disch := first | exact qD1 | fail) only [qG1, Nat.reduceAdd, Nat.reduceLeDiff, Int.reduceToNat, Int.reduceAdd, Int.reduceSub, Int.reduceLT, Int.reduceLE, Nat.reduceSub, Nat.reduceMul, Nat.reduceEqDiff, d1, d2, d3, d4]
  exact fPut_spec (by omega) (by omega) (by omega) (by simpa using hx) q4 fun w'' hx => okX.mk hx rfl) ?_
 refine postX.is (.int .u64 (y : Nat)) (fun v w' hR _ => by
  have e := hR.at h2 (by simp)
  simp (disch := first | exact qD1 | fail) only [qG1, Nat.reduceAdd, Nat.reduceLeDiff, Int.reduceToNat, Int.reduceAdd, Int.reduceSub, Int.reduceLT, Int.reduceLE, Nat.reduceSub, Nat.reduceMul, Nat.reduceEqDiff, e]
  exact okX.is) ?_
 refine postX.is (.int .i64 (p.1 : Nat)) (fun v w' hR _ => okX.is) ?_
 refine postX.is (.int .i64 (p.2.1 : Nat)) (fun v w' hR _ => okX.is) ?_
 intro v w1 hR hd _
 obtain ⟨-, -, -, -, d12, d13, d14, d15, -⟩ := hd
 rw [d12, d13, d14, d15]
 simp (disch := first | exact qD1 | fail) only [qG1, Nat.reduceAdd, Nat.reduceLeDiff, Int.reduceToNat, Int.reduceAdd, Int.reduceSub, Int.reduceLT, Int.reduceLE, Nat.reduceSub, Nat.reduceMul, Nat.reduceEqDiff]
 refine fPut_spec (v := ones) (by omega) (by omega) (by omega) (by simpa using hy) (by decide) fun w2 hx2 => ?_
 have hx3 := hR.trans hx2 (by simp)
 have k1 := hx3.at h1 (by simp)
 have k2 := hx3.at h2 (by simp)
 have l1 := lt_of_at k1
 have l2 := lt_of_at k2
 have m2 : (World.upd w2 b1 [.int .u64 (putN x p : Nat)]).heap[b2]? = some (.cells [.int .u64 (y : Nat)].toArray 55 (0, 0)) := (upd_ne (Ne.symm hne)).trans k2
 simp (disch := first | exact qD1 | fail) only [qG1, Nat.reduceAdd, Nat.reduceLeDiff, Int.reduceToNat, Int.reduceAdd, Int.reduceSub, Int.reduceLT, Int.reduceLE, Nat.reduceSub, Nat.reduceMul, Nat.reduceEqDiff, k1, m2, List.set_cons_zero]
 have hx4 : Ext [b1, b2] w (World.upd (World.upd w2 b1 [.int .u64 (putN x p : Nat)]) b2 [.int .u64 (putN y (msk p) : Nat)]) := by
  have hx5 : Ext [b1, b2] w w2 := hx3.mono nofun
  exact qX
 exact hK _ ((upd_ne hne).trans (upd_at k1)) (upd_at m2) hx4
/-- what lays a row's fixed parts. -/
def fxP (r : Rw) : List (Nat × Nat × Nat) := (0, 7, r.c) :: if r.s = 85 ∨ r.s = 74 then [] else if r.s = 78 then [(7, 13, 0), (20, 12, r.o)] else (12, 3, r.f) :: if r.s = 82 then [(25, 7, r.o)] else if r.s = 71 then [(20, 5, r.o), (25, 7, 127)] else if r.s = 72 then [(26, 6, r.o)] else []
def fixW (r : Rw) : Nat := (fxP r).foldl putN 0
def fixM (r : Rw) : Nat := ((fxP r).map msk).foldl putN 0
theorem fixEnd {w : World} {b2 b3 x y i j : Nat} (hne : b2 ≠ b3) (hij : i ≠ j) (h2 : w.heap[b2]? = some (.cells [.int .u64 (x : Nat)].toArray 55 (0, 0))) (h3 : w.heap[b3]? = some (.cells [.int .u64 (y : Nat)].toArray 55 (0, 0))) {K : Value -> World -> Prop} (hK : ∀ w', Ext [b2, b3] w w' -> K (.tuple #[.int .u64 (x : Nat), .int .u64 (y : Nat)]) w') :
  drewK (fun w =>
 relX fun R2 =>
 postX R2 (fun p2_15 => allX R2 w fun V2 w => True -> kV Tryz.prog (Instr.loadAt 55 (.pointer (some ⟨b2, 0, none⟩))) w (okX R2 w p2_15)) fun p2_15 =>
 postX R2 (fun p2_16 => allX R2 w fun V2 w => True -> kV Tryz.prog (Instr.loadAt 55 (.pointer (some ⟨b3, 0, none⟩))) w (okX R2 w p2_16)) fun p2_16 =>
 postX R2 (fun p2_n2 => allX R2 w fun V2 w => p2_15 (V2 i) w /\ True -> kU Tryz.prog (Instr.storeAt 55 (.pointer (some ⟨b2, 0, none⟩)) (V2 i)) w (okX R2 w p2_n2)) fun p2_n2 =>
 allX R2 w fun V2 w => p2_15 (V2 i) w /\ p2_16 (V2 j) w /\ (∃ u, p2_n2 u w) /\ True -> xDist V2 [] ->
 kU Tryz.prog (Instr.storeAt 55 (.pointer (some ⟨b3, 0, none⟩)) (V2 j)) w fun _ w =>
 retV Tryz.prog 55 (.pointer (some ⟨b2, 0, none⟩)) w fun r3 =>
 retV Tryz.prog 55 (.pointer (some ⟨b3, 0, none⟩)) w fun r4 =>
 K (.tuple #[r3, r4]) w) w := by
 rw [drewK_eq]
 have hd0 : Ext [b2, b3] w w.drew := qX
 have hd1 : Ext [] w w.drew := qX
 replace hK : ∀ w', Ext [b2, b3] w.drew w' -> K (.tuple #[.int .u64 (x : Nat), .int .u64 (y : Nat)]) w' := fun w' h => hK w' (hd0.step h)
 replace h2 := hd1.at h2 (by simp)
 replace h3 := hd1.at h3 (by simp)
 clear hd0 hd1
 generalize w.drew = w at *
 refine relX.keep [b2] b2 (.cells [.int .u64 (x : Nat)].toArray 55 (0, 0)) ?_
 refine postX.is (.int .u64 (x : Nat)) (fun v w' hR _ => by
  have e := hR.2 h2
  simp (disch := first | exact qD1 | fail) only [qG1, Nat.reduceAdd, Nat.reduceLeDiff, Int.reduceToNat, Int.reduceAdd, Int.reduceSub, Int.reduceLT, Int.reduceLE, Nat.reduceSub, Nat.reduceMul, Nat.reduceEqDiff, e]
  exact okX.mk ⟨Ext.refl, id⟩ rfl) ?_
 refine postX.is (.int .u64 (y : Nat)) (fun v w' hR _ => by
  have e := hR.1.at h3 (by simpa using Ne.symm hne)
  simp (disch := first | exact qD1 | fail) only [qG1, Nat.reduceAdd, Nat.reduceLeDiff, Int.reduceToNat, Int.reduceAdd, Int.reduceSub, Int.reduceLT, Int.reduceLE, Nat.reduceSub, Nat.reduceMul, Nat.reduceEqDiff, e]
  exact okX.mk ⟨Ext.refl, id⟩ rfl) ?_
 refine postX.intro (fun _ _ => True) (fun _ _ _ _ _ => trivial) (fun v w' hR hd => by
  obtain ⟨d1, -⟩ := hd
  have e := hR.2 h2
  have l := lt_of_at e
  simp (disch := first | exact qD1 | fail) only [qG1, Nat.reduceAdd, Nat.reduceLeDiff, Int.reduceToNat, Int.reduceAdd, Int.reduceSub, Int.reduceLT, Int.reduceLE, Nat.reduceSub, Nat.reduceMul, Nat.reduceEqDiff, d1, e, List.set_cons_zero]
  have hx : Ext [b2] w' (World.upd w' b2 [.int .u64 (x : Nat)]) := qX
  exact okX.mk ⟨hx, fun _ => upd_at e⟩ trivial) ?_
 intro v w1 hR hd _
 obtain ⟨d1, d2, -⟩ := hd
 rw [d2]
 have k2 := hR.2 h2
 have k3 := hR.1.at h3 (by simpa using Ne.symm hne)
 have l2 := lt_of_at k2
 have l3 := lt_of_at k3
 have hx1 : Ext [b2, b3] w (World.upd w1 b3 [.int .u64 (y : Nat)]) := by
  have := hR.1.mono (T := [b2, b3]) (by simp)
  exact qX
 have m2 : (World.upd w1 b3 [.int .u64 (y : Nat)]).heap[b2]? = some (.cells [.int .u64 (x : Nat)].toArray 55 (0, 0)) := (upd_ne hne).trans k2
 have m3 : (World.upd w1 b3 [.int .u64 (y : Nat)]).heap[b3]? = some (.cells [.int .u64 (y : Nat)].toArray 55 (0, 0)) := upd_at k3
 simp (disch := first | exact qD1 | fail) only [qG1, Nat.reduceAdd, Nat.reduceLeDiff, Int.reduceToNat, Int.reduceAdd, Int.reduceSub, Int.reduceLT, Int.reduceLE, Nat.reduceSub, Nat.reduceMul, Nat.reduceEqDiff, k3, List.set_cons_zero, m2, m3]
 exact hK _ hx1
open Go.Fx
set_option maxRecDepth 100000
theorem put_lt {x a k v b : Nat} (h : x < 2 ^ a) (h2 : a + k <= b) : putN x (a, k, v) < 2 ^ b := by
 rw [putN_eq]
 have h3 : v % 2 ^ k < 2 ^ k := Nat.mod_lt _ (Nat.two_pow_pos k)
 have h4 : v % 2 ^ k * 2 ^ a + 2 ^ a <= 2 ^ k * 2 ^ a := by
  have := Nat.mul_le_mul_right (2 ^ a) h3
  rwa [Nat.succ_mul] at this
 have h5 : 2 ^ k * 2 ^ a <= 2 ^ b := by
  rw [<- Nat.pow_add]
  exact Nat.pow_le_pow_right (by omega) (by omega)
 omega
theorem ptk {a k v : Nat} (h : 0 < k /\ k < 64 /\ a + k <= 64) (hv : v < 18446744073709551616) : ptOk (a, k, v) := ⟨h.1, h.2.1, h.2.2, hv⟩
def rwOk (r : Rw) : Prop := r.s < 256 /\ r.c < 18446744073709551616 /\ r.f < 18446744073709551616 /\ r.o < 18446744073709551616
theorem put_ltm {x a k v b : Nat} (h : x < 2 ^ a) (h2 : a + k <= b) : putN x (msk (a, k, v)) < 2 ^ b := put_lt (v := ones) h h2
theorem put7m (v : Nat) : putN 0 (msk (0, 7, v)) < 2 ^ 7 := put_ltm (b := 7) (Nat.two_pow_pos _) (by decide)
theorem put7 (v : Nat) : putN 0 (0, 7, v) < 2 ^ 7 := put_lt (b := 7) (Nat.two_pow_pos _) (by decide)
theorem up7 {x : Nat} (h : x < 2 ^ 7) : x < 2 ^ 12 := Nat.lt_of_lt_of_le h (Nat.pow_le_pow_right (by decide) (by decide))
set_option maxHeartbeats 1000000 in
theorem fixed_spec {w : World} {r : Rw} (hr : rwOk r) {K : Value -> World -> Prop} (hK : ∀ w', Ext [] w w' -> K (.tuple #[.int .u64 (fixW r : Nat), .int .u64 (fixM r : Nat)]) w') : callsK Tryz.prog 21 #[.agg (rwC r).toArray] w K := by
 obtain ⟨hs, hc, hf, ho⟩ := hr
 apply F21_ok
 unfold F21
 have r1 : (rwC r)[1]? = some (.int .u8 (r.s : Nat)) := rfl
 have r2 : (rwC r)[2]? = some (.int .u64 (r.c : Nat)) := rfl
 have r3 : (rwC r)[3]? = some (.int .u64 (r.f : Nat)) := rfl
 have r4 : (rwC r)[4]? = some (.int .u64 (r.o : Nat)) := rfl
 have hx0 : Ext [] w (((w.alloc (.cells (rwC r).toArray 57)).alloc (.cells [.int .u64 0].toArray 55)).alloc (.cells [.int .u64 0].toArray 55)) := qX
 have g0 : (((w.alloc (.cells (rwC r).toArray 57)).alloc (.cells [.int .u64 0].toArray 55)).alloc (.cells [.int .u64 0].toArray 55)).heap[w.heap.size]? = some (.cells (rwC r).toArray 57 (0, 0)) := by simp (disch := first | exact qD1 | fail) only [qG1, Nat.reduceAdd, Nat.reduceLeDiff, Int.reduceToNat, Int.reduceAdd, Int.reduceSub, Int.reduceLT, Int.reduceLE, Nat.reduceSub, Nat.reduceMul, Nat.reduceEqDiff]
 have g1 : (((w.alloc (.cells (rwC r).toArray 57)).alloc (.cells [.int .u64 0].toArray 55)).alloc (.cells [.int .u64 0].toArray 55)).heap[w.heap.size + 1]? = some (.cells [.int .u64 ((0 : Nat) : Int)].toArray 55 (0, 0)) := by simp (disch := first | exact qD1 | fail) only [qG1, Nat.reduceAdd, Nat.reduceLeDiff, Int.reduceToNat, Int.reduceAdd, Int.reduceSub, Int.reduceLT, Int.reduceLE, Nat.reduceSub, Nat.reduceMul, Nat.reduceEqDiff]
 have g2 : (((w.alloc (.cells (rwC r).toArray 57)).alloc (.cells [.int .u64 0].toArray 55)).alloc (.cells [.int .u64 0].toArray 55)).heap[w.heap.size + 2]? = some (.cells [.int .u64 ((0 : Nat) : Int)].toArray 55 (0, 0)) := by simp (disch := first | exact qD1 | fail) only [qG1, Nat.reduceAdd, Nat.reduceLeDiff, Int.reduceToNat, Int.reduceAdd, Int.reduceSub, Int.reduceLT, Int.reduceLE, Nat.reduceSub, Nat.reduceMul, Nat.reduceEqDiff]
 simp (disch := first | exact qD1 | fail) only [qG1, Nat.reduceAdd, Nat.reduceLeDiff, Int.reduceToNat, Int.reduceAdd, Int.reduceSub, Int.reduceLT, Int.reduceLE, Nat.reduceSub, Nat.reduceMul, Nat.reduceEqDiff, r2]
 have hne : w.heap.size + 1 ≠ w.heap.size + 2 := by omega
 refine putF_spec (p := (0, 7, r.c)) (ptk (by decide) hc) (Nat.two_pow_pos _) (Nat.two_pow_pos _) hne g1 g2 fun w1 h1 h2 hx1 => ?_
 have h0 := hx1.at g0 (by simp)
 have l0 := lt_of_at h0
 have l1 := lt_of_at h1
 have l2 := lt_of_at h2
 have hxa : Ext [] w w1 := hx0.trans hx1 (by intro k hk; simp at hk; omega)
 clear g0 g1 g2 hx0 hx1
 have p1 := put7 r.c
 have p2 := put7m r.c
 have back : ∀ (w2 w3 : World), Ext [w.heap.size + 1, w.heap.size + 2] w2 w3 -> Ext [] w w2 -> Ext [] w w3 := fun w2 w3 h h' => h'.trans h (by intro k hk; simp at hk; omega)
 simp (disch := first | exact qD1 | fail) only [qG1, Nat.reduceAdd, Nat.reduceLeDiff, Int.reduceToNat, Int.reduceAdd, Int.reduceSub, Int.reduceLT, Int.reduceLE, Nat.reduceSub, Nat.reduceMul, Nat.reduceEqDiff, h0, r1]
 refine joinL.intro fun J0 hJ0 => ?_
 have hW : fixW r = (fxP r).foldl putN 0 := rfl
 have hM : fixM r = ((fxP r).map msk).foldl putN 0 := rfl
 by_cases s1 : r.s = 85 ∨ r.s = 74
 ·have hP : fxP r = [(0, 7, r.c)] := by unfold fxP; rw [if_pos s1]
  rw [hP] at hW hM
  rw [List.foldl_cons, List.foldl_nil] at hW
  rw [List.map_cons, List.map_nil, List.foldl_cons, List.foldl_nil] at hM
  have hfin : J0 [.bool true] w1 := by
   apply hJ0
   intro _
   refine .inl ⟨rfl, ?_⟩
   refine fixEnd hne (by omega) h1 h2 fun w2 hx2 => ?_
   rw [<- hW, <- hM]
   exact hK w2 (back _ _ hx2 hxa)
  by_cases s2 : r.s = 85
  ·simp (disch := first | exact qD1 | fail) only [qG1, Nat.reduceAdd, Nat.reduceLeDiff, Int.reduceToNat, Int.reduceAdd, Int.reduceSub, Int.reduceLT, Int.reduceLE, Nat.reduceSub, Nat.reduceMul, Nat.reduceEqDiff, s2]
   exact hfin
  ·have s3 : r.s = 74 := by omega
   simp (disch := first | exact qD1 | fail) only [qG1, Nat.reduceAdd, Nat.reduceLeDiff, Int.reduceToNat, Int.reduceAdd, Int.reduceSub, Int.reduceLT, Int.reduceLE, Nat.reduceSub, Nat.reduceMul, Nat.reduceEqDiff, s3]
   exact hfin
 ·have s2 : r.s ≠ 85 := fun h => s1 (.inl h)
  have s3 : r.s ≠ 74 := fun h => s1 (.inr h)
  simp (disch := first | exact qD1 | fail) only [qG1, Nat.reduceAdd, Nat.reduceLeDiff, Int.reduceToNat, Int.reduceAdd, Int.reduceSub, Int.reduceLT, Int.reduceLE, Nat.reduceSub, Nat.reduceMul, Nat.reduceEqDiff]
  apply hJ0
  intro _
  refine .inr ⟨rfl, ?_⟩
  have step : ∀ (w2 : World) (x y a k v : Nat) (K' : Value -> World -> Prop), w2.heap[w.heap.size]? = some (.cells (rwC r).toArray 57 (0, 0)) -> w2.heap[w.heap.size + 1]? = some (.cells [.int .u64 (x : Nat)].toArray 55 (0, 0)) -> w2.heap[w.heap.size + 2]? = some (.cells [.int .u64 (y : Nat)].toArray 55 (0, 0)) -> Ext [] w w2 -> ptOk (a, k, v) -> x < 2 ^ a -> y < 2 ^ a ->
    (∀ w3, w3.heap[w.heap.size]? = some (.cells (rwC r).toArray 57 (0, 0)) -> w3.heap[w.heap.size + 1]? = some (.cells [.int .u64 (putN x (a, k, v) : Nat)].toArray 55 (0, 0)) -> w3.heap[w.heap.size + 2]? = some (.cells [.int .u64 (putN y (msk (a, k, v)) : Nat)].toArray 55 (0, 0)) -> Ext [] w w3 -> K' (.tuple #[]) w3) ->
    callsK Tryz.prog 43 #[.int .i64 (a : Nat), .int .i64 (k : Nat), .int .u64 (v : Nat), .pointer (some ⟨w.heap.size + 1, 0, none⟩), .pointer (some ⟨w.heap.size + 2, 0, none⟩)] w2 K' :=
   fun w2 x y a k v K' a0 a1 a2 ax ap bx by' hk => putF_spec (p := (a, k, v)) ap bx by' hne a1 a2 fun w3 c1 c2 cx => hk w3 (cx.at a0 (by simp)) c1 c2 (back _ _ cx ax)
  by_cases s4 : r.s = 78
  ·have hP : fxP r = [(0, 7, r.c), (7, 13, 0), (20, 12, r.o)] := by unfold fxP; rw [if_neg s1, if_pos s4]
   rw [hP] at hW hM
   rw [List.foldl_cons, List.foldl_cons, List.foldl_cons, List.foldl_nil] at hW
   rw [List.map_cons, List.map_cons, List.map_cons, List.map_nil, List.foldl_cons, List.foldl_cons, List.foldl_cons, List.foldl_nil] at hM
   simp (disch := first | exact qD1 | fail) only [qG1, Nat.reduceAdd, Nat.reduceLeDiff, Int.reduceToNat, Int.reduceAdd, Int.reduceSub, Int.reduceLT, Int.reduceLE, Nat.reduceSub, Nat.reduceMul, Nat.reduceEqDiff, s4]
   refine step w1 _ _ 7 13 0 _ h0 h1 h2 hxa (ptk (by decide) (by decide)) p1 p2 fun w2 a0 a1 a2 ax => ?_
   have m0 := lt_of_at a0
   simp (disch := first | exact qD1 | fail) only [qG1, Nat.reduceAdd, Nat.reduceLeDiff, Int.reduceToNat, Int.reduceAdd, Int.reduceSub, Int.reduceLT, Int.reduceLE, Nat.reduceSub, Nat.reduceMul, Nat.reduceEqDiff, a0, r4]
   refine step w2 _ _ 20 12 r.o _ a0 a1 a2 ax (ptk (by decide) ho) (put_lt (b := 20) p1 (by decide)) (put_ltm (b := 20) p2 (by decide)) fun w3 b0 b1 b2 bx => ?_
   rw [<- hW] at b1
   rw [<- hM] at b2
   exact fixEnd hne (by omega) b1 b2 fun w4 hx4 => hK w4 (back _ _ hx4 bx)
  ·simp (disch := first | exact qD1 | fail) only [qG1, Nat.reduceAdd, Nat.reduceLeDiff, Int.reduceToNat, Int.reduceAdd, Int.reduceSub, Int.reduceLT, Int.reduceLE, Nat.reduceSub, Nat.reduceMul, Nat.reduceEqDiff, h0, r3]
   have q1 := up7 p1
   have q2 := up7 p2
   refine step w1 _ _ 12 3 r.f _ h0 h1 h2 hxa (ptk (by decide) hf) q1 q2 fun w2 a0 a1 a2 ax => ?_
   have m0 := lt_of_at a0
   refine joinL.intro fun J8 hJ8 => ?_
   have fin8 : ∀ (x y : Nat), fixW r = x -> fixM r = y -> ∀ (w3 : World), w3.heap[w.heap.size + 1]? = some (.cells [.int .u64 (x : Nat)].toArray 55 (0, 0)) -> w3.heap[w.heap.size + 2]? = some (.cells [.int .u64 (y : Nat)].toArray 55 (0, 0)) -> Ext [] w w3 -> J8 [] w3 := by
    intro x y hx hy w3 c1 c2 cx
    apply hJ8
    intro _
    rw [<- hx] at c1
    rw [<- hy] at c2
    exact fixEnd hne (by omega) c1 c2 fun w4 hx4 => hK w4 (back _ _ hx4 cx)
   by_cases s5 : r.s = 82
   ·have hP : fxP r = [(0, 7, r.c), (12, 3, r.f), (25, 7, r.o)] := by unfold fxP; rw [if_neg s1, if_neg s4, if_pos s5]
    rw [hP] at hW hM
    rw [List.foldl_cons, List.foldl_cons, List.foldl_cons, List.foldl_nil] at hW
    rw [List.map_cons, List.map_cons, List.map_cons, List.map_nil, List.foldl_cons, List.foldl_cons, List.foldl_cons, List.foldl_nil] at hM
    simp (disch := first | exact qD1 | fail) only [qG1, Nat.reduceAdd, Nat.reduceLeDiff, Int.reduceToNat, Int.reduceAdd, Int.reduceSub, Int.reduceLT, Int.reduceLE, Nat.reduceSub, Nat.reduceMul, Nat.reduceEqDiff, a0, r1, r4, s5]
    refine step w2 _ _ 25 7 r.o _ a0 a1 a2 ax (ptk (by decide) ho) (put_lt (b := 25) q1 (by decide)) (put_ltm (b := 25) q2 (by decide)) fun w3 b0 b1 b2 bx => ?_
    exact fin8 _ _ hW hM w3 b1 b2 bx
   ·by_cases s6 : r.s = 71
    ·have hP : fxP r = [(0, 7, r.c), (12, 3, r.f), (20, 5, r.o), (25, 7, 127)] := by unfold fxP; rw [if_neg s1, if_neg s4, if_neg s5, if_pos s6]
     rw [hP] at hW hM
     rw [List.foldl_cons, List.foldl_cons, List.foldl_cons, List.foldl_cons, List.foldl_nil] at hW
     rw [List.map_cons, List.map_cons, List.map_cons, List.map_cons, List.map_nil, List.foldl_cons, List.foldl_cons, List.foldl_cons, List.foldl_cons, List.foldl_nil] at hM
     simp (disch := first | exact qD1 | fail) only [qG1, Nat.reduceAdd, Nat.reduceLeDiff, Int.reduceToNat, Int.reduceAdd, Int.reduceSub, Int.reduceLT, Int.reduceLE, Nat.reduceSub, Nat.reduceMul, Nat.reduceEqDiff, a0, r1, r4, s6]
     refine step w2 _ _ 20 5 r.o _ a0 a1 a2 ax (ptk (by decide) ho) (put_lt (b := 20) q1 (by decide)) (put_ltm (b := 20) q2 (by decide)) fun w3 b0 b1 b2 bx => ?_
     refine step w3 _ _ 25 7 127 _ b0 b1 b2 bx (ptk (by decide) (by decide)) (put_lt (b := 25) (put_lt (b := 20) q1 (by decide)) (by decide)) (put_ltm (b := 25) (put_ltm (b := 20) q2 (by decide)) (by decide)) fun w4 c0 c1 c2 cx => ?_
     exact fin8 _ _ hW hM w4 c1 c2 cx
    ·by_cases s7 : r.s = 72
     ·have hP : fxP r = [(0, 7, r.c), (12, 3, r.f), (26, 6, r.o)] := by unfold fxP; rw [if_neg s1, if_neg s4, if_neg s5, if_neg s6, if_pos s7]
      rw [hP] at hW hM
      rw [List.foldl_cons, List.foldl_cons, List.foldl_cons, List.foldl_nil] at hW
      rw [List.map_cons, List.map_cons, List.map_cons, List.map_nil, List.foldl_cons, List.foldl_cons, List.foldl_cons, List.foldl_nil] at hM
      simp (disch := first | exact qD1 | fail) only [qG1, Nat.reduceAdd, Nat.reduceLeDiff, Int.reduceToNat, Int.reduceAdd, Int.reduceSub, Int.reduceLT, Int.reduceLE, Nat.reduceSub, Nat.reduceMul, Nat.reduceEqDiff, a0, r1, r4, s7]
      refine step w2 _ _ 26 6 r.o _ a0 a1 a2 ax (ptk (by decide) ho) (put_lt (b := 26) q1 (by decide)) (put_ltm (b := 26) q2 (by decide)) fun w3 b0 b1 b2 bx => ?_
      exact fin8 _ _ hW hM w3 b1 b2 bx
     ·have hP : fxP r = [(0, 7, r.c), (12, 3, r.f)] := by unfold fxP; rw [if_neg s1, if_neg s4, if_neg s5, if_neg s6, if_neg s7]
      rw [hP] at hW hM
      rw [List.foldl_cons, List.foldl_cons, List.foldl_nil] at hW
      rw [List.map_cons, List.map_cons, List.map_nil, List.foldl_cons, List.foldl_cons, List.foldl_nil] at hM
      simp (disch := first | exact qD1 | fail) only [qG1, Nat.reduceAdd, Nat.reduceLeDiff, Int.reduceToNat, Int.reduceAdd, Int.reduceSub, Int.reduceLT, Int.reduceLE, Nat.reduceSub, Nat.reduceMul, Nat.reduceEqDiff, a0, r1]
      exact fin8 _ _ hW hM w2 a1 a2 ax
end Go.Proofs.YtobkjnmdbkieeaaGreatDoor
namespace Go.Fx
theorem run_addS {P : Program} {t : TypeId} {x y : Operand} {a b : ByteArray} {w : World} (h : a.size + b.size <= 9223372036854775807) : (binV .add t x y (.string a) (.string b)).run P w = .ok (.string (a ++ b)) w := by
  have h2 : ¬ ((a.size + b.size : Nat) : Int) > IntKind.i64.max := by
    have : IntKind.i64.max = 9223372036854775807 := rfl
    omega
  simp only [binV, eqGuard, binOp, Op.stringOp, if_neg h2]
  simp
theorem run_eqlS {P : Program} {t : TypeId} (x y : Operand) (a b : ByteArray) (w : World) : (binV .eql t x y (.string a) (.string b)).run P w = .ok (.bool (a.toList == b.toList)) w := by
  simp [binV, eqGuard, binOp, Op.stringOp]
theorem run_neqS {P : Program} {t : TypeId} (x y : Operand) (a b : ByteArray) (w : World) : (binV .neq t x y (.string a) (.string b)).run P w = .ok (.bool (!(a.toList == b.toList))) w := by
  simp [binV, eqGuard, binOp, Op.stringOp]
theorem run_lenS {P : Program} {t ty : TypeId} (ht : P.underlying t = some .string) (a : ByteArray) (w : World) : (Builtin.len_ #[t] ty #[.string a]).run P w = .ok (.int .i64 a.size) w := by
  simp [Builtin.len_, Builtin.lenOf, goInt, run_underlying ht]
/-- a text cut. -/
theorem run_cutS {P : Program} {t : TypeId} (ht : P.underlying t = some .string) (a : ByteArray) (lo hi : Option Value) {l h : Nat} (hb : ∀ w, (Instr.sliceBounds false a.size a.size lo hi none).run P w = .ok (l, h, a.size) w) (w : World) : (Instr.sliceAt t (.string a) lo hi none).run P w = .ok (.string (a.extract l h)) w := by
  simp [Instr.sliceAt, Instr.slice, run_underlying ht, hb]
end Go.Fx
namespace Go.Proofs.YtobkjnmdbkieeaaGreatDoor
open Go.Fx
set_option maxRecDepth 100000
theorem run_indexN {P : Program} {t e : TypeId} {n m : Nat} (h : P.underlying t = some (.array n e)) (ha : ∀ w, (isAgg e).run P w = .ok true w) (hs : ∀ w, (sizeOf e).run P w = .ok m w) (vs : List Value) (k : IntKind) (i : Int) (w : World) (hi : 0 <= i /\ i < n) :
  (Instr.index t (.agg vs.toArray) (.int k i)).run P w = .ok (.agg (sub vs (i.toNat * m) m).toArray) w := by
 have hp := partN (P := P) (t := e) (xs := vs.toArray) (o := i.toNat * m) (n := m) (w := w) ha hs
 have hx : vs.toArray.extract (i.toNat * m) (i.toNat * m + m) = (sub vs (i.toNat * m) m).toArray := by
  rw [List.extract_toArray, List.extract_eq_take_drop, sub, Nat.add_sub_cancel_left]
 simp only [Instr.index, asIntOf, Sem.run_bind, Sem.run_pure, Result.andThen_ok, run_underlying h, hi, and_self, if_true, hs, hp, hx]
def row (k : Nat) : Rw := rowI.getD k Rw.zero
/-- a shape that there is. -/
def shOk (s : Nat) : Prop := s = 73 ∨ s = 67 ∨ s = 72 ∨ s = 83 ∨ s = 66 ∨ s = 85 ∨ s = 74 ∨ s = 82 ∨ s = 71 ∨ s = 78 ∨ s = 0
def rowGood (r : Rw) : Bool := decide (r.c < 18446744073709551616 /\ r.f < 18446744073709551616 /\ r.o < 18446744073709551616 /\ fixW r < 4294967296 /\ fixM r < 4294967296 /\ (r.s = 73 ∨ r.s = 67 ∨ r.s = 72 ∨ r.s = 83 ∨ r.s = 66 ∨ r.s = 85 ∨ r.s = 74 ∨ r.s = 82 ∨ r.s = 71 ∨ r.s = 78))
theorem rows_good : rowI.all rowGood = true := by kernel_rfl
theorem row_mem {k : Nat} (h : k < 69) : row k ∈ rowI := by
 unfold row
 rw [List.getD_eq_getElem?_getD, List.getElem?_eq_getElem (by rw [rowI_len]; exact h)]
 exact List.getElem_mem _
theorem row_goodA {k : Nat} (h : k < 69) : (row k).c < 18446744073709551616 /\ (row k).f < 18446744073709551616 /\ (row k).o < 18446744073709551616 /\ fixW (row k) < 4294967296 /\ fixM (row k) < 4294967296 /\ ((row k).s = 73 ∨ (row k).s = 67 ∨ (row k).s = 72 ∨ (row k).s = 83 ∨ (row k).s = 66 ∨ (row k).s = 85 ∨ (row k).s = 74 ∨ (row k).s = 82 ∨ (row k).s = 71 ∨ (row k).s = 78) := by
 have := List.all_eq_true.1 rows_good _ (row_mem h)
 unfold rowGood at this
 rwa [decide_eq_true_eq] at this
theorem row_good {k : Nat} (h : k < 69) : rwOk (row k) /\ fixW (row k) < 4294967296 /\ fixM (row k) < 4294967296 := by
 obtain ⟨a, b, c, d, e, f⟩ := row_goodA h
 exact ⟨⟨by omega, a, b, c⟩, d, e⟩
theorem row_sh {k : Nat} (h : k < 69) : shOk (row k).s := by
 obtain ⟨a, b, c, d, e, f⟩ := row_goodA h
 unfold shOk
 omega
theorem row_ix (i : Nat) (h : i < 69) (w : World) : (Instr.index 58 (.agg (rwsC rowI).toArray) (.int .i64 (i : Nat))).run Tryz.prog w = .ok (.agg (rwC (row i)).toArray) w := by
 have := run_indexN (P := Tryz.prog) (t := 58) (n := 69) (m := 5) Tryz.underlying58 Tryz.isAgg57 Tryz.sizeOf57 (rwsC rowI) .i64 (i : Nat) w (by omega)
 rw [this, Int.toNat_natCast, rws_at rowI i (by rw [rowI_len]; exact h)]
 rfl
def okOp (n : Int) : Bool := decide (1 <= n /\ n <= 69)
/-- the row of a number, or none. -/
def rowZ (n : Int) : Rw := if okOp n then row (n - 1).toNat else Rw.zero
theorem rowZ_sh (n : Int) : shOk (rowZ n).s := by
 unfold rowZ
 split
 ·rename_i h
  unfold okOp at h
  rw [decide_eq_true_eq] at h
  exact row_sh (by omega)
 ·unfold shOk
  exact .inr (.inr (.inr (.inr (.inr (.inr (.inr (.inr (.inr (.inr rfl)))))))))
theorem iofZ_spec {w : World} {n : Int} (hn : -9223372036854775808 <= n /\ n < 9223372036854775808) {K : Value -> World -> Prop} (hK : ∀ w', Ext [] w w' -> K (.tuple #[.agg (rwC (rowZ n)).toArray, .bool (okOp n)]) w') : callsK Tryz.prog 61 #[.int .i64 n] w K := by
 apply F61_ok
 unfold F61
 by_cases hc : 1 <= n /\ n <= 69
 ·have hk : okOp n = true := decide_eq_true hc
  have hr : rowZ n = row (n - 1).toNat := by rw [rowZ, hk]; rfl
  rw [hk, hr] at hK
  simp (disch := first | exact qD1 | fail) only [qG1, Nat.reduceAdd, Nat.reduceLeDiff, Int.reduceToNat, Int.reduceAdd, Int.reduceSub, Int.reduceLT, Int.reduceLE, Nat.reduceSub, Nat.reduceMul, Nat.reduceEqDiff, joinBR]
  refine rows_spec fun w1 hx1 => ?_
  have h1 : w1.heap[w.heap.size]? = some (.cells [.string ⟨#[]⟩, .int .u8 0, .int .u64 0, .int .u64 0, .int .u64 0].toArray 57 (0, 0)) := hx1.at (alloc_at rfl) (by simp)
  have l1 := lt_of_at h1
  have hx2 : Ext [] w w1 := Ext.trans (S := []) qX hx1 (by simp)
  have hix := row_ix (n - 1).toNat (by omega)
  have en : n - 1 = (((n - 1).toNat : Nat) : Int) := by omega
  have rsb : ∀ r, sub (rwC r) 0 5 = rwC r := fun _ => rfl
  generalize (n - 1).toNat = m at *
  simp (disch := first | exact qD1 | fail) only [qG1, Nat.reduceAdd, Nat.reduceLeDiff, Int.reduceToNat, Int.reduceAdd, Int.reduceSub, Int.reduceLT, Int.reduceLE, Nat.reduceSub, Nat.reduceMul, Nat.reduceEqDiff, en, hix, h1, rw_over, rw_put, rsb]
  exact hK _ qX
 ·have hk : okOp n = false := decide_eq_false hc
  have hr : rowZ n = Rw.zero := by rw [rowZ, hk]; rfl
  rw [hk, hr] at hK
  have hz : rwC Rw.zero = [.string ⟨#[]⟩, .int .u8 0, .int .u64 0, .int .u64 0, .int .u64 0] := rfl
  rw [hz] at hK
  by_cases h1 : n < 1
  ·simp (disch := first | exact qD1 | fail) only [qG1, Nat.reduceAdd, Nat.reduceLeDiff, Int.reduceToNat, Int.reduceAdd, Int.reduceSub, Int.reduceLT, Int.reduceLE, Nat.reduceSub, Nat.reduceMul, Nat.reduceEqDiff, joinBR]
   exact hK _ qX
  ·simp (disch := first | exact qD1 | fail) only [qG1, Nat.reduceAdd, Nat.reduceLeDiff, Int.reduceToNat, Int.reduceAdd, Int.reduceSub, Int.reduceLT, Int.reduceLE, Nat.reduceSub, Nat.reduceMul, Nat.reduceEqDiff, joinBR]
   exact hK _ qX
theorem Shape_spec {w : World} {n : Int} (hn : -9223372036854775808 <= n /\ n < 9223372036854775808) {K : Value -> World -> Prop} (hK : ∀ w', Ext [] w w' -> K (.int .u8 ((rowZ n).s : Nat)) w') : callsK Tryz.prog 57 #[.int .i64 n] w K := by
 apply F57_ok
 unfold F57
 refine iofZ_spec hn fun w1 hx1 => ?_
 generalize rowZ n = r at *
 have r1 : (rwC r)[1]? = some (.int .u8 (r.s : Nat)) := rfl
 simp (disch := first | exact qD1 | fail) only [qG1, Nat.reduceAdd, Nat.reduceLeDiff, Int.reduceToNat, Int.reduceAdd, Int.reduceSub, Int.reduceLT, Int.reduceLE, Nat.reduceSub, Nat.reduceMul, Nat.reduceEqDiff, rw_over, rw_put, r1]
 exact hK _ qX
theorem Name_spec {w : World} {n : Int} (hn : -9223372036854775808 <= n /\ n < 9223372036854775808) {K : Value -> World -> Prop} (hK : ∀ w', Ext [] w w' -> K (.string ⟨(rowZ n).n.toArray⟩) w') : callsK Tryz.prog 66 #[.int .i64 n] w K := by
 apply F66_ok
 unfold F66
 refine iofZ_spec hn fun w1 hx1 => ?_
 generalize rowZ n = r at *
 have r1 : (rwC r)[0]? = some (.string ⟨r.n.toArray⟩) := rfl
 simp (disch := first | exact qD1 | fail) only [qG1, Nat.reduceAdd, Nat.reduceLeDiff, Int.reduceToNat, Int.reduceAdd, Int.reduceSub, Int.reduceLT, Int.reduceLE, Nat.reduceSub, Nat.reduceMul, Nat.reduceEqDiff, rw_over, rw_put, r1]
 exact hK _ qX
/-- the number of a name, or 0. -/
def findN (s : List UInt8) : Nat -> Nat -> Nat
 | 0, k => 0
 | f + 1, k => if (row k).n = s then k + 1 else findN s f (k + 1)
theorem findN_lt (s : List UInt8) : ∀ f k, k + f = 69 -> findN s f k <= 69
 | 0, k, _ => Nat.zero_le _
 | f + 1, k, h => by
  unfold findN
  split
  ·omega
  ·exact findN_lt s f (k + 1) (by omega)
theorem Find_spec {w : World} {s : List UInt8} {K : Value -> World -> Prop} (hK : ∀ w', Ext [] w w' -> K (.int .i64 (findN s 69 0 : Nat)) w') : callsK Tryz.prog 55 #[.string ⟨s.toArray⟩] w K := by
 apply F55_ok
 unfold F55
 refine rows_spec fun w1 hx1 => ?_
 refine loopT.intro (fun st w' => ∃ (j : Nat), j <= 69 /\ st = [.int .i64 (j : Nat)] /\ Ext [] w w' /\ findN s (69 - j) j = findN s 69 0)
  (fun st _ => match st with
   | [.int _ z] => 69 - z.toNat
   | _ => 0) ⟨0, Nat.zero_le _, rfl, hx1, rfl⟩ ?_
 rintro st w' ⟨j, hj, rfl, hx', hf⟩ _
 by_cases h4 : j < 69
 ·have hix := row_ix j h4
  have r1 : (rwC (row j))[0]? = some (.string ⟨(row j).n.toArray⟩) := rfl
  have ef : 69 - j = (69 - (j + 1)) + 1 := by omega
  rw [ef, findN] at hf
  have heq := run_eqlS (P := Tryz.prog) (t := 9)
  by_cases hn : (row j).n = s
  ·rw [if_pos hn] at hf
   have e2 : ((⟨(row j).n.toArray⟩ : ByteArray).toList == (⟨s.toArray⟩ : ByteArray).toList) = true := by rw [hn]; exact beq_self_eq_true _
   simp (disch := first | exact qD1 | fail) only [qG1, Nat.reduceAdd, Nat.reduceLeDiff, Int.reduceToNat, Int.reduceAdd, Int.reduceSub, Int.reduceLT, Int.reduceLE, Nat.reduceSub, Nat.reduceMul, Nat.reduceEqDiff, hix, rw_over, rw_put, r1, heq, e2]
   rw [<- hf] at hK
   exact hK _ qX
  ·rw [if_neg hn] at hf
   have e2 : ((⟨(row j).n.toArray⟩ : ByteArray).toList == (⟨s.toArray⟩ : ByteArray).toList) = false := by
    rw [beq_eq_false_iff_ne]
    simpa using hn
   simp (disch := first | exact qD1 | fail) only [qG1, Nat.reduceAdd, Nat.reduceLeDiff, Int.reduceToNat, Int.reduceAdd, Int.reduceSub, Int.reduceLT, Int.reduceLE, Nat.reduceSub, Nat.reduceMul, Nat.reduceEqDiff, hix, rw_over, rw_put, r1, heq, e2]
   exact ⟨⟨j + 1, by omega, rfl, qX, hf⟩, by first | omega | (simp <;> omega)⟩
 ·obtain rfl : j = 69 := by omega
  have e0 : findN s (69 - 69) 69 = 0 := rfl
  rw [e0] at hf
  rw [<- hf] at hK
  simp (disch := first | exact qD1 | fail) only [qG1, Nat.reduceAdd, Nat.reduceLeDiff, Int.reduceToNat, Int.reduceAdd, Int.reduceSub, Int.reduceLT, Int.reduceLE, Nat.reduceSub, Nat.reduceMul, Nat.reduceEqDiff]
  exact hK _ hx'
open Go.Fx
set_option maxRecDepth 100000
/-- a piece: where it goes, how long, where it is. -/
def pcC (p : Nat × Nat × Nat) : List Value := [.int .i64 (p.1 : Nat), .int .i64 (p.2.1 : Nat), .int .i64 (p.2.2 : Nat)]
theorem pcC_len (p : Nat × Nat × Nat) : (pcC p).length = 3 := by simp [pcC]
theorem pcC_all (p : Nat × Nat × Nat) : (pcC p).all (fun v => v.oneCell') = true := by simp [pcC]; exact ⟨rfl, rfl, rfl⟩
theorem pcC_over (p : Nat × Nat × Nat) : splice [.int .i64 0, .int .i64 0, .int .i64 0] 0 (pcC p) = pcC p := rfl
theorem pcC_over2 (p : Nat × Nat × Nat) : pcC p ++ List.drop (pcC p).length [.int .i64 0, .int .i64 0, .int .i64 0] = pcC p := by simp [pcC]
def pcOk (p : Nat × Nat × Nat) : Prop := 0 < p.2.1 /\ p.2.1 < 64 /\ p.1 + p.2.1 <= 64 /\ p.2.2 + p.2.1 <= 64
/-- a layout's cells. -/
def loC (v : Value) (bits : Nat) (sg : Bool) (z : Nat) : List Value := [v, .int .i64 (bits : Nat), .bool sg, .int .i64 (z : Nat)]
theorem loC_len (v : Value) (b : Nat) (s : Bool) (z : Nat) : (loC v b s z).length = 4 := by simp [loC]
theorem loC_all (a : Option Addr) (n c : Nat) (b : Nat) (s : Bool) (z : Nat) : (loC (.slice a n c) b s z).all (fun v => v.oneCell') = true := by simp [loC]; exact ⟨rfl, rfl, rfl, rfl⟩
theorem rowsP1 {w : World} {E : TypeId} {f : Nat × Nat} {g : Nat} {p : Nat × Nat × Nat} (h : w.heap[g]? = some (.cells (pcC p).toArray E f)) : RowsAt w (.slice (some ⟨g, 0, none⟩) 1 1) 3 ([p].map pcC) := RowsAt.one h rfl
theorem rowsP2 {w : World} {E : TypeId} {f : Nat × Nat} {g : Nat} {p q : Nat × Nat × Nat} (h : w.heap[g]? = some (.cells (pcC p ++ pcC q).toArray E f)) : RowsAt w (.slice (some ⟨g, 0, none⟩) 2 2) 3 ([p, q].map pcC) :=
 ⟨_, 2, rfl, ⟨Nat.le_refl _, by simp [maxLen]⟩, .inr ⟨g, 0, _, E, f, rfl, h, by simp [pcC_len], fun i r hi => by
  match i, hi with
  | 0, hi => simp at hi; subst hi; simp [sub, pcC]
  | 1, hi => simp at hi; subst hi; simp [sub, pcC]⟩⟩
theorem rowsP4 {w : World} {E : TypeId} {f : Nat × Nat} {g : Nat} {p q r s : Nat × Nat × Nat} (h : w.heap[g]? = some (.cells (pcC p ++ pcC q ++ pcC r ++ pcC s).toArray E f)) : RowsAt w (.slice (some ⟨g, 0, none⟩) 4 4) 3 ([p, q, r, s].map pcC) :=
 ⟨_, 4, rfl, ⟨Nat.le_refl _, by simp [maxLen]⟩, .inr ⟨g, 0, _, E, f, rfl, h, by simp [pcC_len], fun i r hi => by
  match i, hi with
  | 0, hi => simp at hi; subst hi; simp [sub, pcC]
  | 1, hi => simp at hi; subst hi; simp [sub, pcC]
  | 2, hi => simp at hi; subst hi; simp [sub, pcC]
  | 3, hi => simp at hi; subst hi; simp [sub, pcC]⟩⟩
theorem bsP2 (a b : List Value) (h1 : a.length = 3) (h2 : b.length = 3) (w : World) : (Instr.buildSlice 62 2 #[(0, .agg a.toArray), (1, .agg b.toArray)]).run Tryz.prog w = .ok (.slice (some ⟨w.heap.size, 0, none⟩) 2 2) (w.alloc (.cells (a ++ b).toArray 105)) := by
 have := run_bs Tryz.underlying62 (e := 105) (size := 3) (by kernel_rfl) [.agg a.toArray, .agg b.toArray] (by simp [Value.cells, h1, h2]) (by simp) w
 simpa [Value.cells, partsFrom] using this
theorem bsP4 (a b c d : List Value) (h1 : a.length = 3) (h2 : b.length = 3) (h3 : c.length = 3) (h4 : d.length = 3) (w : World) : (Instr.buildSlice 62 4 #[(0, .agg a.toArray), (1, .agg b.toArray), (2, .agg c.toArray), (3, .agg d.toArray)]).run Tryz.prog w = .ok (.slice (some ⟨w.heap.size, 0, none⟩) 4 4) (w.alloc (.cells (a ++ b ++ c ++ d).toArray 105)) := by
 have := run_bs Tryz.underlying62 (e := 105) (size := 3) (by kernel_rfl) [.agg a.toArray, .agg b.toArray, .agg c.toArray, .agg d.toArray] (by simp [Value.cells, h1, h2, h3, h4]) (by simp) w
 simpa [Value.cells, partsFrom] using this
/-- a shape's layout: its pieces, bits, sign, zeros. -/
def laidS (s : Nat) : List (Nat × Nat × Nat) × Nat × Bool × Nat :=
 if s = 73 then ([(0, 12, 20)], 12, true, 0) else if s = 67 then ([(0, 12, 20)], 12, false, 0) else if s = 72 then ([(0, 6, 20)], 6, false, 0) else if s = 83 then ([(0, 5, 7), (5, 7, 25)], 12, true, 0)
 else if s = 66 then ([(1, 4, 8), (5, 6, 25), (11, 1, 7), (12, 1, 31)], 13, true, 1) else if s = 85 then ([(12, 20, 12)], 32, true, 12) else if s = 74 then ([(12, 8, 12), (11, 1, 20), (1, 10, 21), (20, 1, 31)], 21, true, 1) else ([], 0, false, 0)
theorem qZ2 : type_of% (And.intro @szR (And.intro @rwC_len (And.intro @rwC_all (And.intro @rwsC_len (And.intro @rwsC_all (And.intro @ptC_len (And.intro @ptC_all (And.intro @pcC_len (@pcC_all))))))))) := ⟨@szR, @rwC_len, @rwC_all, @rwsC_len, @rwsC_all, @ptC_len, @ptC_all, @pcC_len, @pcC_all⟩
theorem qD2 {p : Prop} (h : p := by first | assumption | omega | (simp only [qZ2] <;> omega) | rfl | decide) : p := h
theorem laidG_spec {w : World} {s : Nat} (hs : shOk s) {K : Value -> World -> Prop} (hK : ∀ a n c w', n = (laidS s).1.length -> RowsAt w' (.slice a n c) 3 ((laidS s).1.map pcC) -> Ext [] w w' -> K (.agg (loC (.slice a n c) (laidS s).2.1 (laidS s).2.2.1 (laidS s).2.2.2).toArray) w') : callsK Tryz.prog 22 #[.int .u8 (s : Nat)] w K := by
 apply F22_ok
 unfold F22
 rcases hs with rfl | rfl | rfl | rfl | rfl | rfl | rfl | rfl | rfl | rfl | rfl
 all_goals
  simp (disch := first | exact qD2 | fail) only [qG1, Nat.reduceAdd, Nat.reduceLeDiff, Int.reduceToNat, Int.reduceAdd, Int.reduceSub, Int.reduceLT, Int.reduceLE, Nat.reduceSub, Nat.reduceMul, Nat.reduceEqDiff]
  refine joinL.intro fun J0 hJ0 => ?_
  simp (disch := first | exact qD2 | fail) only [qG1, Nat.reduceAdd, Nat.reduceLeDiff, Int.reduceToNat, Int.reduceAdd, Int.reduceSub, Int.reduceLT, Int.reduceLE, Nat.reduceSub, Nat.reduceMul, Nat.reduceEqDiff]
  apply hJ0
  intro _
 ·simp (disch := first | exact qD2 | fail) only [qG1, Nat.reduceAdd, Nat.reduceLeDiff, Int.reduceToNat, Int.reduceAdd, Int.reduceSub, Int.reduceLT, Int.reduceLE, Nat.reduceSub, Nat.reduceMul, Nat.reduceEqDiff]
  refine hK (some ⟨w.heap.size + 1, 0, none⟩) 1 1 _ rfl (rowsP1 (p := (0, 12, 20)) (E := 105) (f := (0, 0)) ?_) qX
  rw [upd_ne (by omega)]
  simp (disch := first | exact qD2 | fail) only [qG1, Nat.reduceAdd, Nat.reduceLeDiff, Int.reduceToNat, Int.reduceAdd, Int.reduceSub, Int.reduceLT, Int.reduceLE, Nat.reduceSub, Nat.reduceMul, Nat.reduceEqDiff]
  rfl
 ·simp (disch := first | exact qD2 | fail) only [qG1, Nat.reduceAdd, Nat.reduceLeDiff, Int.reduceToNat, Int.reduceAdd, Int.reduceSub, Int.reduceLT, Int.reduceLE, Nat.reduceSub, Nat.reduceMul, Nat.reduceEqDiff]
  refine hK (some ⟨w.heap.size + 1, 0, none⟩) 1 1 _ rfl (rowsP1 (p := (0, 12, 20)) (E := 105) (f := (0, 0)) ?_) qX
  rw [upd_ne (by omega)]
  simp (disch := first | exact qD2 | fail) only [qG1, Nat.reduceAdd, Nat.reduceLeDiff, Int.reduceToNat, Int.reduceAdd, Int.reduceSub, Int.reduceLT, Int.reduceLE, Nat.reduceSub, Nat.reduceMul, Nat.reduceEqDiff]
  rfl
 ·simp (disch := first | exact qD2 | fail) only [qG1, Nat.reduceAdd, Nat.reduceLeDiff, Int.reduceToNat, Int.reduceAdd, Int.reduceSub, Int.reduceLT, Int.reduceLE, Nat.reduceSub, Nat.reduceMul, Nat.reduceEqDiff]
  refine hK (some ⟨w.heap.size + 1, 0, none⟩) 1 1 _ rfl (rowsP1 (p := (0, 6, 20)) (E := 105) (f := (0, 0)) ?_) qX
  rw [upd_ne (by omega)]
  simp (disch := first | exact qD2 | fail) only [qG1, Nat.reduceAdd, Nat.reduceLeDiff, Int.reduceToNat, Int.reduceAdd, Int.reduceSub, Int.reduceLT, Int.reduceLE, Nat.reduceSub, Nat.reduceMul, Nat.reduceEqDiff]
  rfl
 ·have hbs : ∀ w : World, (Instr.buildSlice 62 2 #[(0, .agg [.int .i64 0, .int .i64 5, .int .i64 7].toArray), (1, .agg [.int .i64 5, .int .i64 7, .int .i64 25].toArray)]).run Tryz.prog w = .ok (.slice (some ⟨w.heap.size, 0, none⟩) 2 2) (w.alloc (.cells [.int .i64 0, .int .i64 5, .int .i64 7, .int .i64 5, .int .i64 7, .int .i64 25].toArray 105)) := fun w => bsP2 (pcC (0, 5, 7)) (pcC (5, 7, 25)) rfl rfl w
  simp (disch := first | exact qD2 | fail) only [qG1, Nat.reduceAdd, Nat.reduceLeDiff, Int.reduceToNat, Int.reduceAdd, Int.reduceSub, Int.reduceLT, Int.reduceLE, Nat.reduceSub, Nat.reduceMul, Nat.reduceEqDiff, hbs]
  refine hK (some ⟨w.heap.size + 1, 0, none⟩) 2 2 _ rfl (rowsP2 (p := (0, 5, 7)) (q := (5, 7, 25)) (E := 105) (f := (0, 0)) ?_) qX
  rw [upd_ne (by omega)]
  simp (disch := first | exact qD2 | fail) only [qG1, Nat.reduceAdd, Nat.reduceLeDiff, Int.reduceToNat, Int.reduceAdd, Int.reduceSub, Int.reduceLT, Int.reduceLE, Nat.reduceSub, Nat.reduceMul, Nat.reduceEqDiff]
  rfl
 ·have hbs : ∀ w : World, (Instr.buildSlice 62 4 #[(0, .agg [.int .i64 1, .int .i64 4, .int .i64 8].toArray), (1, .agg [.int .i64 5, .int .i64 6, .int .i64 25].toArray), (2, .agg [.int .i64 11, .int .i64 1, .int .i64 7].toArray), (3, .agg [.int .i64 12, .int .i64 1, .int .i64 31].toArray)]).run Tryz.prog w = .ok (.slice (some ⟨w.heap.size, 0, none⟩) 4 4) (w.alloc (.cells (pcC (1, 4, 8) ++ pcC (5, 6, 25) ++ pcC (11, 1, 7) ++ pcC (12, 1, 31)).toArray 105)) := fun w => bsP4 (pcC (1, 4, 8)) (pcC (5, 6, 25)) (pcC (11, 1, 7)) (pcC (12, 1, 31)) rfl rfl rfl rfl w
  simp (disch := first | exact qD2 | fail) only [qG1, Nat.reduceAdd, Nat.reduceLeDiff, Int.reduceToNat, Int.reduceAdd, Int.reduceSub, Int.reduceLT, Int.reduceLE, Nat.reduceSub, Nat.reduceMul, Nat.reduceEqDiff, hbs]
  refine hK (some ⟨w.heap.size + 1, 0, none⟩) 4 4 _ rfl (rowsP4 (p := (1, 4, 8)) (q := (5, 6, 25)) (r := (11, 1, 7)) (s := (12, 1, 31)) (E := 105) (f := (0, 0)) ?_) qX
  rw [upd_ne (by omega)]
  simp (disch := first | exact qD2 | fail) only [qG1, Nat.reduceAdd, Nat.reduceLeDiff, Int.reduceToNat, Int.reduceAdd, Int.reduceSub, Int.reduceLT, Int.reduceLE, Nat.reduceSub, Nat.reduceMul, Nat.reduceEqDiff]
 ·simp (disch := first | exact qD2 | fail) only [qG1, Nat.reduceAdd, Nat.reduceLeDiff, Int.reduceToNat, Int.reduceAdd, Int.reduceSub, Int.reduceLT, Int.reduceLE, Nat.reduceSub, Nat.reduceMul, Nat.reduceEqDiff]
  refine hK (some ⟨w.heap.size + 1, 0, none⟩) 1 1 _ rfl (rowsP1 (p := (12, 20, 12)) (E := 105) (f := (0, 0)) ?_) qX
  rw [upd_ne (by omega)]
  simp (disch := first | exact qD2 | fail) only [qG1, Nat.reduceAdd, Nat.reduceLeDiff, Int.reduceToNat, Int.reduceAdd, Int.reduceSub, Int.reduceLT, Int.reduceLE, Nat.reduceSub, Nat.reduceMul, Nat.reduceEqDiff]
  rfl
 ·have hbs : ∀ w : World, (Instr.buildSlice 62 4 #[(0, .agg [.int .i64 12, .int .i64 8, .int .i64 12].toArray), (1, .agg [.int .i64 11, .int .i64 1, .int .i64 20].toArray), (2, .agg [.int .i64 1, .int .i64 10, .int .i64 21].toArray), (3, .agg [.int .i64 20, .int .i64 1, .int .i64 31].toArray)]).run Tryz.prog w = .ok (.slice (some ⟨w.heap.size, 0, none⟩) 4 4) (w.alloc (.cells (pcC (12, 8, 12) ++ pcC (11, 1, 20) ++ pcC (1, 10, 21) ++ pcC (20, 1, 31)).toArray 105)) := fun w => bsP4 (pcC (12, 8, 12)) (pcC (11, 1, 20)) (pcC (1, 10, 21)) (pcC (20, 1, 31)) rfl rfl rfl rfl w
  simp (disch := first | exact qD2 | fail) only [qG1, Nat.reduceAdd, Nat.reduceLeDiff, Int.reduceToNat, Int.reduceAdd, Int.reduceSub, Int.reduceLT, Int.reduceLE, Nat.reduceSub, Nat.reduceMul, Nat.reduceEqDiff, hbs]
  refine hK (some ⟨w.heap.size + 1, 0, none⟩) 4 4 _ rfl (rowsP4 (p := (12, 8, 12)) (q := (11, 1, 20)) (r := (1, 10, 21)) (s := (20, 1, 31)) (E := 105) (f := (0, 0)) ?_) qX
  rw [upd_ne (by omega)]
  simp (disch := first | exact qD2 | fail) only [qG1, Nat.reduceAdd, Nat.reduceLeDiff, Int.reduceToNat, Int.reduceAdd, Int.reduceSub, Int.reduceLT, Int.reduceLE, Nat.reduceSub, Nat.reduceMul, Nat.reduceEqDiff]
 all_goals
  simp (disch := first | exact qD2 | fail) only [qG1, Nat.reduceAdd, Nat.reduceLeDiff, Int.reduceToNat, Int.reduceAdd, Int.reduceSub, Int.reduceLT, Int.reduceLE, Nat.reduceSub, Nat.reduceMul, Nat.reduceEqDiff]
  exact hK none 0 0 _ rfl ⟨none, 0, rfl, ⟨Nat.le_refl _, by simp [maxLen]⟩, .inl rfl⟩ qX
/-- which registers a shape has. -/
def hasS (s : Nat) : Bool × Bool × Bool := if s = 82 then (true, true, true) else if s = 71 ∨ s = 73 ∨ s = 67 ∨ s = 72 then (true, true, false) else if s = 83 ∨ s = 66 then (false, true, true) else if s = 85 ∨ s = 74 then (true, false, false) else (false, false, false)
theorem hasG_spec {w : World} {s : Nat} (hs : shOk s) {K : Value -> World -> Prop} (hK : K (.tuple #[.bool (hasS s).1, .bool (hasS s).2.1, .bool (hasS s).2.2]) w) : callsK Tryz.prog 24 #[.int .u8 (s : Nat)] w K := by
 apply F24_ok
 unfold F24
 rcases hs with rfl | rfl | rfl | rfl | rfl | rfl | rfl | rfl | rfl | rfl | rfl
 all_goals
  simp (disch := first | exact qD2 | fail) only [qG1, Nat.reduceAdd, Nat.reduceLeDiff, Int.reduceToNat, Int.reduceAdd, Int.reduceSub, Int.reduceLT, Int.reduceLE, Nat.reduceSub, Nat.reduceMul, Nat.reduceEqDiff, joinR]
  first | exact hK | exact fun _ => hK | exact fun _ _ => hK | exact fun _ _ _ => hK
/-- what an instruction has, in order. -/
def orderS (s : Nat) : List UInt8 := if s = 82 then [100, 97, 98] else if s = 71 then [100, 97] else if s = 73 ∨ s = 67 ∨ s = 72 then [100, 97, 109] else if s = 83 then [98, 97, 109] else if s = 66 then [97, 98, 109] else if s = 85 ∨ s = 74 then [100, 109] else []
theorem order_spec {w : World} {s : Nat} (hs : shOk s) {K : Value -> World -> Prop} (hK : K (.string ⟨(orderS s).toArray⟩) w) : callsK Tryz.prog 56 #[.int .u8 (s : Nat)] w K := by
 apply F56_ok
 unfold F56
 rcases hs with rfl | rfl | rfl | rfl | rfl | rfl | rfl | rfl | rfl | rfl | rfl
 all_goals
  simp (disch := first | exact qD2 | fail) only [qG1, Nat.reduceAdd, Nat.reduceLeDiff, Int.reduceToNat, Int.reduceAdd, Int.reduceSub, Int.reduceLT, Int.reduceLE, Nat.reduceSub, Nat.reduceMul, Nat.reduceEqDiff, joinR]
  first | exact hK | exact fun _ => hK | exact fun _ _ => hK | exact fun _ _ _ => hK
open Go.Fx
set_option maxRecDepth 100000
theorem lo_1 (v : Value) (b : Nat) (s : Bool) (z : Nat) : (loC v b s z)[1]? = some (.int .i64 (b : Nat)) := rfl
theorem lo_0 (v : Value) (b : Nat) (s : Bool) (z : Nat) : (loC v b s z)[0]? = some v := rfl
theorem lo_2 (v : Value) (b : Nat) (s : Bool) (z : Nat) : (loC v b s z)[2]? = some (.bool s) := rfl
theorem lo_3 (v : Value) (b : Nat) (s : Bool) (z : Nat) : (loC v b s z)[3]? = some (.int .i64 (z : Nat)) := rfl
theorem qZ3 : type_of% (And.intro @szR (And.intro @rwC_len (And.intro @rwC_all (And.intro @pcC_len (And.intro @pcC_all (And.intro @loC_len (@loC_all))))))) := ⟨@szR, @rwC_len, @rwC_all, @pcC_len, @pcC_all, @loC_len, @loC_all⟩
theorem qD3 {p : Prop} (h : p := by first | assumption | omega | (simp only [qZ3] <;> omega) | rfl | decide) : p := h
theorem maskG_spec {w : World} {z : Nat} (hz : z < 64) {K : Value -> World -> Prop} (hK : K (.int .u64 (2 ^ z - 1 : Nat)) w) : callsK Tryz.prog 47 #[.int .i64 (z : Nat)] w K := by
 rcases Nat.eq_zero_or_pos z with rfl | h
 ·apply F47_ok
  unfold F47
  simp (disch := first | exact qD3 | fail) only [qG1, Nat.reduceAdd, Nat.reduceLeDiff, Int.reduceToNat, Int.reduceAdd, Int.reduceSub, Int.reduceLT, Int.reduceLE, Nat.reduceSub, Nat.reduceMul, Nat.reduceEqDiff]
  exact hK
 ·exact fMask_spec (k := (z : Nat)) (by omega) hK
def fitsL (n bits : Nat) (sg : Bool) (z : Nat) (x : Int) : Bool := n == 0 || ((if sg then fitsS x bits else fitsU x bits) && decide (x % 2 ^ z = 0))
theorem un_mod {z : Nat} (hz : z < 64) (x : Int) : decide (((un x % 2 ^ z : Nat) : Int) = 0) = decide (x % 2 ^ z = 0) := by
 apply decide_eq_decide.2
 have e : (18446744073709551616 : Int) = 2 ^ z * 2 ^ (64 - z) := by
  rw [<- Int.pow_add, show z + (64 - z) = 64 by omega]
  decide
 have hu : ((un x : Nat) : Int) = x % 18446744073709551616 := by unfold un; omega
 have h2 : ((2 ^ z : Nat) : Int) = 2 ^ z := by simp
 rw [Int.natCast_emod, hu, h2, e, Int.emod_emod_of_dvd _ (Int.dvd_mul_right _ _)]
theorem fitsG_spec {w : World} {a : Option Addr} {n c bits z : Nat} {sg : Bool} {x : Int} (hn : n <= 4) (hb : 0 < n -> 1 <= bits /\ bits <= 63) (hz : z < 64) (hx : -9223372036854775808 <= x /\ x < 9223372036854775808) {K : Value -> World -> Prop} (hK : ∀ w', Ext [] w w' -> K (.bool (fitsL n bits sg z x)) w') :
  callsK Tryz.prog 62 #[.agg (loC (.slice a n c) bits sg z).toArray, .int .i64 x] w K := by
 apply F62_ok
 unfold F62
 have e0 := lo_0 (.slice a n c) bits sg z
 have e1 := lo_1 (.slice a n c) bits sg z
 have e2 := lo_2 (.slice a n c) bits sg z
 have e3 := lo_3 (.slice a n c) bits sg z
 have ls : sub (loC (.slice a n c) bits sg z) 0 4 = loC (.slice a n c) bits sg z := rfl
 rcases Nat.eq_zero_or_pos n with rfl | hn0
 ·have hf : fitsL 0 bits sg z x = true := rfl
  rw [hf] at hK
  simp (disch := first | exact qD3 | fail) only [qG1, Nat.reduceAdd, Nat.reduceLeDiff, Int.reduceToNat, Int.reduceAdd, Int.reduceSub, Int.reduceLT, Int.reduceLE, Nat.reduceSub, Nat.reduceMul, Nat.reduceEqDiff, joinBR, e0, e1, e2, e3, ls]
  exact hK _ qX
 ·obtain ⟨hb1, hb2⟩ := hb hn0
  have hne : ¬ ((n : Nat) : Int) = 0 := by omega
  have hf : fitsL n bits sg z x = ((if sg then fitsS x bits else fitsU x bits) && decide (x % 2 ^ z = 0)) := by
   unfold fitsL
   have : (n == 0) = false := by simp; omega
   rw [this, Bool.false_or]
  rw [hf] at hK
  have hw := wrap_un x
  have hl := un_lt x
  have hp := pow64 (i := z) hz
  have hp0 := Nat.two_pow_pos z
  have hmod := Nat.and_two_pow_sub_one_eq_mod (un x) z
  have hand := and_u64 (a := ((un x : Nat) : Int)) (b := ((2 ^ z - 1 : Nat) : Int)) (by omega) (by omega)
  simp only [Int.toNat_natCast, hmod] at hand
  have hm := un_mod hz x
  have hcont : ∀ f : Bool, (if sg then fitsS x bits else fitsU x bits) = f -> ∀ w', Ext [] w w' -> K (.bool (f && decide (x % 2 ^ z = 0))) w' := fun f h w' hx' => by
   rw [h] at hK
   exact hK w' hx'
  clear hK
  have hgo : ∀ w', Ext [] w w' -> (∀ K : Value -> World -> Prop, (∀ f : Bool, (if sg then fitsS x bits else fitsU x bits) = f -> K (.bool f) w') -> callsK Tryz.prog 64 #[.int .i64 x, .int .i64 (bits : Nat), .bool sg] w' K) := by
   intro w' hx' K hK
   cases sg with
   | true => exact FitsS_spec ⟨hb1, by omega⟩ hx (hK _ rfl)
   | false => exact FitsU_spec ⟨hb1, hb2⟩ hx (hK _ rfl)
  simp (disch := first | exact qD3 | fail) only [qG1, Nat.reduceAdd, Nat.reduceLeDiff, Int.reduceToNat, Int.reduceAdd, Int.reduceSub, Int.reduceLT, Int.reduceLE, Nat.reduceSub, Nat.reduceMul, Nat.reduceEqDiff, joinBR, e0, e1, e2, e3, ls]
  refine hgo _ qX _ fun f hfe => ?_
  have hc2 := hcont f hfe
  clear hcont hgo
  cases f with
  | false =>
   simp (disch := first | exact qD3 | fail) only [qG1, Nat.reduceAdd, Nat.reduceLeDiff, Int.reduceToNat, Int.reduceAdd, Int.reduceSub, Int.reduceLT, Int.reduceLE, Nat.reduceSub, Nat.reduceMul, Nat.reduceEqDiff, joinBR]
   exact hc2 _ qX
  | true =>
   simp (disch := first | exact qD3 | fail) only [qG1, Nat.reduceAdd, Nat.reduceLeDiff, Int.reduceToNat, Int.reduceAdd, Int.reduceSub, Int.reduceLT, Int.reduceLE, Nat.reduceSub, Nat.reduceMul, Nat.reduceEqDiff, joinBR, e3]
   refine maskG_spec hz ?_
   simp (disch := first | exact qD3 | fail) only [qG1, Nat.reduceAdd, Nat.reduceLeDiff, Int.reduceToNat, Int.reduceAdd, Int.reduceSub, Int.reduceLT, Int.reduceLE, Nat.reduceSub, Nat.reduceMul, Nat.reduceEqDiff, joinBR, hw]
   rw [hand, hm]
   exact hc2 _ qX
def layB (x : Int) (W : Nat) (p : Nat × Nat × Nat) : Nat := putB W p.2.2 p.2.1 (un x / 2 ^ p.1 % 2 ^ p.2.1)
theorem layB_lt {x : Int} {W : Nat} {ps : List (Nat × Nat × Nat)} (hp : ∀ p ∈ ps, pcOk p) (hW : W < 18446744073709551616) : ps.foldl (layB x) W < 18446744073709551616 := by
 induction ps generalizing W with
 | nil => exact hW
 | cons p ps ih =>
  rw [List.foldl_cons]
  obtain ⟨p1, p2, p3, p4⟩ := hp p (by simp)
  exact ih (fun q hq => hp q (by simp [hq])) (putB_lt hW (by omega))
theorem layG_spec {w : World} {v : Value} {ps : List (Nat × Nat × Nat)} {bits z W : Nat} {x : Int} {sg : Bool} (hv : RowsAt w v 3 (ps.map pcC)) (hp : ∀ p ∈ ps, pcOk p) (hW0 : W < 18446744073709551616)
  {K : Value -> World -> Prop} (hK : ∀ w', Ext [] w w' -> K (.int .u64 (ps.foldl (layB x) W : Nat)) w') :
  callsK Tryz.prog 63 #[.agg (loC v bits sg z).toArray, .int .u64 (W : Nat), .int .i64 x] w K := by
 apply F63_ok
 unfold F63
 have hcap : ps.length <= maxLen := by
  obtain ⟨_, _, _, ⟨hc1, hc2⟩, _⟩ := id hv
  rw [List.length_map] at hc1
  omega
 simp only [maxLen] at hcap
 have hlen : (ps.map pcC).length = ps.length := by simp
 obtain ⟨a, cap, rfl⟩ := hv.len
 have hx0 : Ext [] w (w.alloc (.cells (loC (.slice a (ps.map pcC).length cap) bits sg z).toArray 64)) := qX
 have c0 := lo_0 (.slice a (ps.map pcC).length cap) bits sg z
 have ls : sub (loC (.slice a (ps.map pcC).length cap) bits sg z) 0 4 = loC (.slice a (ps.map pcC).length cap) bits sg z := rfl
 simp (disch := first | exact qD3 | fail) only [qG1, Nat.reduceAdd, Nat.reduceLeDiff, Int.reduceToNat, Int.reduceAdd, Int.reduceSub, Int.reduceLT, Int.reduceLE, Nat.reduceSub, Nat.reduceMul, Nat.reduceEqDiff, c0, ls]
 refine loopT.intro (fun st w' => ∃ (k : Nat), k <= ps.length /\ st = [.int .u64 ((ps.take k).foldl (layB x) W : Nat), .int .i64 (k : Nat)] /\ Ext [] w w')
  (fun st _ => match st with
   | [_, .int _ z] => ps.length - z.toNat
   | _ => 0) ⟨0, Nat.zero_le _, rfl, hx0⟩ ?_
 rintro st w' ⟨k, hk, rfl, hx'⟩ _
 by_cases h4 : k < ps.length
 ·obtain ⟨p, hpk⟩ : ∃ p, ps[k]? = some p := ⟨_, List.getElem?_eq_getElem h4⟩
  have hrow : (ps.map pcC)[k]? = some (pcC p) := by rw [List.getElem?_map, hpk]; rfl
  obtain ⟨b0, o0, lb, E0, f0, hix, hb0, hfit, hblt, hbk, hsub, hget⟩ := RowsAt.ixR (P := Tryz.prog) (t := 62) Tryz.underlying62 Tryz.sizeOf105 hv hrow
  have hb3 := hx'.at hb0 (by simp)
  have hs := hsub o0 rfl
  have hW : (ps.take k).foldl (layB x) W < 18446744073709551616 := layB_lt (fun q hq => hp q (List.mem_of_mem_take hq)) hW0
  obtain ⟨p1, p2, p3, p4⟩ := hp p (List.mem_of_getElem? hpk)
  have hnext : (ps.take (k + 1)).foldl (layB x) W = layB x ((ps.take k).foldl (layB x) W) p := by
   rw [List.take_add_one, hpk, List.foldl_append]
   rfl
  obtain ⟨W1, hW1⟩ : ∃ W1, W1 = (ps.take k).foldl (layB x) W := ⟨_, rfl⟩
  rw [<- hW1] at hW hnext ⊢
  have q0 : (pcC p)[0]? = some (.int .i64 (p.1 : Nat)) := rfl
  have q1 : (pcC p)[1]? = some (.int .i64 (p.2.1 : Nat)) := rfl
  have q2 : (pcC p)[2]? = some (.int .i64 (p.2.2 : Nat)) := rfl
  have hwx := wrap_un x
  have hux := un_lt x
  simp (disch := first | exact qD3 | fail) only [qG1, Nat.reduceAdd, Nat.reduceLeDiff, Int.reduceToNat, Int.reduceAdd, Int.reduceSub, Int.reduceLT, Int.reduceLE, Nat.reduceSub, Nat.reduceMul, Nat.reduceEqDiff, hlen]
  refine joinL.intro fun J2 hJ2 => ?_
  simp (disch := first | exact qD3 | fail) only [qG1, Nat.reduceAdd, Nat.reduceLeDiff, Int.reduceToNat, Int.reduceAdd, Int.reduceSub, Int.reduceLT, Int.reduceLE, Nat.reduceSub, Nat.reduceMul, Nat.reduceEqDiff, hix, hb3, hs, pcC_over, pcC_over2]
  have hx2 : Ext [] w' (w'.alloc (.cells (pcC p).toArray 105)).drew := qX
  have g7 : (w'.alloc (.cells (pcC p).toArray 105)).drew.heap[w'.heap.size]? = some (.cells (pcC p).toArray 105 (0, 0)) := alloc_at rfl
  generalize w'.heap.size = b7 at *
  generalize (w'.alloc (.cells (pcC p).toArray 105)).drew = w2 at *
  have hqp := Nat.mod_lt (un x / 2 ^ p.1) (Nat.two_pow_pos p.2.1)
  have hp64 : (2 : Nat) ^ p.2.1 <= 18446744073709551616 := Nat.le_trans (Nat.pow_le_pow_right (by omega) (show p.2.1 <= 64 by omega)) (by decide)
  refine relX.ext [] ?_
  (repeat (apply postX.is; (focus (intro v w2 hR hd; have e0 := hR.at g7 (by simp); (try simp (disch := first | exact qD3 | fail) only [qG1, Nat.reduceAdd, Nat.reduceLeDiff, Int.reduceToNat, Int.reduceAdd, Int.reduceSub, Int.reduceLT, Int.reduceLE, Nat.reduceSub, Nat.reduceMul, Nat.reduceEqDiff, hd, e0, q0, q1, q2, hwx, List.getD_cons_zero, List.getD_cons_succ]); exact okX.is))))
  apply postX.is
  ·intro v w3 hR hd
   simp (disch := first | exact qD3 | fail) only [qG1, Nat.reduceAdd, Nat.reduceLeDiff, Int.reduceToNat, Int.reduceAdd, Int.reduceSub, Int.reduceLT, Int.reduceLE, Nat.reduceSub, Nat.reduceMul, Nat.reduceEqDiff, hd]
   exact fGet_spec (by omega) (by omega) (by omega) (by omega) fun w4 hx4 => okX.mk hx4 rfl
  intro v w3 hR hd _
  simp (disch := first | exact qD3 | fail) only [qG1, Nat.reduceAdd, Nat.reduceLeDiff, Int.reduceToNat, Int.reduceAdd, Int.reduceSub, Int.reduceLT, Int.reduceLE, Nat.reduceSub, Nat.reduceMul, Nat.reduceEqDiff, hd, Int.toNat_natCast]
  refine fPutG_spec (by omega) (by omega) (by omega) hW (by omega) fun w4 hx4 => ?_
  apply hJ2
  intro _
  simp (disch := first | exact qD3 | fail) only [qG1, Nat.reduceAdd, Nat.reduceLeDiff, Int.reduceToNat, Int.reduceAdd, Int.reduceSub, Int.reduceLT, Int.reduceLE, Nat.reduceSub, Nat.reduceMul, Nat.reduceEqDiff, List.getD_cons_zero, List.getD_cons_succ]
  refine ⟨⟨k + 1, by omega, ?_, ((hx'.trans hx2 (by simp)).trans hR (by simp)).trans hx4 (by simp)⟩, by first | omega | (simp <;> omega)⟩
  rw [hnext]
  unfold layB
  simp
 ·obtain rfl : k = ps.length := by omega
  rw [List.take_length]
  simp (disch := first | exact qD3 | fail) only [qG1, Nat.reduceAdd, Nat.reduceLeDiff, Int.reduceToNat, Int.reduceAdd, Int.reduceSub, Int.reduceLT, Int.reduceLE, Nat.reduceSub, Nat.reduceMul, Nat.reduceEqDiff, hlen, List.getD_cons_zero, List.getD_cons_succ]
  exact hK _ hx'
def readX (W x : Nat) (p : Nat × Nat × Nat) : Nat := putB x p.1 p.2.1 (W / 2 ^ p.2.2 % 2 ^ p.2.1)
theorem readX_lt {W x : Nat} {ps : List (Nat × Nat × Nat)} (hp : ∀ p ∈ ps, pcOk p) (hx : x < 18446744073709551616) : ps.foldl (readX W) x < 18446744073709551616 := by
 induction ps generalizing x with
 | nil => exact hx
 | cons p ps ih =>
  rw [List.foldl_cons]
  obtain ⟨p1, p2, p3, p4⟩ := hp p (by simp)
  exact ih (fun q hq => hp q (by simp [hq])) (putB_lt hx (by omega))
/-- the number that pieces of a word make. -/
def readL (ps : List (Nat × Nat × Nat)) (bits : Nat) (sg : Bool) (W : Nat) : Int := let x := if sg then signN (ps.foldl (readX W) 0) bits else ps.foldl (readX W) 0
 if x < 9223372036854775808 then (x : Int) else (x : Int) - 18446744073709551616
theorem readG_spec {w : World} {v : Value} {ps : List (Nat × Nat × Nat)} {bits z W : Nat} {sg : Bool} (hv : RowsAt w v 3 (ps.map pcC)) (hp : ∀ p ∈ ps, pcOk p) (hW : W < 18446744073709551616)
  (hb : sg = true -> 1 <= bits /\ bits <= 64) {K : Value -> World -> Prop} (hK : ∀ w', Ext [] w w' -> K (.int .i64 (readL ps bits sg W)) w') :
  callsK Tryz.prog 23 #[.agg (loC v bits sg z).toArray, .int .u64 (W : Nat)] w K := by
 apply F23_ok
 unfold F23
 have hcap : ps.length <= maxLen := by
  obtain ⟨_, _, _, ⟨hc1, hc2⟩, _⟩ := id hv
  rw [List.length_map] at hc1
  omega
 simp only [maxLen] at hcap
 have hlen : (ps.map pcC).length = ps.length := by simp
 obtain ⟨a, cap, rfl⟩ := hv.len
 have hx0 : Ext [] w (w.alloc (.cells (loC (.slice a (ps.map pcC).length cap) bits sg z).toArray 64)) := qX
 have c0 := lo_0 (.slice a (ps.map pcC).length cap) bits sg z
 have c1 := lo_1 (.slice a (ps.map pcC).length cap) bits sg z
 have c2 := lo_2 (.slice a (ps.map pcC).length cap) bits sg z
 have g0 : (w.alloc (.cells (loC (.slice a (ps.map pcC).length cap) bits sg z).toArray 64)).heap[w.heap.size]? = some (.cells (loC (.slice a (ps.map pcC).length cap) bits sg z).toArray 64 (0, 0)) := by simp (disch := first | exact qD3 | fail) only [qG1, Nat.reduceAdd, Nat.reduceLeDiff, Int.reduceToNat, Int.reduceAdd, Int.reduceSub, Int.reduceLT, Int.reduceLE, Nat.reduceSub, Nat.reduceMul, Nat.reduceEqDiff]
 simp (disch := first | exact qD3 | fail) only [qG1, Nat.reduceAdd, Nat.reduceLeDiff, Int.reduceToNat, Int.reduceAdd, Int.reduceSub, Int.reduceLT, Int.reduceLE, Nat.reduceSub, Nat.reduceMul, Nat.reduceEqDiff, c0]
 refine loopT.intro (fun st w' => ∃ (k : Nat), k <= ps.length /\ st = [.int .u64 ((ps.take k).foldl (readX W) 0 : Nat), .int .i64 (k : Nat)] /\ w'.heap[w.heap.size]? = some (.cells (loC (.slice a (ps.map pcC).length cap) bits sg z).toArray 64 (0, 0)) /\ Ext [] w w')
  (fun st _ => match st with
   | [_, .int _ z] => ps.length - z.toNat
   | _ => 0) ⟨0, Nat.zero_le _, rfl, g0, hx0⟩ ?_
 rintro st w' ⟨k, hk, rfl, h1, hx'⟩ _
 have l1 := lt_of_at h1
 by_cases h4 : k < ps.length
 ·obtain ⟨p, hpk⟩ : ∃ p, ps[k]? = some p := ⟨_, List.getElem?_eq_getElem h4⟩
  have hrow : (ps.map pcC)[k]? = some (pcC p) := by rw [List.getElem?_map, hpk]; rfl
  obtain ⟨b0, o0, lb, E0, f0, hix, hb0, hfit, hblt, hbk, hsub, hget⟩ := RowsAt.ixR (P := Tryz.prog) (t := 62) Tryz.underlying62 Tryz.sizeOf105 hv hrow
  have hb3 := hx'.at hb0 (by simp)
  have hs := hsub o0 rfl
  have hX : (ps.take k).foldl (readX W) 0 < 18446744073709551616 := readX_lt (fun q hq => hp q (List.mem_of_mem_take hq)) (by omega)
  obtain ⟨p1, p2, p3, p4⟩ := hp p (List.mem_of_getElem? hpk)
  have hnext : (ps.take (k + 1)).foldl (readX W) 0 = readX W ((ps.take k).foldl (readX W) 0) p := by
   rw [List.take_add_one, hpk, List.foldl_append]
   rfl
  obtain ⟨W1, hW1⟩ : ∃ W1, W1 = (ps.take k).foldl (readX W) 0 := ⟨_, rfl⟩
  rw [<- hW1] at hX hnext ⊢
  have q0 : (pcC p)[0]? = some (.int .i64 (p.1 : Nat)) := rfl
  have q1 : (pcC p)[1]? = some (.int .i64 (p.2.1 : Nat)) := rfl
  have q2 : (pcC p)[2]? = some (.int .i64 (p.2.2 : Nat)) := rfl
  simp (disch := first | exact qD3 | fail) only [qG1, Nat.reduceAdd, Nat.reduceLeDiff, Int.reduceToNat, Int.reduceAdd, Int.reduceSub, Int.reduceLT, Int.reduceLE, Nat.reduceSub, Nat.reduceMul, Nat.reduceEqDiff, hlen]
  refine joinL.intro fun J2 hJ2 => ?_
  simp (disch := first | exact qD3 | fail) only [qG1, Nat.reduceAdd, Nat.reduceLeDiff, Int.reduceToNat, Int.reduceAdd, Int.reduceSub, Int.reduceLT, Int.reduceLE, Nat.reduceSub, Nat.reduceMul, Nat.reduceEqDiff, hix, hb3, hs, pcC_over, pcC_over2]
  have hx2 : Ext [] w' (w'.alloc (.cells (pcC p).toArray 105)).drew := qX
  have g7 : (w'.alloc (.cells (pcC p).toArray 105)).drew.heap[w'.heap.size]? = some (.cells (pcC p).toArray 105 (0, 0)) := alloc_at rfl
  obtain ⟨b7, hb7⟩ : ∃ b7, b7 = w'.heap.size := ⟨_, rfl⟩
  rw [<- hb7] at g7 ⊢
  generalize (w'.alloc (.cells (pcC p).toArray 105)).drew = w2 at *
  have hqp := Nat.mod_lt (W / 2 ^ p.2.2) (Nat.two_pow_pos p.2.1)
  have hp64 : (2 : Nat) ^ p.2.1 <= 18446744073709551616 := Nat.le_trans (Nat.pow_le_pow_right (by omega) (show p.2.1 <= 64 by omega)) (by decide)
  refine relX.ext [] ?_
  (repeat (apply postX.is; (focus (intro v w2 hR hd; have e0 := hR.at g7 (by simp); (try simp (disch := first | exact qD3 | fail) only [qG1, Nat.reduceAdd, Nat.reduceLeDiff, Int.reduceToNat, Int.reduceAdd, Int.reduceSub, Int.reduceLT, Int.reduceLE, Nat.reduceSub, Nat.reduceMul, Nat.reduceEqDiff, hd, e0, q0, q1, q2, List.getD_cons_zero, List.getD_cons_succ]); exact okX.is))))
  apply postX.is
  ·intro v w3 hR hd
   simp (disch := first | exact qD3 | fail) only [qG1, Nat.reduceAdd, Nat.reduceLeDiff, Int.reduceToNat, Int.reduceAdd, Int.reduceSub, Int.reduceLT, Int.reduceLE, Nat.reduceSub, Nat.reduceMul, Nat.reduceEqDiff, hd]
   exact fGet_spec (by omega) (by omega) (by omega) (by omega) fun w4 hx4 => okX.mk hx4 rfl
  intro v w3 hR hd _
  simp (disch := first | exact qD3 | fail) only [qG1, Nat.reduceAdd, Nat.reduceLeDiff, Int.reduceToNat, Int.reduceAdd, Int.reduceSub, Int.reduceLT, Int.reduceLE, Nat.reduceSub, Nat.reduceMul, Nat.reduceEqDiff, hd, Int.toNat_natCast]
  refine fPutG_spec (by omega) (by omega) (by omega) hX (by omega) fun w4 hx4 => ?_
  have hx5 := (hx2.trans hR (by simp)).trans hx4 (by simp)
  apply hJ2
  intro _
  simp (disch := first | exact qD3 | fail) only [qG1, Nat.reduceAdd, Nat.reduceLeDiff, Int.reduceToNat, Int.reduceAdd, Int.reduceSub, Int.reduceLT, Int.reduceLE, Nat.reduceSub, Nat.reduceMul, Nat.reduceEqDiff, List.getD_cons_zero, List.getD_cons_succ]
  refine ⟨⟨k + 1, by omega, ?_, hx5.at h1 (by simp), hx'.trans hx5 (by simp)⟩, by first | omega | (simp <;> omega)⟩
  rw [hnext]
  unfold readX
  simp
 ·obtain rfl : k = ps.length := by omega
  have hX : (ps.take ps.length).foldl (readX W) 0 < 18446744073709551616 := readX_lt (fun q hq => hp q (List.mem_of_mem_take hq)) (by omega)
  rw [List.take_length] at hX ⊢
  obtain ⟨R, hR⟩ : ∃ R, R = readL ps bits sg W := ⟨_, rfl⟩
  rw [<- hR] at hK
  unfold readL at hR
  generalize ps.foldl (readX W) 0 = x at *
  simp (disch := first | exact qD3 | fail) only [qG1, Nat.reduceAdd, Nat.reduceLeDiff, Int.reduceToNat, Int.reduceAdd, Int.reduceSub, Int.reduceLT, Int.reduceLE, Nat.reduceSub, Nat.reduceMul, Nat.reduceEqDiff, hlen]
  refine joinL.intro fun J5 hJ5 => ?_
  cases sg with
  | false =>
   have hr : R = if x < 9223372036854775808 then (x : Int) else (x : Int) - 18446744073709551616 := hR
   have hw := wrap_i64N hX
   rw [<- hr] at hw
   simp (disch := first | exact qD3 | fail) only [qG1, Nat.reduceAdd, Nat.reduceLeDiff, Int.reduceToNat, Int.reduceAdd, Int.reduceSub, Int.reduceLT, Int.reduceLE, Nat.reduceSub, Nat.reduceMul, Nat.reduceEqDiff, h1, c2]
   apply hJ5
   intro _
   simp (disch := first | exact qD3 | fail) only [qG1, Nat.reduceAdd, Nat.reduceLeDiff, Int.reduceToNat, Int.reduceAdd, Int.reduceSub, Int.reduceLT, Int.reduceLE, Nat.reduceSub, Nat.reduceMul, Nat.reduceEqDiff, hw, List.getD_cons_zero]
   exact hK _ hx'
  | true =>
   have hr : R = if signN x bits < 9223372036854775808 then (signN x bits : Int) else (signN x bits : Int) - 18446744073709551616 := hR
   have hw := wrap_i64N (signN_lt (x := x) (hb rfl))
   rw [<- hr] at hw
   simp (disch := first | exact qD3 | fail) only [qG1, Nat.reduceAdd, Nat.reduceLeDiff, Int.reduceToNat, Int.reduceAdd, Int.reduceSub, Int.reduceLT, Int.reduceLE, Nat.reduceSub, Nat.reduceMul, Nat.reduceEqDiff, h1, c1, c2]
   refine SignG_spec (hb rfl) ?_
   apply hJ5
   intro _
   simp (disch := first | exact qD3 | fail) only [qG1, Nat.reduceAdd, Nat.reduceLeDiff, Int.reduceToNat, Int.reduceAdd, Int.reduceSub, Int.reduceLT, Int.reduceLE, Nat.reduceSub, Nat.reduceMul, Nat.reduceEqDiff, hw, List.getD_cons_zero]
   exact hK _ hx'
end Go.Proofs.YtobkjnmdbkieeaaGreatDoor
