/- Part 3 of what the law ExecLays stands on: formulas of the functions that it reaches, and what each of them does; conditions: those of each theorem. -/
import Derived.Test.YtldkfbelnndaoaaGreatDoorP2
set_option linter.unusedVariables false
set_option linter.unusedSimpArgs false
namespace Go.Proofs.YtldkfbelnndaoaaGreatDoor
open Go.Fx
set_option maxRecDepth 100000
set_option maxHeartbeats 4000000
theorem RX_call_6 : type_of% (Fx.kN_callf Tryz.call6) := Fx.kN_callf Tryz.call6
theorem RX_call_7 : type_of% (Fx.kN_callf Tryz.call7) := Fx.kN_callf Tryz.call7
theorem RX_al_32 : type_of% (Fx.run_alloc Tryz.zeroValue32) := Fx.run_alloc Tryz.zeroValue32
theorem RX_st_32 : type_of% (Fx.run_storeN' Tryz.sizeOf32) := Fx.run_storeN' Tryz.sizeOf32
theorem RX_bl_37_0_1 : ∀ (a0x0 : Bool) (a1x0 : Int) (w : World), (Instr.build 37 [(0, .bool a0x0), (1, .int .u64 a1x0)].toArray).run Tryz.prog w = .ok (.agg [.bool a0x0, .int .u64 a1x0, (.int .u64 0)].toArray) w := fun a0x0 a1x0 w => run_build w 37 _ _ (by kernel_rfl)
theorem RX_al_37 : type_of% (Fx.run_alloc Tryz.zeroValue37) := Fx.run_alloc Tryz.zeroValue37
theorem RX_st_37 : type_of% (Fx.run_storeN' Tryz.sizeOf37) := Fx.run_storeN' Tryz.sizeOf37
theorem RX_ld_37 : type_of% (Fx.run_loadN' Tryz.isAgg37 Tryz.sizeOf37) := Fx.run_loadN' Tryz.isAgg37 Tryz.sizeOf37
theorem RX_call_8 : type_of% (Fx.kN_callf Tryz.call8) := Fx.kN_callf Tryz.call8
theorem RX_bl_52_0 : ∀ (a0x0 : Option Addr) (w : World), (Instr.build 52 [(0, .pointer a0x0)].toArray).run Tryz.prog w = .ok (.agg [.pointer a0x0].toArray) w := fun a0x0 w => run_build w 52 _ _ (by kernel_rfl)
theorem RX_call_9 : type_of% (Fx.kN_callf Tryz.call9) := Fx.kN_callf Tryz.call9
theorem RX_al_40 : type_of% (Fx.run_alloc Tryz.zeroValue40) := Fx.run_alloc Tryz.zeroValue40
theorem RX_al_48 : type_of% (Fx.run_alloc Tryz.zeroValue48) := Fx.run_alloc Tryz.zeroValue48
theorem RX_st_40 : type_of% (Fx.run_storeN' Tryz.sizeOf40) := Fx.run_storeN' Tryz.sizeOf40
theorem RX_st_48 : type_of% (Fx.run_storeN' Tryz.sizeOf48) := Fx.run_storeN' Tryz.sizeOf48
theorem RX_ld_40 : type_of% (Fx.run_loadN' Tryz.isAgg40 Tryz.sizeOf40) := Fx.run_loadN' Tryz.isAgg40 Tryz.sizeOf40
theorem RX_call_18 : type_of% (Fx.kN_callf Tryz.call18) := Fx.kN_callf Tryz.call18
theorem RX_fld_48_0 : ∀ (b o : Nat) (w : World), (Instr.fieldAt 48 (.pointer (some ⟨b, o, none⟩)) 0).run Tryz.prog w = .ok (.pointer (some ⟨b, o, none⟩)) w := Fx.run_fieldO 0 0 1 Tryz.underlying48 rfl Tryz.sizeOf3 (by decide)
theorem RX_fld_48_3 : ∀ (b o : Nat) (w : World), (Instr.fieldAt 48 (.pointer (some ⟨b, o, none⟩)) 3).run Tryz.prog w = .ok (.pointer (some ⟨b, o + 3, none⟩)) w := Fx.run_fieldO 3 3 5 Tryz.underlying48 rfl Tryz.sizeOf46 (by decide)
theorem RX_call_10 : type_of% (Fx.kN_callf Tryz.call10) := Fx.kN_callf Tryz.call10
theorem RX_call_11 : type_of% (Fx.kN_callf Tryz.call11) := Fx.kN_callf Tryz.call11
theorem RX_eql_37 : ∀ (a0 b0 : Bool) (a1 b1 : Int) (a2 b2 : Int) (x y : Operand) (w : World), (binV .eql 37 x y (.agg [.bool a0, .int .u64 a1, .int .u64 a2].toArray) (.agg [.bool b0, .int .u64 b1, .int .u64 b2].toArray)).run Tryz.prog w = .ok (.bool (((a0 == b0) && ((a1 == b1) && ((a2 == b2) && true))))) w := fun a0 b0 a1 b1 a2 b2 x y w => Fx.eql_agg (by kernel_rfl) _ _ _ x y w (Fx.equalIn_struct (d := 9999) (by kernel_rfl) (by kernel_rfl) (q := [(4, 0), (35, 1), (35, 2)]) (by kernel_rfl) (by kernel_rfl) (Fx.eqQ_cons (Fx.part1 Tryz.isAgg4 rfl) (Fx.part1 Tryz.isAgg4 rfl) (run_equalIn_bool _ 9998 4 _ _ Tryz.underlying4) (Fx.eqQ_cons (Fx.part1 Tryz.isAgg35 rfl) (Fx.part1 Tryz.isAgg35 rfl) (run_equalIn_int _ 9998 35 .u64 .u64 _ _ Tryz.underlying35) (Fx.eqQ_cons (Fx.part1 Tryz.isAgg35 rfl) (Fx.part1 Tryz.isAgg35 rfl) (run_equalIn_int _ 9998 35 .u64 .u64 _ _ Tryz.underlying35) (Fx.eqQ_nil)))))
theorem RX_fld_40_1 : ∀ (b o : Nat) (w : World), (Instr.fieldAt 40 (.pointer (some ⟨b, o, none⟩)) 1).run Tryz.prog w = .ok (.pointer (some ⟨b, o + 96, none⟩)) w := Fx.run_fieldO 1 96 3 Tryz.underlying40 rfl Tryz.sizeOf37 (by decide)
theorem RX_call_19 : type_of% (Fx.kN_callf Tryz.call19) := Fx.kN_callf Tryz.call19
theorem RX_call_20 : type_of% (Fx.kN_callf Tryz.call20) := Fx.kN_callf Tryz.call20
theorem RX_fld_43_0 : ∀ (b o : Nat) (w : World), (Instr.fieldAt 43 (.pointer (some ⟨b, o, none⟩)) 0).run Tryz.prog w = .ok (.pointer (some ⟨b, o, none⟩)) w := Fx.run_fieldO 0 0 1 Tryz.underlying43 rfl Tryz.sizeOf22 (by decide)
theorem RX_ld_22 : type_of% (Fx.run_load1' Tryz.isAgg22) := Fx.run_load1' Tryz.isAgg22
theorem RX_fld_43_2 : ∀ (b o : Nat) (w : World), (Instr.fieldAt 43 (.pointer (some ⟨b, o, none⟩)) 2).run Tryz.prog w = .ok (.pointer (some ⟨b, o + 100, none⟩)) w := Fx.run_fieldO 2 100 1 Tryz.underlying43 rfl Tryz.sizeOf41 (by decide)
theorem RX_ld_41 : type_of% (Fx.run_load1' Tryz.isAgg41) := Fx.run_load1' Tryz.isAgg41
theorem RX_len_41 : ∀ (a : Option Addr) (len cap : Nat) (w : World), (Builtin.len_ #[41] 3 #[.slice a len cap]).run Tryz.prog w = .ok (.int .i64 len) w := Fx.run_len_slice Tryz.underlying41
theorem RX_eql_28 : type_of% (Fx.run_eqlP Tryz.underlying28) := Fx.run_eqlP Tryz.underlying28
theorem RX_ld_32 : type_of% (Fx.run_loadN' Tryz.isAgg32 Tryz.sizeOf32) := Fx.run_loadN' Tryz.isAgg32 Tryz.sizeOf32
theorem RX_cv_3_35 : type_of% (Fx.run_convert_int Tryz.underlying3 Tryz.underlying35) := Fx.run_convert_int Tryz.underlying3 Tryz.underlying35
theorem RX_ix_22 : type_of% (Fx.run_index_slice Tryz.underlying22 Tryz.sizeOf71) := Fx.run_index_slice Tryz.underlying22 Tryz.sizeOf71
theorem RX_ld_71 : type_of% (Fx.run_load1' Tryz.isAgg71) := Fx.run_load1' Tryz.isAgg71
theorem RX_cv_71_35 : type_of% (Fx.run_convert_int Tryz.underlying71 Tryz.underlying35) := Fx.run_convert_int Tryz.underlying71 Tryz.underlying35
theorem RX_call_21 : type_of% (Fx.kN_callf Tryz.call21) := Fx.kN_callf Tryz.call21
theorem RX_call_22 : type_of% (Fx.kN_callf Tryz.call22) := Fx.kN_callf Tryz.call22
theorem RX_ix_41 : type_of% (Fx.run_index_slice Tryz.underlying41 Tryz.sizeOf37) := Fx.run_index_slice Tryz.underlying41 Tryz.sizeOf37
theorem RX_call_23 : type_of% (Fx.kN_callf Tryz.call23) := Fx.kN_callf Tryz.call23
theorem RX_call_24 : type_of% (Fx.kN_callf Tryz.call24) := Fx.kN_callf Tryz.call24
theorem RX_call_25 : type_of% (Fx.kN_callf Tryz.call25) := Fx.kN_callf Tryz.call25
theorem RX_call_26 : type_of% (Fx.kN_callf Tryz.call26) := Fx.kN_callf Tryz.call26
theorem RX_call_27 : type_of% (Fx.kN_callf Tryz.call27) := Fx.kN_callf Tryz.call27
theorem RX_fld_88_3 : ∀ (b o : Nat) (w : World), (Instr.fieldAt 88 (.pointer (some ⟨b, o, none⟩)) 3).run Tryz.prog w = .ok (.pointer (some ⟨b, o + 199, none⟩)) w := Fx.run_fieldO 3 199 5 Tryz.underlying88 rfl Tryz.sizeOf46 (by decide)
theorem RX_fld_88_4 : ∀ (b o : Nat) (w : World), (Instr.fieldAt 88 (.pointer (some ⟨b, o, none⟩)) 4).run Tryz.prog w = .ok (.pointer (some ⟨b, o + 204, none⟩)) w := Fx.run_fieldO 4 204 3 Tryz.underlying88 rfl Tryz.sizeOf37 (by decide)
theorem RX_fld_88_5 : ∀ (b o : Nat) (w : World), (Instr.fieldAt 88 (.pointer (some ⟨b, o, none⟩)) 5).run Tryz.prog w = .ok (.pointer (some ⟨b, o + 207, none⟩)) w := Fx.run_fieldO 5 207 3 Tryz.underlying88 rfl Tryz.sizeOf37 (by decide)
theorem RX_call_28 : type_of% (Fx.kN_callf Tryz.call28) := Fx.kN_callf Tryz.call28
theorem RX_ld_48 : type_of% (Fx.run_loadN' Tryz.isAgg48 Tryz.sizeOf48) := Fx.run_loadN' Tryz.isAgg48 Tryz.sizeOf48
theorem RX_call_29 : type_of% (Fx.kN_callf Tryz.call29) := Fx.kN_callf Tryz.call29
theorem RX_scall_29 : type_of% (Fx.sN_callf Tryz.call29) := Fx.sN_callf Tryz.call29
theorem RX_bl_37_ : ∀  (w : World), (Instr.build 37 [].toArray).run Tryz.prog w = .ok (.agg [(.bool false), (.int .u64 0), (.int .u64 0)].toArray) w := fun w => run_build w 37 _ _ (by kernel_rfl)
theorem RX_fld_40_0 : ∀ (b o : Nat) (w : World), (Instr.fieldAt 40 (.pointer (some ⟨b, o, none⟩)) 0).run Tryz.prog w = .ok (.pointer (some ⟨b, o, none⟩)) w := Fx.run_fieldO 0 0 96 Tryz.underlying40 rfl Tryz.sizeOf38 (by decide)
theorem RX_ix_38 : type_of% (Fx.run_index_array Tryz.underlying38 Tryz.sizeOf37) := Fx.run_index_array Tryz.underlying38 Tryz.sizeOf37
theorem RX_bl_37_2 : ∀ (a2x0 : Int) (w : World), (Instr.build 37 [(2, .int .u64 a2x0)].toArray).run Tryz.prog w = .ok (.agg [(.bool false), (.int .u64 0), .int .u64 a2x0].toArray) w := fun a2x0 w => run_build w 37 _ _ (by kernel_rfl)
theorem RX_call_45 : type_of% (Fx.kN_callf Tryz.call45) := Fx.kN_callf Tryz.call45
theorem RX_al_114 : type_of% (Fx.run_alloc Tryz.zeroValue114) := Fx.run_alloc Tryz.zeroValue114
theorem RX_st_114 : type_of% (Fx.run_storeN' Tryz.sizeOf114) := Fx.run_storeN' Tryz.sizeOf114
theorem RX_fld_114_1 : ∀ (b o : Nat) (w : World), (Instr.fieldAt 114 (.pointer (some ⟨b, o, none⟩)) 1).run Tryz.prog w = .ok (.pointer (some ⟨b, o + 1, none⟩)) w := Fx.run_fieldO 1 1 1 Tryz.underlying114 rfl Tryz.sizeOf5 (by decide)
theorem RX_ld_5 : type_of% (Fx.run_load1' Tryz.isAgg5) := Fx.run_load1' Tryz.isAgg5
theorem RX_call_46 : type_of% (Fx.kN_callf Tryz.call46) := Fx.kN_callf Tryz.call46
theorem RX_ld_2 : type_of% (Fx.run_load1' Tryz.isAgg2) := Fx.run_load1' Tryz.isAgg2
theorem RX_call_47 : type_of% (Fx.kN_callf Tryz.call47) := Fx.kN_callf Tryz.call47
theorem RX_ld_114 : type_of% (Fx.run_loadN' Tryz.isAgg114 Tryz.sizeOf114) := Fx.run_loadN' Tryz.isAgg114 Tryz.sizeOf114
theorem RX_call_48 : type_of% (Fx.kN_callf Tryz.call48) := Fx.kN_callf Tryz.call48
theorem RX_call_49 : type_of% (Fx.kN_callf Tryz.call49) := Fx.kN_callf Tryz.call49
theorem RX_call_50 : type_of% (Fx.kN_callf Tryz.call50) := Fx.kN_callf Tryz.call50
theorem RX_bl_127_0_1_2 : ∀ (a0x0 : Bool) (a1x0 : Int) (a2x0 : Int) (w : World), (Instr.build 127 [(0, .bool a0x0), (1, .int .i64 a1x0), (2, .int .i64 a2x0)].toArray).run Tryz.prog w = .ok (.agg [.bool a0x0, .int .i64 a1x0, .int .i64 a2x0].toArray) w := fun a0x0 a1x0 a2x0 w => run_build w 127 _ _ (by kernel_rfl)
theorem RX_al_127 : type_of% (Fx.run_alloc Tryz.zeroValue127) := Fx.run_alloc Tryz.zeroValue127
theorem RX_st_127 : type_of% (Fx.run_storeN' Tryz.sizeOf127) := Fx.run_storeN' Tryz.sizeOf127
theorem RX_fld_127_0 : ∀ (b o : Nat) (w : World), (Instr.fieldAt 127 (.pointer (some ⟨b, o, none⟩)) 0).run Tryz.prog w = .ok (.pointer (some ⟨b, o, none⟩)) w := Fx.run_fieldO 0 0 1 Tryz.underlying127 rfl Tryz.sizeOf4 (by decide)
theorem RX_fld_127_2 : ∀ (b o : Nat) (w : World), (Instr.fieldAt 127 (.pointer (some ⟨b, o, none⟩)) 2).run Tryz.prog w = .ok (.pointer (some ⟨b, o + 2, none⟩)) w := Fx.run_fieldO 2 2 1 Tryz.underlying127 rfl Tryz.sizeOf3 (by decide)
theorem RX_scall_51 : type_of% (Fx.sN_callf Tryz.call51) := Fx.sN_callf Tryz.call51
theorem RX_fld_127_1 : ∀ (b o : Nat) (w : World), (Instr.fieldAt 127 (.pointer (some ⟨b, o, none⟩)) 1).run Tryz.prog w = .ok (.pointer (some ⟨b, o + 1, none⟩)) w := Fx.run_fieldO 1 1 1 Tryz.underlying127 rfl Tryz.sizeOf3 (by decide)
theorem RX_cv_35_71 : type_of% (Fx.run_convert_int Tryz.underlying35 Tryz.underlying71) := Fx.run_convert_int Tryz.underlying35 Tryz.underlying71
theorem RX_call_53 : type_of% (Fx.kN_callf Tryz.call53) := Fx.kN_callf Tryz.call53
theorem RX_bl_32_ : ∀  (w : World), (Instr.build 32 [].toArray).run Tryz.prog w = .ok (.agg [(.int .i64 0), (.slice none 0 0), (.slice none 0 0), (.slice none 0 0)].toArray) w := fun w => run_build w 32 _ _ (by kernel_rfl)
theorem RX_bl_32_0 : ∀ (a0x0 : Int) (w : World), (Instr.build 32 [(0, .int .i64 a0x0)].toArray).run Tryz.prog w = .ok (.agg [.int .i64 a0x0, (.slice none 0 0), (.slice none 0 0), (.slice none 0 0)].toArray) w := fun a0x0 w => run_build w 32 _ _ (by kernel_rfl)
theorem RX_call_60 : type_of% (Fx.kN_callf Tryz.call60) := Fx.kN_callf Tryz.call60
theorem RX_cv_3_151 : type_of% (Fx.run_convert_int Tryz.underlying3 Tryz.underlying151) := Fx.run_convert_int Tryz.underlying3 Tryz.underlying151
theorem RX_call_61 : type_of% (Fx.kN_callf Tryz.call61) := Fx.kN_callf Tryz.call61
theorem RX_call_66 : type_of% (Fx.kN_callf Tryz.call66) := Fx.kN_callf Tryz.call66
theorem RX_al_162 : type_of% (Fx.run_alloc Tryz.zeroValue162) := Fx.run_alloc Tryz.zeroValue162
theorem RX_st_162 : type_of% (Fx.run_storeN' Tryz.sizeOf162) := Fx.run_storeN' Tryz.sizeOf162
theorem RX_fld_162_2 : ∀ (b o : Nat) (w : World), (Instr.fieldAt 162 (.pointer (some ⟨b, o, none⟩)) 2).run Tryz.prog w = .ok (.pointer (some ⟨b, o + 7, none⟩)) w := Fx.run_fieldO 2 7 1 Tryz.underlying162 rfl Tryz.sizeOf4 (by decide)
theorem RX_ld_162 : type_of% (Fx.run_loadN' Tryz.isAgg162 Tryz.sizeOf162) := Fx.run_loadN' Tryz.isAgg162 Tryz.sizeOf162
theorem RX_call_67 : type_of% (Fx.kN_callf Tryz.call67) := Fx.kN_callf Tryz.call67
theorem RX_call_69 : type_of% (Fx.kN_callf Tryz.call69) := Fx.kN_callf Tryz.call69
theorem RX_scall_69 : type_of% (Fx.sN_callf Tryz.call69) := Fx.sN_callf Tryz.call69
theorem RX_fld_162_1 : ∀ (b o : Nat) (w : World), (Instr.fieldAt 162 (.pointer (some ⟨b, o, none⟩)) 1).run Tryz.prog w = .ok (.pointer (some ⟨b, o + 3, none⟩)) w := Fx.run_fieldO 1 3 4 Tryz.underlying162 rfl Tryz.sizeOf160 (by decide)
theorem RX_fld_160_1 : ∀ (b o : Nat) (w : World), (Instr.fieldAt 160 (.pointer (some ⟨b, o, none⟩)) 1).run Tryz.prog w = .ok (.pointer (some ⟨b, o + 2, none⟩)) w := Fx.run_fieldO 1 2 1 Tryz.underlying160 rfl Tryz.sizeOf35 (by decide)
theorem RX_call_68 : type_of% (Fx.kN_callf Tryz.call68) := Fx.kN_callf Tryz.call68
theorem RX_scall_68 : type_of% (Fx.sN_callf Tryz.call68) := Fx.sN_callf Tryz.call68
theorem RX_fld_160_0 : ∀ (b o : Nat) (w : World), (Instr.fieldAt 160 (.pointer (some ⟨b, o, none⟩)) 0).run Tryz.prog w = .ok (.pointer (some ⟨b, o, none⟩)) w := Fx.run_fieldO 0 0 2 Tryz.underlying160 rfl Tryz.sizeOf158 (by decide)
theorem RX_fld_158_0 : ∀ (b o : Nat) (w : World), (Instr.fieldAt 158 (.pointer (some ⟨b, o, none⟩)) 0).run Tryz.prog w = .ok (.pointer (some ⟨b, o, none⟩)) w := Fx.run_fieldO 0 0 1 Tryz.underlying158 rfl Tryz.sizeOf35 (by decide)
theorem RX_fld_158_1 : ∀ (b o : Nat) (w : World), (Instr.fieldAt 158 (.pointer (some ⟨b, o, none⟩)) 1).run Tryz.prog w = .ok (.pointer (some ⟨b, o + 1, none⟩)) w := Fx.run_fieldO 1 1 1 Tryz.underlying158 rfl Tryz.sizeOf35 (by decide)
theorem RX_call_70 : type_of% (Fx.kN_callf Tryz.call70) := Fx.kN_callf Tryz.call70
theorem RX_fld_88_1 : ∀ (b o : Nat) (w : World), (Instr.fieldAt 88 (.pointer (some ⟨b, o, none⟩)) 1).run Tryz.prog w = .ok (.pointer (some ⟨b, o + 99, none⟩)) w := Fx.run_fieldO 1 99 99 Tryz.underlying88 rfl Tryz.sizeOf40 (by decide)
theorem RX_bl_48_0_1_2_3 : ∀ (a0x0 : Int) (a1x0 : Int) (a2x0 : Int) (a3x0 : Int) (a3x1 : Int) (a3x2 : Int) (a3x3 : Int) (a3x4 : Int) (w : World), (Instr.build 48 [(0, .int .i64 a0x0), (1, .int .i64 a1x0), (2, .int .u64 a2x0), (3, .agg [.int .i64 a3x0, .int .i64 a3x1, .int .i64 a3x2, .int .i64 a3x3, .int .i64 a3x4].toArray)].toArray).run Tryz.prog w = .ok (.agg [.int .i64 a0x0, .int .i64 a1x0, .int .u64 a2x0, .int .i64 a3x0, .int .i64 a3x1, .int .i64 a3x2, .int .i64 a3x3, .int .i64 a3x4].toArray) w := fun a0x0 a1x0 a2x0 a3x0 a3x1 a3x2 a3x3 a3x4 w => run_build w 48 _ _ (by kernel_rfl)
theorem RX_call_71 : type_of% (Fx.kN_callf Tryz.call71) := Fx.kN_callf Tryz.call71
theorem RX_call_72 : type_of% (Fx.kN_callf Tryz.call72) := Fx.kN_callf Tryz.call72
theorem RX_bl_46_0_4 : ∀ (a0x0 : Int) (a4x0 : Int) (w : World), (Instr.build 46 [(0, .int .i64 a0x0), (4, .int .i64 a4x0)].toArray).run Tryz.prog w = .ok (.agg [.int .i64 a0x0, (.int .i64 0), (.int .i64 0), (.int .i64 0), .int .i64 a4x0].toArray) w := fun a0x0 a4x0 w => run_build w 46 _ _ (by kernel_rfl)
theorem RX_call_74 : type_of% (Fx.kN_callf Tryz.call74) := Fx.kN_callf Tryz.call74
theorem RX_scall_74 : type_of% (Fx.sN_callf Tryz.call74) := Fx.sN_callf Tryz.call74
theorem RX_call_75 : type_of% (Fx.kN_callf Tryz.call75) := Fx.kN_callf Tryz.call75
theorem RX_call_76 : type_of% (Fx.kN_callf Tryz.call76) := Fx.kN_callf Tryz.call76
theorem RX_call_77 : type_of% (Fx.kN_callf Tryz.call77) := Fx.kN_callf Tryz.call77
theorem RX_fld_88_0 : ∀ (b o : Nat) (w : World), (Instr.fieldAt 88 (.pointer (some ⟨b, o, none⟩)) 0).run Tryz.prog w = .ok (.pointer (some ⟨b, o, none⟩)) w := Fx.run_fieldO 0 0 99 Tryz.underlying88 rfl Tryz.sizeOf40 (by decide)
theorem RX_call_79 : type_of% (Fx.kN_callf Tryz.call79) := Fx.kN_callf Tryz.call79
theorem RX_call_78 : type_of% (Fx.kN_callf Tryz.call78) := Fx.kN_callf Tryz.call78
theorem RX_call_80 : type_of% (Fx.kN_callf Tryz.call80) := Fx.kN_callf Tryz.call80
theorem RX_call_81 : type_of% (Fx.kN_callf Tryz.call81) := Fx.kN_callf Tryz.call81
theorem RX_call_82 : type_of% (Fx.kN_callf Tryz.call82) := Fx.kN_callf Tryz.call82
theorem RX_scall_82 : type_of% (Fx.sN_callf Tryz.call82) := Fx.sN_callf Tryz.call82
theorem RX_call_83 : type_of% (Fx.kN_callf Tryz.call83) := Fx.kN_callf Tryz.call83
theorem RX_call_84 : type_of% (Fx.kN_callf Tryz.call84) := Fx.kN_callf Tryz.call84
theorem RX_fld_114_0 : ∀ (b o : Nat) (w : World), (Instr.fieldAt 114 (.pointer (some ⟨b, o, none⟩)) 0).run Tryz.prog w = .ok (.pointer (some ⟨b, o, none⟩)) w := Fx.run_fieldO 0 0 1 Tryz.underlying114 rfl Tryz.sizeOf9 (by decide)
theorem RX_bl_114_ : ∀  (w : World), (Instr.build 114 [].toArray).run Tryz.prog w = .ok (.agg [(.string ⟨#[]⟩), (.int .u8 0), (.int .u64 0), (.int .u64 0), (.int .u64 0)].toArray) w := fun w => run_build w 114 _ _ (by kernel_rfl)
theorem RX_al_119 : type_of% (Fx.run_alloc Tryz.zeroValue119) := Fx.run_alloc Tryz.zeroValue119
theorem RX_bl_188_0_1_2 : ∀ (a0x0 : Int) (a1x0 : Int) (a2x0 : Int) (w : World), (Instr.build 188 [(0, .int .i64 a0x0), (1, .int .i64 a1x0), (2, .int .i64 a2x0)].toArray).run Tryz.prog w = .ok (.agg [.int .i64 a0x0, .int .i64 a1x0, .int .i64 a2x0].toArray) w := fun a0x0 a1x0 a2x0 w => run_build w 188 _ _ (by kernel_rfl)
theorem RX_bs_117_1 : ∀ (vs : List Value) (w : World), vs.length = 3 -> (Instr.buildSlice 117 1 [(0, .agg vs.toArray)].toArray).run Tryz.prog w = .ok (.slice (some ⟨w.heap.size, 0, none⟩) 1 1) (w.alloc (.cells vs.toArray 188)) := fun vs w h => Fx.run_bs1 Tryz.underlying117 (by kernel_rfl) (by decide) vs h w
theorem RX_bl_119_0_1_2_3 : ∀ (a0x0 : Option Addr) (a0x0n a0x0c : Nat) (a1x0 : Int) (a2x0 : Bool) (a3x0 : Int) (w : World), (Instr.build 119 [(0, .slice a0x0 a0x0n a0x0c), (1, .int .i64 a1x0), (2, .bool a2x0), (3, .int .i64 a3x0)].toArray).run Tryz.prog w = .ok (.agg [.slice a0x0 a0x0n a0x0c, .int .i64 a1x0, .bool a2x0, .int .i64 a3x0].toArray) w := fun a0x0 a0x0n a0x0c a1x0 a2x0 a3x0 w => run_build w 119 _ _ (by kernel_rfl)
theorem RX_st_119 : type_of% (Fx.run_storeN' Tryz.sizeOf119) := Fx.run_storeN' Tryz.sizeOf119
theorem RX_bl_119_ : ∀  (w : World), (Instr.build 119 [].toArray).run Tryz.prog w = .ok (.agg [(.slice none 0 0), (.int .i64 0), (.bool false), (.int .i64 0)].toArray) w := fun w => run_build w 119 _ _ (by kernel_rfl)
theorem RX_ld_119 : type_of% (Fx.run_loadN' Tryz.isAgg119 Tryz.sizeOf119) := Fx.run_loadN' Tryz.isAgg119 Tryz.sizeOf119
theorem RX_fld_119_0 : ∀ (b o : Nat) (w : World), (Instr.fieldAt 119 (.pointer (some ⟨b, o, none⟩)) 0).run Tryz.prog w = .ok (.pointer (some ⟨b, o, none⟩)) w := Fx.run_fieldO 0 0 1 Tryz.underlying119 rfl Tryz.sizeOf117 (by decide)
theorem RX_ld_117 : type_of% (Fx.run_load1' Tryz.isAgg117) := Fx.run_load1' Tryz.isAgg117
theorem RX_len_117 : ∀ (a : Option Addr) (len cap : Nat) (w : World), (Builtin.len_ #[117] 3 #[.slice a len cap]).run Tryz.prog w = .ok (.int .i64 len) w := Fx.run_len_slice Tryz.underlying117
theorem RX_fld_119_1 : ∀ (b o : Nat) (w : World), (Instr.fieldAt 119 (.pointer (some ⟨b, o, none⟩)) 1).run Tryz.prog w = .ok (.pointer (some ⟨b, o + 1, none⟩)) w := Fx.run_fieldO 1 1 1 Tryz.underlying119 rfl Tryz.sizeOf3 (by decide)
theorem RX_fld_119_2 : ∀ (b o : Nat) (w : World), (Instr.fieldAt 119 (.pointer (some ⟨b, o, none⟩)) 2).run Tryz.prog w = .ok (.pointer (some ⟨b, o + 2, none⟩)) w := Fx.run_fieldO 2 2 1 Tryz.underlying119 rfl Tryz.sizeOf4 (by decide)
theorem RX_fld_119_3 : ∀ (b o : Nat) (w : World), (Instr.fieldAt 119 (.pointer (some ⟨b, o, none⟩)) 3).run Tryz.prog w = .ok (.pointer (some ⟨b, o + 3, none⟩)) w := Fx.run_fieldO 3 3 1 Tryz.underlying119 rfl Tryz.sizeOf3 (by decide)
theorem RX_scall_97 : type_of% (Fx.sN_callf Tryz.call97) := Fx.sN_callf Tryz.call97
theorem RX_al_35 : type_of% (Fx.run_alloc Tryz.zeroValue35) := Fx.run_alloc Tryz.zeroValue35
theorem RX_call_98 : type_of% (Fx.kN_callf Tryz.call98) := Fx.kN_callf Tryz.call98
theorem RX_fld_114_2 : ∀ (b o : Nat) (w : World), (Instr.fieldAt 114 (.pointer (some ⟨b, o, none⟩)) 2).run Tryz.prog w = .ok (.pointer (some ⟨b, o + 2, none⟩)) w := Fx.run_fieldO 2 2 1 Tryz.underlying114 rfl Tryz.sizeOf35 (by decide)
theorem RX_fld_114_4 : ∀ (b o : Nat) (w : World), (Instr.fieldAt 114 (.pointer (some ⟨b, o, none⟩)) 4).run Tryz.prog w = .ok (.pointer (some ⟨b, o + 4, none⟩)) w := Fx.run_fieldO 4 4 1 Tryz.underlying114 rfl Tryz.sizeOf35 (by decide)
theorem RX_fld_114_3 : ∀ (b o : Nat) (w : World), (Instr.fieldAt 114 (.pointer (some ⟨b, o, none⟩)) 3).run Tryz.prog w = .ok (.pointer (some ⟨b, o + 3, none⟩)) w := Fx.run_fieldO 3 3 1 Tryz.underlying114 rfl Tryz.sizeOf35 (by decide)
theorem RX_ix_117 : type_of% (Fx.run_index_slice Tryz.underlying117 Tryz.sizeOf188) := Fx.run_index_slice Tryz.underlying117 Tryz.sizeOf188
theorem RX_ld_188 : type_of% (Fx.run_loadN' Tryz.isAgg188 Tryz.sizeOf188) := Fx.run_loadN' Tryz.isAgg188 Tryz.sizeOf188
theorem RX_al_188 : type_of% (Fx.run_alloc Tryz.zeroValue188) := Fx.run_alloc Tryz.zeroValue188
theorem RX_st_188 : type_of% (Fx.run_storeN' Tryz.sizeOf188) := Fx.run_storeN' Tryz.sizeOf188
theorem RX_fld_188_2 : ∀ (b o : Nat) (w : World), (Instr.fieldAt 188 (.pointer (some ⟨b, o, none⟩)) 2).run Tryz.prog w = .ok (.pointer (some ⟨b, o + 2, none⟩)) w := Fx.run_fieldO 2 2 1 Tryz.underlying188 rfl Tryz.sizeOf3 (by decide)
theorem RX_fld_188_1 : ∀ (b o : Nat) (w : World), (Instr.fieldAt 188 (.pointer (some ⟨b, o, none⟩)) 1).run Tryz.prog w = .ok (.pointer (some ⟨b, o + 1, none⟩)) w := Fx.run_fieldO 1 1 1 Tryz.underlying188 rfl Tryz.sizeOf3 (by decide)
theorem RX_fld_188_0 : ∀ (b o : Nat) (w : World), (Instr.fieldAt 188 (.pointer (some ⟨b, o, none⟩)) 0).run Tryz.prog w = .ok (.pointer (some ⟨b, o, none⟩)) w := Fx.run_fieldO 0 0 1 Tryz.underlying188 rfl Tryz.sizeOf3 (by decide)
theorem RX_call_101 : type_of% (Fx.kN_callf Tryz.call101) := Fx.kN_callf Tryz.call101
theorem RX_call_64 : type_of% (Fx.kN_callf Tryz.call64) := Fx.kN_callf Tryz.call64
theorem RX_bs_29_0 : ∀ (w : World), (Instr.buildSlice 29 0 #[]).run Tryz.prog w = .ok (.slice (some ⟨w.heap.size, 0, none⟩) 0 0) (w.alloc (.cells [].toArray 35)) := Fx.run_bs0 Tryz.underlying29 (size := 1) (by kernel_rfl)
theorem RX_fld_32_1 : ∀ (b o : Nat) (w : World), (Instr.fieldAt 32 (.pointer (some ⟨b, o, none⟩)) 1).run Tryz.prog w = .ok (.pointer (some ⟨b, o + 1, none⟩)) w := Fx.run_fieldO 1 1 1 Tryz.underlying32 rfl Tryz.sizeOf29 (by decide)
theorem RX_ld_29 : type_of% (Fx.run_load1' Tryz.isAgg29) := Fx.run_load1' Tryz.isAgg29
theorem RX_bs_29_1 : ∀ (v0 : Value) (w : World), [v0].all (fun v => v.oneCell') = true -> (Instr.buildSlice 29 1 [(0, v0)].toArray).run Tryz.prog w = .ok (.slice (some ⟨w.heap.size, 0, none⟩) 1 1) (w.alloc (.cells [v0].toArray 35)) := fun v0 w h => Fx.run_bsS Tryz.underlying29 (by kernel_rfl) [v0] (List.all_eq_true.1 h) (by simp) w
theorem RX_st_29 : type_of% (Fx.run_store1' Tryz.sizeOf29) := Fx.run_store1' Tryz.sizeOf29
theorem RX_bs_30_0 : ∀ (w : World), (Instr.buildSlice 30 0 #[]).run Tryz.prog w = .ok (.slice (some ⟨w.heap.size, 0, none⟩) 0 0) (w.alloc (.cells [].toArray 5)) := Fx.run_bs0 Tryz.underlying30 (size := 1) (by kernel_rfl)
theorem RX_fld_32_2 : ∀ (b o : Nat) (w : World), (Instr.fieldAt 32 (.pointer (some ⟨b, o, none⟩)) 2).run Tryz.prog w = .ok (.pointer (some ⟨b, o + 2, none⟩)) w := Fx.run_fieldO 2 2 1 Tryz.underlying32 rfl Tryz.sizeOf30 (by decide)
theorem RX_ld_30 : type_of% (Fx.run_load1' Tryz.isAgg30) := Fx.run_load1' Tryz.isAgg30
theorem RX_st_30 : type_of% (Fx.run_store1' Tryz.sizeOf30) := Fx.run_store1' Tryz.sizeOf30
theorem RX_call_103 : type_of% (Fx.kN_callf Tryz.call103) := Fx.kN_callf Tryz.call103
theorem RX_fld_32_0 : ∀ (b o : Nat) (w : World), (Instr.fieldAt 32 (.pointer (some ⟨b, o, none⟩)) 0).run Tryz.prog w = .ok (.pointer (some ⟨b, o, none⟩)) w := Fx.run_fieldO 0 0 1 Tryz.underlying32 rfl Tryz.sizeOf3 (by decide)
theorem RX_fld_37_0 : ∀ (b o : Nat) (w : World), (Instr.fieldAt 37 (.pointer (some ⟨b, o, none⟩)) 0).run Tryz.prog w = .ok (.pointer (some ⟨b, o, none⟩)) w := Fx.run_fieldO 0 0 1 Tryz.underlying37 rfl Tryz.sizeOf4 (by decide)
theorem RX_call_106 : type_of% (Fx.kN_callf Tryz.call106) := Fx.kN_callf Tryz.call106
theorem RX_bl_162_0_1_2 : ∀ (a0x0 : Bool) (a0x1 : Int) (a0x2 : Int) (a1x0 : Int) (a1x1 : Int) (a1x2 : Int) (a1x3 : Int) (a2x0 : Bool) (w : World), (Instr.build 162 [(0, .agg [.bool a0x0, .int .u64 a0x1, .int .u64 a0x2].toArray), (1, .agg [.int .u64 a1x0, .int .u64 a1x1, .int .u64 a1x2, .int .u64 a1x3].toArray), (2, .bool a2x0)].toArray).run Tryz.prog w = .ok (.agg [.bool a0x0, .int .u64 a0x1, .int .u64 a0x2, .int .u64 a1x0, .int .u64 a1x1, .int .u64 a1x2, .int .u64 a1x3, .bool a2x0].toArray) w := fun a0x0 a0x1 a0x2 a1x0 a1x1 a1x2 a1x3 a2x0 w => run_build w 162 _ _ (by kernel_rfl)
theorem RX_fld_160_2 : ∀ (b o : Nat) (w : World), (Instr.fieldAt 160 (.pointer (some ⟨b, o, none⟩)) 2).run Tryz.prog w = .ok (.pointer (some ⟨b, o + 3, none⟩)) w := Fx.run_fieldO 2 3 1 Tryz.underlying160 rfl Tryz.sizeOf35 (by decide)
theorem RX_call_107 : type_of% (Fx.kN_callf Tryz.call107) := Fx.kN_callf Tryz.call107
theorem RX_al_167 : type_of% (Fx.run_alloc Tryz.zeroValue167) := Fx.run_alloc Tryz.zeroValue167
theorem RX_bl_114_0_1_2_3_4 : ∀ (a0x0 : ByteArray) (a1x0 : Int) (a2x0 : Int) (a3x0 : Int) (a4x0 : Int) (w : World), (Instr.build 114 [(0, .string a0x0), (1, .int .u8 a1x0), (2, .int .u64 a2x0), (3, .int .u64 a3x0), (4, .int .u64 a4x0)].toArray).run Tryz.prog w = .ok (.agg [.string a0x0, .int .u8 a1x0, .int .u64 a2x0, .int .u64 a3x0, .int .u64 a4x0].toArray) w := fun a0x0 a1x0 a2x0 a3x0 a4x0 w => run_build w 114 _ _ (by kernel_rfl)
theorem RX_st_167 : type_of% (Fx.run_storeN' Tryz.sizeOf167) := Fx.run_storeN' Tryz.sizeOf167
theorem RX_ld_167 : type_of% (Fx.run_loadN' Tryz.isAgg167 Tryz.sizeOf167) := Fx.run_loadN' Tryz.isAgg167 Tryz.sizeOf167
theorem RX_scall_99 : type_of% (Fx.sN_callf Tryz.call99) := Fx.sN_callf Tryz.call99
theorem RX_bl_199 : ∀ (a0 : Int) (a1 : Int) (a2 : Int) (a3 : Int) (w : World), (Instr.build 199 [(0, .int .i64 a0), (1, .int .i64 a1), (2, .int .i64 a2), (3, .int .i64 a3)].toArray).run Tryz.prog w = .ok (.agg [.int .i64 a0, .int .i64 a1, .int .i64 a2, .int .i64 a3].toArray) w := fun a0 a1 a2 a3 w => run_build w 199 _ _ (by kernel_rfl)
theorem RX_al_199 : type_of% (Fx.run_alloc Tryz.zeroValue199) := Fx.run_alloc Tryz.zeroValue199
theorem RX_st_199 : type_of% (Fx.run_storeN' Tryz.sizeOf199) := Fx.run_storeN' Tryz.sizeOf199
theorem RX_bl_200 : ∀ (a0 : Int) (a1 : Int) (a2 : Int) (a3 : Int) (a4 : Int) (a5 : Int) (a6 : Int) (w : World), (Instr.build 200 [(0, .int .i64 a0), (1, .int .i64 a1), (2, .int .i64 a2), (3, .int .i64 a3), (4, .int .i64 a4), (5, .int .i64 a5), (6, .int .i64 a6)].toArray).run Tryz.prog w = .ok (.agg [.int .i64 a0, .int .i64 a1, .int .i64 a2, .int .i64 a3, .int .i64 a4, .int .i64 a5, .int .i64 a6].toArray) w := fun a0 a1 a2 a3 a4 a5 a6 w => run_build w 200 _ _ (by kernel_rfl)
theorem RX_al_200 : type_of% (Fx.run_alloc Tryz.zeroValue200) := Fx.run_alloc Tryz.zeroValue200
theorem RX_st_200 : type_of% (Fx.run_storeN' Tryz.sizeOf200) := Fx.run_storeN' Tryz.sizeOf200
theorem RX_call_110 : type_of% (Fx.kN_callf Tryz.call110) := Fx.kN_callf Tryz.call110
theorem RX_scall_110 : type_of% (Fx.sN_callf Tryz.call110) := Fx.sN_callf Tryz.call110
theorem RX_ix_200 : type_of% (Fx.run_index_array Tryz.underlying200 Tryz.sizeOf3) := Fx.run_index_array Tryz.underlying200 Tryz.sizeOf3
theorem RX_call_111 : type_of% (Fx.kN_callf Tryz.call111) := Fx.kN_callf Tryz.call111
theorem RX_scall_111 : type_of% (Fx.sN_callf Tryz.call111) := Fx.sN_callf Tryz.call111
theorem RX_ix_199 : type_of% (Fx.run_index_array Tryz.underlying199 Tryz.sizeOf3) := Fx.run_index_array Tryz.underlying199 Tryz.sizeOf3
theorem RX_call_114 : type_of% (Fx.kN_callf Tryz.call114) := Fx.kN_callf Tryz.call114
theorem RX_call_109 : type_of% (Fx.kN_callf Tryz.call109) := Fx.kN_callf Tryz.call109
theorem RX_call_119 : type_of% (Fx.kN_callf Tryz.call119) := Fx.kN_callf Tryz.call119
theorem RX_eql_158 : ∀ (a0 b0 : Int) (a1 b1 : Int) (x y : Operand) (w : World), (binV .eql 158 x y (.agg [.int .u64 a0, .int .u64 a1].toArray) (.agg [.int .u64 b0, .int .u64 b1].toArray)).run Tryz.prog w = .ok (.bool (((a0 == b0) && ((a1 == b1) && true)))) w := fun a0 b0 a1 b1 x y w => Fx.eql_agg (by kernel_rfl) _ _ _ x y w (Fx.equalIn_struct (d := 9999) (by kernel_rfl) (by kernel_rfl) (q := [(35, 0), (35, 1)]) (by kernel_rfl) (by kernel_rfl) (Fx.eqQ_cons (Fx.part1 Tryz.isAgg35 rfl) (Fx.part1 Tryz.isAgg35 rfl) (run_equalIn_int _ 9998 35 .u64 .u64 _ _ Tryz.underlying35) (Fx.eqQ_cons (Fx.part1 Tryz.isAgg35 rfl) (Fx.part1 Tryz.isAgg35 rfl) (run_equalIn_int _ 9998 35 .u64 .u64 _ _ Tryz.underlying35) (Fx.eqQ_nil))))
theorem RX_fld_32_3 : ∀ (b o : Nat) (w : World), (Instr.fieldAt 32 (.pointer (some ⟨b, o, none⟩)) 3).run Tryz.prog w = .ok (.pointer (some ⟨b, o + 3, none⟩)) w := Fx.run_fieldO 3 3 1 Tryz.underlying32 rfl Tryz.sizeOf29 (by decide)
theorem RX_len_29 : ∀ (a : Option Addr) (len cap : Nat) (w : World), (Builtin.len_ #[29] 3 #[.slice a len cap]).run Tryz.prog w = .ok (.int .i64 len) w := Fx.run_len_slice Tryz.underlying29
theorem RX_ix_29 : type_of% (Fx.run_index_slice Tryz.underlying29 Tryz.sizeOf35) := Fx.run_index_slice Tryz.underlying29 Tryz.sizeOf35
theorem RX_call_138 : type_of% (Fx.kN_callf Tryz.call138) := Fx.kN_callf Tryz.call138
theorem RX_bl_48_3 : ∀ (a3x0 : Int) (a3x1 : Int) (a3x2 : Int) (a3x3 : Int) (a3x4 : Int) (w : World), (Instr.build 48 [(3, .agg [.int .i64 a3x0, .int .i64 a3x1, .int .i64 a3x2, .int .i64 a3x3, .int .i64 a3x4].toArray)].toArray).run Tryz.prog w = .ok (.agg [(.int .i64 0), (.int .i64 0), (.int .u64 0), .int .i64 a3x0, .int .i64 a3x1, .int .i64 a3x2, .int .i64 a3x3, .int .i64 a3x4].toArray) w := fun a3x0 a3x1 a3x2 a3x3 a3x4 w => run_build w 48 _ _ (by kernel_rfl)
theorem RX_call_112 : type_of% (Fx.kN_callf Tryz.call112) := Fx.kN_callf Tryz.call112
theorem RX_call_113 : type_of% (Fx.kN_callf Tryz.call113) := Fx.kN_callf Tryz.call113
theorem RX_bl_37_1_2 : ∀ (a1x0 : Int) (a2x0 : Int) (w : World), (Instr.build 37 [(1, .int .u64 a1x0), (2, .int .u64 a2x0)].toArray).run Tryz.prog w = .ok (.agg [(.bool false), .int .u64 a1x0, .int .u64 a2x0].toArray) w := fun a1x0 a2x0 w => run_build w 37 _ _ (by kernel_rfl)
theorem RX_bl_256_1_2 : ∀ (a1x0 : Int) (a2x0 : Int) (w : World), (Instr.build 256 [(1, .int .i64 a1x0), (2, .int .u64 a2x0)].toArray).run Tryz.prog w = .ok (.agg [(.int .i64 0), .int .i64 a1x0, .int .u64 a2x0].toArray) w := fun a1x0 a2x0 w => run_build w 256 _ _ (by kernel_rfl)
theorem RX_bl_256_0_1_2 : ∀ (a0x0 : Int) (a1x0 : Int) (a2x0 : Int) (w : World), (Instr.build 256 [(0, .int .i64 a0x0), (1, .int .i64 a1x0), (2, .int .u64 a2x0)].toArray).run Tryz.prog w = .ok (.agg [.int .i64 a0x0, .int .i64 a1x0, .int .u64 a2x0].toArray) w := fun a0x0 a1x0 a2x0 w => run_build w 256 _ _ (by kernel_rfl)
theorem RX_call_166 : type_of% (Fx.kN_callf Tryz.call166) := Fx.kN_callf Tryz.call166
theorem RX_call_180 : type_of% (Fx.kN_callf Tryz.call180) := Fx.kN_callf Tryz.call180
theorem RX_len_273 : ∀ (a : Option Addr) (len cap : Nat) (w : World), (Builtin.len_ #[273] 3 #[.slice a len cap]).run Tryz.prog w = .ok (.int .i64 len) w := Fx.run_len_slice Tryz.underlying273
theorem RX_ix_273 : type_of% (Fx.run_index_slice Tryz.underlying273 Tryz.sizeOf256) := Fx.run_index_slice Tryz.underlying273 Tryz.sizeOf256
theorem RX_ld_256 : type_of% (Fx.run_loadN' Tryz.isAgg256 Tryz.sizeOf256) := Fx.run_loadN' Tryz.isAgg256 Tryz.sizeOf256
theorem RX_al_256 : type_of% (Fx.run_alloc Tryz.zeroValue256) := Fx.run_alloc Tryz.zeroValue256
theorem RX_st_256 : type_of% (Fx.run_storeN' Tryz.sizeOf256) := Fx.run_storeN' Tryz.sizeOf256
theorem RX_fld_256_0 : ∀ (b o : Nat) (w : World), (Instr.fieldAt 256 (.pointer (some ⟨b, o, none⟩)) 0).run Tryz.prog w = .ok (.pointer (some ⟨b, o, none⟩)) w := Fx.run_fieldO 0 0 1 Tryz.underlying256 rfl Tryz.sizeOf3 (by decide)
theorem RX_fld_256_1 : ∀ (b o : Nat) (w : World), (Instr.fieldAt 256 (.pointer (some ⟨b, o, none⟩)) 1).run Tryz.prog w = .ok (.pointer (some ⟨b, o + 1, none⟩)) w := Fx.run_fieldO 1 1 1 Tryz.underlying256 rfl Tryz.sizeOf3 (by decide)
theorem RX_fld_256_2 : ∀ (b o : Nat) (w : World), (Instr.fieldAt 256 (.pointer (some ⟨b, o, none⟩)) 2).run Tryz.prog w = .ok (.pointer (some ⟨b, o + 2, none⟩)) w := Fx.run_fieldO 2 2 1 Tryz.underlying256 rfl Tryz.sizeOf35 (by decide)
theorem RX_call_219 : type_of% (Fx.kN_callf Tryz.call219) := Fx.kN_callf Tryz.call219
theorem RX_fld_52_0 : ∀ (b o : Nat) (w : World), (Instr.fieldAt 52 (.pointer (some ⟨b, o, none⟩)) 0).run Tryz.prog w = .ok (.pointer (some ⟨b, o, none⟩)) w := Fx.run_fieldO 0 0 1 Tryz.underlying52 rfl Tryz.sizeOf28 (by decide)
theorem RX_ld_28 : type_of% (Fx.run_load1' Tryz.isAgg28) := Fx.run_load1' Tryz.isAgg28
theorem RX_call_208 : type_of% (Fx.kN_callf Tryz.call208) := Fx.kN_callf Tryz.call208
theorem RX_call_224 : type_of% (Fx.kN_callf Tryz.call224) := Fx.kN_callf Tryz.call224
theorem RX_scall_224 : type_of% (Fx.sN_callf Tryz.call224) := Fx.sN_callf Tryz.call224
theorem rulesX : type_of% (And.intro @RX_call_6 (And.intro @RA_bs_22_1 (And.intro @RX_call_7 (And.intro @RX_al_32 (And.intro @RX_st_32 (And.intro @RX_bl_37_0_1 (And.intro @RX_al_37 (And.intro @RX_st_37 (And.intro @RX_ld_37 (And.intro @RX_call_8 (And.intro @RX_bl_52_0 (And.intro @RX_call_9 (And.intro @RX_al_40 (And.intro @RX_al_48 (And.intro @RX_st_40 (And.intro @RX_st_48 (And.intro @RX_ld_40 (And.intro @RX_call_18 (And.intro @RX_fld_48_0 (And.intro @RA_ld_3 (And.intro @RX_fld_48_3 (And.intro @RA_fld_46_0 (And.intro @RX_call_10 (And.intro @RX_call_11 (And.intro @RX_eql_37 (And.intro @RX_fld_40_1 (And.intro @RC_fld_37_2 (And.intro @RC_ld_35 (And.intro @RX_call_19 (And.intro @RX_call_20 (And.intro @RX_fld_43_0 (And.intro @RX_ld_22 (And.intro @RA_len_22 (And.intro @RX_fld_43_2 (And.intro @RX_ld_41 (And.intro @RX_len_41 (And.intro @RX_eql_28 (And.intro @RX_ld_32 (And.intro @RX_cv_3_35 (And.intro @RX_ix_22 (And.intro @RX_ld_71 (And.intro @RX_cv_71_35 (And.intro @RX_call_21 (And.intro @RX_call_22 (And.intro @RX_ix_41 (And.intro @RX_call_23 (And.intro @RX_call_24 (And.intro @RX_call_25 (And.intro @RX_call_26 (And.intro @RX_call_27 (And.intro @RA_al_46 (And.intro @RA_st_46 (And.intro @RA_ld_46 (And.intro @RA_fld_46_2 (And.intro @RA_fld_46_3 (And.intro @RX_fld_88_3 (And.intro @RX_fld_88_4 (And.intro @RX_fld_88_5 (And.intro @RX_call_28 (And.intro @RX_ld_48 (And.intro @RX_call_29 (And.intro @RX_scall_29 (And.intro @RX_bl_37_ (And.intro @RX_fld_40_0 (And.intro @RX_ix_38 (And.intro @RX_bl_37_2 (And.intro @RA_call_17 (And.intro @RX_call_45 (And.intro @RX_al_114 (And.intro @RX_st_114 (And.intro @RX_fld_114_1 (And.intro @RX_ld_5 (And.intro @RX_call_46 (And.intro @RA_fld_46_4 (And.intro @RX_ld_2 (And.intro @RX_call_47 (And.intro @RX_ld_114 (And.intro @RX_call_48 (And.intro @RX_call_49 (And.intro @RX_call_50 (And.intro @RA_fld_46_1 (And.intro @RX_bl_127_0_1_2 (And.intro @RX_al_127 (And.intro @RX_st_127 (And.intro @RX_fld_127_0 (And.intro @RA_ld_4 (And.intro @RX_fld_127_2 (And.intro @RA_call_51 (And.intro @RX_scall_51 (And.intro @RX_fld_127_1 (And.intro @RC_call_52 (And.intro @RX_cv_35_71 (And.intro @RX_call_53 (And.intro @RX_bl_32_ (And.intro @RX_bl_32_0 (And.intro @RX_call_60 (And.intro @RX_cv_3_151 (And.intro @RA_cv_35_5 (And.intro @RX_call_61 (And.intro @RX_call_66 (And.intro @RX_al_162 (And.intro @RX_st_162 (And.intro @RX_fld_162_2 (And.intro @RX_ld_162 (And.intro @RX_call_67 (And.intro @RX_call_69 (And.intro @RX_scall_69 (And.intro @RX_fld_162_1 (And.intro @RX_fld_160_1 (And.intro @RX_call_68 (And.intro @RX_scall_68 (And.intro @RX_fld_160_0 (And.intro @RX_fld_158_0 (And.intro @RX_fld_158_1 (And.intro @RX_call_70 (And.intro @RX_fld_88_1 (And.intro @RX_bl_48_0_1_2_3 (And.intro @RX_call_71 (And.intro @RX_call_72 (And.intro @RX_bl_46_0_4 (And.intro @RC_call_73 (And.intro @RC_cv_35_3 (And.intro @RA_st_3 (And.intro @RA_bl_46_ (And.intro @RX_call_74 (And.intro @RX_scall_74 (And.intro @RX_call_75 (And.intro @RX_call_76 (And.intro @RX_call_77 (And.intro @RA_cv_2_35 (And.intro @RX_fld_88_0 (And.intro @RX_call_79 (And.intro @RX_call_78 (And.intro @RX_call_80 (And.intro @RX_call_81 (And.intro @RX_call_82 (And.intro @RX_scall_82 (And.intro @RX_call_83 (And.intro @RX_call_84 (And.intro @RA_call_37 (And.intro @RX_fld_114_0 (And.intro @RA_ld_9 (And.intro @RA_call_38 (And.intro @RA_call_39 (And.intro @RX_bl_114_ (And.intro @RX_al_119 (And.intro @RX_bl_188_0_1_2 (And.intro @RX_bs_117_1 (And.intro @RX_bl_119_0_1_2_3 (And.intro @RX_st_119 (And.intro @RX_bl_119_ (And.intro @RX_ld_119 (And.intro @RX_fld_119_0 (And.intro @RX_ld_117 (And.intro @RX_len_117 (And.intro @RX_fld_119_1 (And.intro @RX_fld_119_2 (And.intro @RX_fld_119_3 (And.intro @RC_call_97 (And.intro @RX_scall_97 (And.intro @RX_al_35 (And.intro @RX_call_98 (And.intro @RX_fld_114_2 (And.intro @RC_st_35 (And.intro @RX_fld_114_4 (And.intro @RX_fld_114_3 (And.intro @RX_ix_117 (And.intro @RX_ld_188 (And.intro @RX_al_188 (And.intro @RX_st_188 (And.intro @RX_fld_188_2 (And.intro @RX_fld_188_1 (And.intro @RX_fld_188_0 (And.intro @RX_call_101 (And.intro @RX_call_64 (And.intro @RX_bs_29_0 (And.intro @RX_fld_32_1 (And.intro @RX_ld_29 (And.intro @RX_bs_29_1 (And.intro @RX_st_29 (And.intro @RX_bs_30_0 (And.intro @RX_fld_32_2 (And.intro @RX_ld_30 (And.intro @RA_bs_30_1 (And.intro @RX_st_30 (And.intro @RX_call_103 (And.intro @RX_fld_32_0 (And.intro @RC_call_105 (And.intro @RC_al_160 (And.intro @RC_st_160 (And.intro @RC_ld_160 (And.intro @RX_fld_37_0 (And.intro @RX_call_106 (And.intro @RX_bl_162_0_1_2 (And.intro @RX_fld_160_2 (And.intro @RX_call_107 (And.intro @RX_al_167 (And.intro @RX_bl_114_0_1_2_3_4 (And.intro @RX_st_167 (And.intro @RX_ld_167 (And.intro @RA_call_99 (And.intro @RX_scall_99 (And.intro @RA_cv_35_2 (And.intro @RX_bl_199 (And.intro @RX_al_199 (And.intro @RX_st_199 (And.intro @RX_bl_200 (And.intro @RX_al_200 (And.intro @RX_st_200 (And.intro @RX_call_110 (And.intro @RX_scall_110 (And.intro @RX_ix_200 (And.intro @RX_call_111 (And.intro @RX_scall_111 (And.intro @RX_ix_199 (And.intro @RX_call_114 (And.intro @RX_call_109 (And.intro @RX_call_119 (And.intro @RC_ld_158 (And.intro @RX_eql_158 (And.intro @RA_st_4 (And.intro @RX_fld_32_3 (And.intro @RX_len_29 (And.intro @RX_ix_29 (And.intro @RC_fld_37_1 (And.intro @RC_call_137 (And.intro @RX_call_138 (And.intro @RX_bl_48_3 (And.intro @RX_call_112 (And.intro @RX_call_113 (And.intro @RX_bl_37_1_2 (And.intro @RC_ld_226 (And.intro @RC_call_163 (And.intro @RX_bl_256_1_2 (And.intro @RX_bl_256_0_1_2 (And.intro @RX_call_166 (And.intro @RX_call_180 (And.intro @RX_len_273 (And.intro @RX_ix_273 (And.intro @RX_ld_256 (And.intro @RX_al_256 (And.intro @RX_st_256 (And.intro @RX_fld_256_0 (And.intro @RX_fld_256_1 (And.intro @RX_fld_256_2 (And.intro @RX_call_219 (And.intro @RX_fld_52_0 (And.intro @RX_ld_28 (And.intro @RX_call_208 (And.intro @RX_call_224 (@RX_scall_224))))))))))))))))))))))))))))))))))))))))))))))))))))))))))))))))))))))))))))))))))))))))))))))))))))))))))))))))))))))))))))))))))))))))))))))))))))))))))))))))))))))))))))))))))))))))))))))))))))))))))))))))))))))))))))))))))))))))))))))))))))))))))) := ⟨@RX_call_6, @RA_bs_22_1, @RX_call_7, @RX_al_32, @RX_st_32, @RX_bl_37_0_1, @RX_al_37, @RX_st_37, @RX_ld_37, @RX_call_8, @RX_bl_52_0, @RX_call_9, @RX_al_40, @RX_al_48, @RX_st_40, @RX_st_48, @RX_ld_40, @RX_call_18, @RX_fld_48_0, @RA_ld_3, @RX_fld_48_3, @RA_fld_46_0, @RX_call_10, @RX_call_11, @RX_eql_37, @RX_fld_40_1, @RC_fld_37_2, @RC_ld_35, @RX_call_19, @RX_call_20, @RX_fld_43_0, @RX_ld_22, @RA_len_22, @RX_fld_43_2, @RX_ld_41, @RX_len_41, @RX_eql_28, @RX_ld_32, @RX_cv_3_35, @RX_ix_22, @RX_ld_71, @RX_cv_71_35, @RX_call_21, @RX_call_22, @RX_ix_41, @RX_call_23, @RX_call_24, @RX_call_25, @RX_call_26, @RX_call_27, @RA_al_46, @RA_st_46, @RA_ld_46, @RA_fld_46_2, @RA_fld_46_3, @RX_fld_88_3, @RX_fld_88_4, @RX_fld_88_5, @RX_call_28, @RX_ld_48, @RX_call_29, @RX_scall_29, @RX_bl_37_, @RX_fld_40_0, @RX_ix_38, @RX_bl_37_2, @RA_call_17, @RX_call_45, @RX_al_114, @RX_st_114, @RX_fld_114_1, @RX_ld_5, @RX_call_46, @RA_fld_46_4, @RX_ld_2, @RX_call_47, @RX_ld_114, @RX_call_48, @RX_call_49, @RX_call_50, @RA_fld_46_1, @RX_bl_127_0_1_2, @RX_al_127, @RX_st_127, @RX_fld_127_0, @RA_ld_4, @RX_fld_127_2, @RA_call_51, @RX_scall_51, @RX_fld_127_1, @RC_call_52, @RX_cv_35_71, @RX_call_53, @RX_bl_32_, @RX_bl_32_0, @RX_call_60, @RX_cv_3_151, @RA_cv_35_5, @RX_call_61, @RX_call_66, @RX_al_162, @RX_st_162, @RX_fld_162_2, @RX_ld_162, @RX_call_67, @RX_call_69, @RX_scall_69, @RX_fld_162_1, @RX_fld_160_1, @RX_call_68, @RX_scall_68, @RX_fld_160_0, @RX_fld_158_0, @RX_fld_158_1, @RX_call_70, @RX_fld_88_1, @RX_bl_48_0_1_2_3, @RX_call_71, @RX_call_72, @RX_bl_46_0_4, @RC_call_73, @RC_cv_35_3, @RA_st_3, @RA_bl_46_, @RX_call_74, @RX_scall_74, @RX_call_75, @RX_call_76, @RX_call_77, @RA_cv_2_35, @RX_fld_88_0, @RX_call_79, @RX_call_78, @RX_call_80, @RX_call_81, @RX_call_82, @RX_scall_82, @RX_call_83, @RX_call_84, @RA_call_37, @RX_fld_114_0, @RA_ld_9, @RA_call_38, @RA_call_39, @RX_bl_114_, @RX_al_119, @RX_bl_188_0_1_2, @RX_bs_117_1, @RX_bl_119_0_1_2_3, @RX_st_119, @RX_bl_119_, @RX_ld_119, @RX_fld_119_0, @RX_ld_117, @RX_len_117, @RX_fld_119_1, @RX_fld_119_2, @RX_fld_119_3, @RC_call_97, @RX_scall_97, @RX_al_35, @RX_call_98, @RX_fld_114_2, @RC_st_35, @RX_fld_114_4, @RX_fld_114_3, @RX_ix_117, @RX_ld_188, @RX_al_188, @RX_st_188, @RX_fld_188_2, @RX_fld_188_1, @RX_fld_188_0, @RX_call_101, @RX_call_64, @RX_bs_29_0, @RX_fld_32_1, @RX_ld_29, @RX_bs_29_1, @RX_st_29, @RX_bs_30_0, @RX_fld_32_2, @RX_ld_30, @RA_bs_30_1, @RX_st_30, @RX_call_103, @RX_fld_32_0, @RC_call_105, @RC_al_160, @RC_st_160, @RC_ld_160, @RX_fld_37_0, @RX_call_106, @RX_bl_162_0_1_2, @RX_fld_160_2, @RX_call_107, @RX_al_167, @RX_bl_114_0_1_2_3_4, @RX_st_167, @RX_ld_167, @RA_call_99, @RX_scall_99, @RA_cv_35_2, @RX_bl_199, @RX_al_199, @RX_st_199, @RX_bl_200, @RX_al_200, @RX_st_200, @RX_call_110, @RX_scall_110, @RX_ix_200, @RX_call_111, @RX_scall_111, @RX_ix_199, @RX_call_114, @RX_call_109, @RX_call_119, @RC_ld_158, @RX_eql_158, @RA_st_4, @RX_fld_32_3, @RX_len_29, @RX_ix_29, @RC_fld_37_1, @RC_call_137, @RX_call_138, @RX_bl_48_3, @RX_call_112, @RX_call_113, @RX_bl_37_1_2, @RC_ld_226, @RC_call_163, @RX_bl_256_1_2, @RX_bl_256_0_1_2, @RX_call_166, @RX_call_180, @RX_len_273, @RX_ix_273, @RX_ld_256, @RX_al_256, @RX_st_256, @RX_fld_256_0, @RX_fld_256_1, @RX_fld_256_2, @RX_call_219, @RX_fld_52_0, @RX_ld_28, @RX_call_208, @RX_call_224, @RX_scall_224⟩
open Go.Fx
set_option maxRecDepth 100000
theorem mixedM : Tryz.prog.follows .mixedOrders = true := by kernel_rfl
section
variable (P : Program) (w : World) (K : Value -> World -> Prop)
def F19 (t0 : Value) : Prop :=
 kV P (binV .lss 3 (.tmp 4) (.const (.int .i64 1)) t0 (.int .i64 1)) w fun v5 w =>
 joinK (fun J0 : Value -> World -> Prop => gdK (yb v5) false (fun k => k t0 w) w fun v7 w =>
 gdK (yb v5) false (fun k => kV P (binV .gtr 3 (.tmp 7) (.const (.int .i64 64)) v7 (.int .i64 64)) w k) w fun v8 w =>
 kN P (pickN v5 (.bool true) v8) w fun v9_1 w =>
 J0 v9_1 w) fun v9 w =>
 condK v9
 (K (.tuple #[(.pointer none), (.int .i64 2)]) w)
 (kV P (Instr.makeSlice 132 t0 t0) w fun v11 w =>
 kV P (Instr.build 134 #[(0, v11)]) w fun v12 w =>
 kV P (Instr.box 134 v12) w fun v13 w =>
 K (.tuple #[v13, (.int .i64 0)]) w)
theorem F19_eq (t0 : Value) : funE P ⟨[], [], []⟩ Tryz.f19 [t0] w K = F19 P w K t0 := by kernel_rfl
theorem F19_ok (t0 : Value) (h : F19 Tryz.prog w K t0) : callsK Tryz.prog 19 #[t0] w K := calls_of_eq mixedM Tryz.func19 (F19_eq _ w K t0) h
def F21 (t0 t1 t2 t3 : Value) : Prop :=
 kV P (Instr.box 35 t3) w fun v7 w =>
 kN P (callN (.func (.func 54) #[] #[]) #[t2]) w fun v16 w =>
 kV P (Instr.extract v16 0) w fun v17 w =>
 kV P (Instr.extract v16 1) w fun v18 w =>
 kN P (callN (.func (.func 55) #[] #[]) #[t0, t1, v17]) w fun v23 w =>
 kV P (Instr.extract v23 0) w fun v24 w =>
 kV P (Instr.extract v23 1) w fun v25 w =>
 kV P (Instr.extract v23 2) w fun v26 w =>
 kV P (Instr.alloc 137 true (.tuple #[])) w fun v11 w =>
 kV P (Instr.alloc 3 true (.tuple #[])) w fun v12 w =>
 kU P (Instr.storeAt 137 v11 v24) w fun _ w =>
 kU P (Instr.storeAt 3 v12 v25) w fun _ w =>
 joinL (fun J0 =>
 kV P (binV .eql 23 (.tmp 27) (.const (.int .i64 0)) v26 (.int .i64 0)) w fun v28 w =>
 joinK (fun J4 : Value -> World -> Prop => gdK (yb v28) true (fun k => k v18 w) w fun v30 w =>
 gdK (yb v28) true (fun k => kV P (Op.unary .not v30) w k) w fun v31 w =>
 kN P (pickN v28 v31 (.bool false)) w fun v32_1 w =>
 J4 v32_1 w) fun v32 w =>
 condK v32
 (J0 [(.int .i64 2)] w)
 (J0 [v26] w)) fun s0 w => ∀ _ : Nat -> Value,
 kV P (binV .neq 23 (.tmp 33) (.const (.int .i64 0)) (s0.getD 0 undef) (.int .i64 0)) w fun v34 w =>
 condK v34
 (K (s0.getD 0 undef) w)
 (kN P (callN (.func (.func 56) #[] #[]) #[t2, (.func (.func 57) #[] #[v7, v11, v12])]) w fun v38 w =>
 joinL (fun J2 =>
 drewK (fun w =>
 (kV P (Instr.loadAt 137 v11) w fun v39 w =>
 (kV P (Instr.loadAt 137 v11) w fun v40 w =>
 pN P (nilN v40) fun v41 =>
 pV P (Instr.fieldAt 145 v41 1) fun v42 =>
 (kV P (Instr.loadAt 143 v42) w fun v43 w =>
 kV P (Instr.loadAt 3 v12) w fun v44 w =>
 kN P (callN (.func (.func 59) #[] #[]) #[v44, t2]) w fun v46 w =>
 kN P (callN (.func (.func 58) #[] #[]) #[v43, v46]) w fun v47 w =>
 pN P (nilN v39) fun v48 =>
 pV P (Instr.fieldAt 145 v48 1) fun v49 =>
 kU P (Instr.storeAt 143 v49 v47) w fun _ w =>
 J2 [] w) /\
 (kV P (Instr.loadAt 3 v12) w fun v44_1 w =>
 (kV P (Instr.loadAt 143 v42) w fun v43_1 w =>
 kN P (callN (.func (.func 59) #[] #[]) #[v44_1, t2]) w fun v46_1 w =>
 kN P (callN (.func (.func 58) #[] #[]) #[v43_1, v46_1]) w fun v47_1 w =>
 pN P (nilN v39) fun v48_1 =>
 pV P (Instr.fieldAt 145 v48_1 1) fun v49_1 =>
 kU P (Instr.storeAt 143 v49_1 v47_1) w fun _ w =>
 J2 [] w) /\
 (kN P (callN (.func (.func 59) #[] #[]) #[v44_1, t2]) w fun v46_2 w =>
 kV P (Instr.loadAt 143 v42) w fun v43_2 w =>
 kN P (callN (.func (.func 58) #[] #[]) #[v43_2, v46_2]) w fun v47_2 w =>
 pN P (nilN v39) fun v48_2 =>
 pV P (Instr.fieldAt 145 v48_2 1) fun v49_2 =>
 kU P (Instr.storeAt 143 v49_2 v47_2) w fun _ w =>
 J2 [] w))) /\
 (kV P (Instr.loadAt 3 v12) w fun v44_2 w =>
 (kV P (Instr.loadAt 137 v11) w fun v40_1 w =>
 pN P (nilN v40_1) fun v41_1 =>
 pV P (Instr.fieldAt 145 v41_1 1) fun v42_1 =>
 (kV P (Instr.loadAt 143 v42_1) w fun v43_3 w =>
 kN P (callN (.func (.func 59) #[] #[]) #[v44_2, t2]) w fun v46_3 w =>
 kN P (callN (.func (.func 58) #[] #[]) #[v43_3, v46_3]) w fun v47_3 w =>
 pN P (nilN v39) fun v48_3 =>
 pV P (Instr.fieldAt 145 v48_3 1) fun v49_3 =>
 kU P (Instr.storeAt 143 v49_3 v47_3) w fun _ w =>
 J2 [] w) /\
 (kN P (callN (.func (.func 59) #[] #[]) #[v44_2, t2]) w fun v46_4 w =>
 kV P (Instr.loadAt 143 v42_1) w fun v43_4 w =>
 kN P (callN (.func (.func 58) #[] #[]) #[v43_4, v46_4]) w fun v47_4 w =>
 pN P (nilN v39) fun v48_4 =>
 pV P (Instr.fieldAt 145 v48_4 1) fun v49_4 =>
 kU P (Instr.storeAt 143 v49_4 v47_4) w fun _ w =>
 J2 [] w)) /\
 (kN P (callN (.func (.func 59) #[] #[]) #[v44_2, t2]) w fun v46_5 w =>
 kV P (Instr.loadAt 137 v11) w fun v40_2 w =>
 pN P (nilN v40_2) fun v41_2 =>
 pV P (Instr.fieldAt 145 v41_2 1) fun v42_2 =>
 kV P (Instr.loadAt 143 v42_2) w fun v43_5 w =>
 kN P (callN (.func (.func 58) #[] #[]) #[v43_5, v46_5]) w fun v47_5 w =>
 pN P (nilN v39) fun v48_5 =>
 pV P (Instr.fieldAt 145 v48_5 1) fun v49_5 =>
 kU P (Instr.storeAt 143 v49_5 v47_5) w fun _ w =>
 J2 [] w))) /\
 (kV P (Instr.loadAt 137 v11) w fun v40_3 w =>
 pN P (nilN v40_3) fun v41_3 =>
 pV P (Instr.fieldAt 145 v41_3 1) fun v42_3 =>
 (kV P (Instr.loadAt 137 v11) w fun v39_1 w =>
 (kV P (Instr.loadAt 143 v42_3) w fun v43_6 w =>
 kV P (Instr.loadAt 3 v12) w fun v44_3 w =>
 kN P (callN (.func (.func 59) #[] #[]) #[v44_3, t2]) w fun v46_6 w =>
 kN P (callN (.func (.func 58) #[] #[]) #[v43_6, v46_6]) w fun v47_6 w =>
 pN P (nilN v39_1) fun v48_6 =>
 pV P (Instr.fieldAt 145 v48_6 1) fun v49_6 =>
 kU P (Instr.storeAt 143 v49_6 v47_6) w fun _ w =>
 J2 [] w) /\
 (kV P (Instr.loadAt 3 v12) w fun v44_4 w =>
 (kV P (Instr.loadAt 143 v42_3) w fun v43_7 w =>
 kN P (callN (.func (.func 59) #[] #[]) #[v44_4, t2]) w fun v46_7 w =>
 kN P (callN (.func (.func 58) #[] #[]) #[v43_7, v46_7]) w fun v47_7 w =>
 pN P (nilN v39_1) fun v48_7 =>
 pV P (Instr.fieldAt 145 v48_7 1) fun v49_7 =>
 kU P (Instr.storeAt 143 v49_7 v47_7) w fun _ w =>
 J2 [] w) /\
 (kN P (callN (.func (.func 59) #[] #[]) #[v44_4, t2]) w fun v46_8 w =>
 kV P (Instr.loadAt 143 v42_3) w fun v43_8 w =>
 kN P (callN (.func (.func 58) #[] #[]) #[v43_8, v46_8]) w fun v47_8 w =>
 pN P (nilN v39_1) fun v48_8 =>
 pV P (Instr.fieldAt 145 v48_8 1) fun v49_8 =>
 kU P (Instr.storeAt 143 v49_8 v47_8) w fun _ w =>
 J2 [] w))) /\
 (kV P (Instr.loadAt 143 v42_3) w fun v43_9 w =>
 (kV P (Instr.loadAt 137 v11) w fun v39_2 w =>
 kV P (Instr.loadAt 3 v12) w fun v44_5 w =>
 kN P (callN (.func (.func 59) #[] #[]) #[v44_5, t2]) w fun v46_9 w =>
 kN P (callN (.func (.func 58) #[] #[]) #[v43_9, v46_9]) w fun v47_9 w =>
 pN P (nilN v39_2) fun v48_9 =>
 pV P (Instr.fieldAt 145 v48_9 1) fun v49_9 =>
 kU P (Instr.storeAt 143 v49_9 v47_9) w fun _ w =>
 J2 [] w) /\
 (kV P (Instr.loadAt 3 v12) w fun v44_6 w =>
 (kV P (Instr.loadAt 137 v11) w fun v39_3 w =>
 kN P (callN (.func (.func 59) #[] #[]) #[v44_6, t2]) w fun v46_10 w =>
 kN P (callN (.func (.func 58) #[] #[]) #[v43_9, v46_10]) w fun v47_10 w =>
 pN P (nilN v39_3) fun v48_10 =>
 pV P (Instr.fieldAt 145 v48_10 1) fun v49_10 =>
 kU P (Instr.storeAt 143 v49_10 v47_10) w fun _ w =>
 J2 [] w) /\
 (kN P (callN (.func (.func 59) #[] #[]) #[v44_6, t2]) w fun v46_11 w =>
 (kV P (Instr.loadAt 137 v11) w fun v39_4 w =>
 kN P (callN (.func (.func 58) #[] #[]) #[v43_9, v46_11]) w fun v47_11 w =>
 pN P (nilN v39_4) fun v48_11 =>
 pV P (Instr.fieldAt 145 v48_11 1) fun v49_11 =>
 kU P (Instr.storeAt 143 v49_11 v47_11) w fun _ w =>
 J2 [] w) /\
 (kN P (callN (.func (.func 58) #[] #[]) #[v43_9, v46_11]) w fun v47_12 w =>
 kV P (Instr.loadAt 137 v11) w fun v39_5 w =>
 pN P (nilN v39_5) fun v48_12 =>
 pV P (Instr.fieldAt 145 v48_12 1) fun v49_12 =>
 kU P (Instr.storeAt 143 v49_12 v47_12) w fun _ w =>
 J2 [] w)))) /\
 (kV P (Instr.loadAt 3 v12) w fun v44_7 w =>
 (kV P (Instr.loadAt 137 v11) w fun v39_6 w =>
 (kV P (Instr.loadAt 143 v42_3) w fun v43_10 w =>
 kN P (callN (.func (.func 59) #[] #[]) #[v44_7, t2]) w fun v46_12 w =>
 kN P (callN (.func (.func 58) #[] #[]) #[v43_10, v46_12]) w fun v47_13 w =>
 pN P (nilN v39_6) fun v48_13 =>
 pV P (Instr.fieldAt 145 v48_13 1) fun v49_13 =>
 kU P (Instr.storeAt 143 v49_13 v47_13) w fun _ w =>
 J2 [] w) /\
 (kN P (callN (.func (.func 59) #[] #[]) #[v44_7, t2]) w fun v46_13 w =>
 kV P (Instr.loadAt 143 v42_3) w fun v43_11 w =>
 kN P (callN (.func (.func 58) #[] #[]) #[v43_11, v46_13]) w fun v47_14 w =>
 pN P (nilN v39_6) fun v48_14 =>
 pV P (Instr.fieldAt 145 v48_14 1) fun v49_14 =>
 kU P (Instr.storeAt 143 v49_14 v47_14) w fun _ w =>
 J2 [] w)) /\
 (kV P (Instr.loadAt 143 v42_3) w fun v43_12 w =>
 (kV P (Instr.loadAt 137 v11) w fun v39_7 w =>
 kN P (callN (.func (.func 59) #[] #[]) #[v44_7, t2]) w fun v46_14 w =>
 kN P (callN (.func (.func 58) #[] #[]) #[v43_12, v46_14]) w fun v47_15 w =>
 pN P (nilN v39_7) fun v48_15 =>
 pV P (Instr.fieldAt 145 v48_15 1) fun v49_15 =>
 kU P (Instr.storeAt 143 v49_15 v47_15) w fun _ w =>
 J2 [] w) /\
 (kN P (callN (.func (.func 59) #[] #[]) #[v44_7, t2]) w fun v46_15 w =>
 (kV P (Instr.loadAt 137 v11) w fun v39_8 w =>
 kN P (callN (.func (.func 58) #[] #[]) #[v43_12, v46_15]) w fun v47_16 w =>
 pN P (nilN v39_8) fun v48_16 =>
 pV P (Instr.fieldAt 145 v48_16 1) fun v49_16 =>
 kU P (Instr.storeAt 143 v49_16 v47_16) w fun _ w =>
 J2 [] w) /\
 (kN P (callN (.func (.func 58) #[] #[]) #[v43_12, v46_15]) w fun v47_17 w =>
 kV P (Instr.loadAt 137 v11) w fun v39_9 w =>
 pN P (nilN v39_9) fun v48_17 =>
 pV P (Instr.fieldAt 145 v48_17 1) fun v49_17 =>
 kU P (Instr.storeAt 143 v49_17 v47_17) w fun _ w =>
 J2 [] w))) /\
 (kN P (callN (.func (.func 59) #[] #[]) #[v44_7, t2]) w fun v46_16 w =>
 (kV P (Instr.loadAt 137 v11) w fun v39_10 w =>
 kV P (Instr.loadAt 143 v42_3) w fun v43_13 w =>
 kN P (callN (.func (.func 58) #[] #[]) #[v43_13, v46_16]) w fun v47_18 w =>
 pN P (nilN v39_10) fun v48_18 =>
 pV P (Instr.fieldAt 145 v48_18 1) fun v49_18 =>
 kU P (Instr.storeAt 143 v49_18 v47_18) w fun _ w =>
 J2 [] w) /\
 (kV P (Instr.loadAt 143 v42_3) w fun v43_14 w =>
 (kV P (Instr.loadAt 137 v11) w fun v39_11 w =>
 kN P (callN (.func (.func 58) #[] #[]) #[v43_14, v46_16]) w fun v47_19 w =>
 pN P (nilN v39_11) fun v48_19 =>
 pV P (Instr.fieldAt 145 v48_19 1) fun v49_19 =>
 kU P (Instr.storeAt 143 v49_19 v47_19) w fun _ w =>
 J2 [] w) /\
 (kN P (callN (.func (.func 58) #[] #[]) #[v43_14, v46_16]) w fun v47_20 w =>
 kV P (Instr.loadAt 137 v11) w fun v39_12 w =>
 pN P (nilN v39_12) fun v48_20 =>
 pV P (Instr.fieldAt 145 v48_20 1) fun v49_20 =>
 kU P (Instr.storeAt 143 v49_20 v47_20) w fun _ w =>
 J2 [] w))))) /\
 (kV P (Instr.loadAt 3 v12) w fun v44_8 w =>
 (kV P (Instr.loadAt 137 v11) w fun v39_13 w =>
 (kV P (Instr.loadAt 137 v11) w fun v40_4 w =>
 pN P (nilN v40_4) fun v41_4 =>
 pV P (Instr.fieldAt 145 v41_4 1) fun v42_4 =>
 (kV P (Instr.loadAt 143 v42_4) w fun v43_15 w =>
 kN P (callN (.func (.func 59) #[] #[]) #[v44_8, t2]) w fun v46_17 w =>
 kN P (callN (.func (.func 58) #[] #[]) #[v43_15, v46_17]) w fun v47_21 w =>
 pN P (nilN v39_13) fun v48_21 =>
 pV P (Instr.fieldAt 145 v48_21 1) fun v49_21 =>
 kU P (Instr.storeAt 143 v49_21 v47_21) w fun _ w =>
 J2 [] w) /\
 (kN P (callN (.func (.func 59) #[] #[]) #[v44_8, t2]) w fun v46_18 w =>
 kV P (Instr.loadAt 143 v42_4) w fun v43_16 w =>
 kN P (callN (.func (.func 58) #[] #[]) #[v43_16, v46_18]) w fun v47_22 w =>
 pN P (nilN v39_13) fun v48_22 =>
 pV P (Instr.fieldAt 145 v48_22 1) fun v49_22 =>
 kU P (Instr.storeAt 143 v49_22 v47_22) w fun _ w =>
 J2 [] w)) /\
 (kN P (callN (.func (.func 59) #[] #[]) #[v44_8, t2]) w fun v46_19 w =>
 kV P (Instr.loadAt 137 v11) w fun v40_5 w =>
 pN P (nilN v40_5) fun v41_5 =>
 pV P (Instr.fieldAt 145 v41_5 1) fun v42_5 =>
 kV P (Instr.loadAt 143 v42_5) w fun v43_17 w =>
 kN P (callN (.func (.func 58) #[] #[]) #[v43_17, v46_19]) w fun v47_23 w =>
 pN P (nilN v39_13) fun v48_23 =>
 pV P (Instr.fieldAt 145 v48_23 1) fun v49_23 =>
 kU P (Instr.storeAt 143 v49_23 v47_23) w fun _ w =>
 J2 [] w)) /\
 (kV P (Instr.loadAt 137 v11) w fun v40_6 w =>
 pN P (nilN v40_6) fun v41_6 =>
 pV P (Instr.fieldAt 145 v41_6 1) fun v42_6 =>
 (kV P (Instr.loadAt 137 v11) w fun v39_14 w =>
 (kV P (Instr.loadAt 143 v42_6) w fun v43_18 w =>
 kN P (callN (.func (.func 59) #[] #[]) #[v44_8, t2]) w fun v46_20 w =>
 kN P (callN (.func (.func 58) #[] #[]) #[v43_18, v46_20]) w fun v47_24 w =>
 pN P (nilN v39_14) fun v48_24 =>
 pV P (Instr.fieldAt 145 v48_24 1) fun v49_24 =>
 kU P (Instr.storeAt 143 v49_24 v47_24) w fun _ w =>
 J2 [] w) /\
 (kN P (callN (.func (.func 59) #[] #[]) #[v44_8, t2]) w fun v46_21 w =>
 kV P (Instr.loadAt 143 v42_6) w fun v43_19 w =>
 kN P (callN (.func (.func 58) #[] #[]) #[v43_19, v46_21]) w fun v47_25 w =>
 pN P (nilN v39_14) fun v48_25 =>
 pV P (Instr.fieldAt 145 v48_25 1) fun v49_25 =>
 kU P (Instr.storeAt 143 v49_25 v47_25) w fun _ w =>
 J2 [] w)) /\
 (kV P (Instr.loadAt 143 v42_6) w fun v43_20 w =>
 (kV P (Instr.loadAt 137 v11) w fun v39_15 w =>
 kN P (callN (.func (.func 59) #[] #[]) #[v44_8, t2]) w fun v46_22 w =>
 kN P (callN (.func (.func 58) #[] #[]) #[v43_20, v46_22]) w fun v47_26 w =>
 pN P (nilN v39_15) fun v48_26 =>
 pV P (Instr.fieldAt 145 v48_26 1) fun v49_26 =>
 kU P (Instr.storeAt 143 v49_26 v47_26) w fun _ w =>
 J2 [] w) /\
 (kN P (callN (.func (.func 59) #[] #[]) #[v44_8, t2]) w fun v46_23 w =>
 (kV P (Instr.loadAt 137 v11) w fun v39_16 w =>
 kN P (callN (.func (.func 58) #[] #[]) #[v43_20, v46_23]) w fun v47_27 w =>
 pN P (nilN v39_16) fun v48_27 =>
 pV P (Instr.fieldAt 145 v48_27 1) fun v49_27 =>
 kU P (Instr.storeAt 143 v49_27 v47_27) w fun _ w =>
 J2 [] w) /\
 (kN P (callN (.func (.func 58) #[] #[]) #[v43_20, v46_23]) w fun v47_28 w =>
 kV P (Instr.loadAt 137 v11) w fun v39_17 w =>
 pN P (nilN v39_17) fun v48_28 =>
 pV P (Instr.fieldAt 145 v48_28 1) fun v49_28 =>
 kU P (Instr.storeAt 143 v49_28 v47_28) w fun _ w =>
 J2 [] w))) /\
 (kN P (callN (.func (.func 59) #[] #[]) #[v44_8, t2]) w fun v46_24 w =>
 (kV P (Instr.loadAt 137 v11) w fun v39_18 w =>
 kV P (Instr.loadAt 143 v42_6) w fun v43_21 w =>
 kN P (callN (.func (.func 58) #[] #[]) #[v43_21, v46_24]) w fun v47_29 w =>
 pN P (nilN v39_18) fun v48_29 =>
 pV P (Instr.fieldAt 145 v48_29 1) fun v49_29 =>
 kU P (Instr.storeAt 143 v49_29 v47_29) w fun _ w =>
 J2 [] w) /\
 (kV P (Instr.loadAt 143 v42_6) w fun v43_22 w =>
 (kV P (Instr.loadAt 137 v11) w fun v39_19 w =>
 kN P (callN (.func (.func 58) #[] #[]) #[v43_22, v46_24]) w fun v47_30 w =>
 pN P (nilN v39_19) fun v48_30 =>
 pV P (Instr.fieldAt 145 v48_30 1) fun v49_30 =>
 kU P (Instr.storeAt 143 v49_30 v47_30) w fun _ w =>
 J2 [] w) /\
 (kN P (callN (.func (.func 58) #[] #[]) #[v43_22, v46_24]) w fun v47_31 w =>
 kV P (Instr.loadAt 137 v11) w fun v39_20 w =>
 pN P (nilN v39_20) fun v48_31 =>
 pV P (Instr.fieldAt 145 v48_31 1) fun v49_31 =>
 kU P (Instr.storeAt 143 v49_31 v47_31) w fun _ w =>
 J2 [] w)))) /\
 (kN P (callN (.func (.func 59) #[] #[]) #[v44_8, t2]) w fun v46_25 w =>
 (kV P (Instr.loadAt 137 v11) w fun v39_21 w =>
 kV P (Instr.loadAt 137 v11) w fun v40_7 w =>
 pN P (nilN v40_7) fun v41_7 =>
 pV P (Instr.fieldAt 145 v41_7 1) fun v42_7 =>
 kV P (Instr.loadAt 143 v42_7) w fun v43_23 w =>
 kN P (callN (.func (.func 58) #[] #[]) #[v43_23, v46_25]) w fun v47_32 w =>
 pN P (nilN v39_21) fun v48_32 =>
 pV P (Instr.fieldAt 145 v48_32 1) fun v49_32 =>
 kU P (Instr.storeAt 143 v49_32 v47_32) w fun _ w =>
 J2 [] w) /\
 (kV P (Instr.loadAt 137 v11) w fun v40_8 w =>
 pN P (nilN v40_8) fun v41_8 =>
 pV P (Instr.fieldAt 145 v41_8 1) fun v42_8 =>
 (kV P (Instr.loadAt 137 v11) w fun v39_22 w =>
 kV P (Instr.loadAt 143 v42_8) w fun v43_24 w =>
 kN P (callN (.func (.func 58) #[] #[]) #[v43_24, v46_25]) w fun v47_33 w =>
 pN P (nilN v39_22) fun v48_33 =>
 pV P (Instr.fieldAt 145 v48_33 1) fun v49_33 =>
 kU P (Instr.storeAt 143 v49_33 v47_33) w fun _ w =>
 J2 [] w) /\
 (kV P (Instr.loadAt 143 v42_8) w fun v43_25 w =>
 (kV P (Instr.loadAt 137 v11) w fun v39_23 w =>
 kN P (callN (.func (.func 58) #[] #[]) #[v43_25, v46_25]) w fun v47_34 w =>
 pN P (nilN v39_23) fun v48_34 =>
 pV P (Instr.fieldAt 145 v48_34 1) fun v49_34 =>
 kU P (Instr.storeAt 143 v49_34 v47_34) w fun _ w =>
 J2 [] w) /\
 (kN P (callN (.func (.func 58) #[] #[]) #[v43_25, v46_25]) w fun v47_35 w =>
 kV P (Instr.loadAt 137 v11) w fun v39_24 w =>
 pN P (nilN v39_24) fun v48_35 =>
 pV P (Instr.fieldAt 145 v48_35 1) fun v49_35 =>
 kU P (Instr.storeAt 143 v49_35 v47_35) w fun _ w =>
 J2 [] w)))))) w) fun s2 w => ∀ _ : Nat -> Value,
 K (.int .i64 0) w)
theorem F21_eq (t0 t1 t2 t3 : Value) : funE P ⟨[(8, 999)], [], [(5, [13]), (9, [])]⟩ Tryz.f21 [t0, t1, t2, t3] w K = F21 P w K t0 t1 t2 t3 := by kernel_rfl
theorem F21_ok (t0 t1 t2 t3 : Value) (h : F21 Tryz.prog w K t0 t1 t2 t3) : callsK Tryz.prog 21 #[t0, t1, t2, t3] w K := calls_of_eq mixedM Tryz.func21 (F21_eq _ w K t0 t1 t2 t3) h
def F54 (t0 : Value) : Prop :=
 joinL (fun J0 =>
 kV P (binV .eql 3 (.tmp 4) (.const (.int .i64 1)) t0 (.int .i64 1)) w fun v6 w =>
 condK v6
 (J0 [v6] w)
 (kV P (binV .eql 3 (.tmp 4) (.const (.int .i64 2)) t0 (.int .i64 2)) w fun v7 w =>
 condK v7
 (J0 [v7] w)
 (kV P (binV .eql 3 (.tmp 4) (.const (.int .i64 4)) t0 (.int .i64 4)) w fun v8 w =>
 condK v8
 (J0 [v8] w)
 (kV P (binV .eql 3 (.tmp 4) (.const (.int .i64 8)) t0 (.int .i64 8)) w fun v9 w =>
 J0 [v9] w)))) fun s0 w => ∀ _ : Nat -> Value,
 condK (s0.getD 0 undef)
 (kV P (convert 3 35 t0) w fun v11 w =>
 K (.tuple #[v11, (.bool true)]) w)
 (K (.tuple #[(.int .u64 1), (.bool false)]) w)
theorem F54_eq (t0 : Value) : funE P ⟨[], [], [(6, [5])]⟩ Tryz.f54 [t0] w K = F54 P w K t0 := by kernel_rfl
theorem F54_ok (t0 : Value) (h : F54 Tryz.prog w K t0) : callsK Tryz.prog 54 #[t0] w K := calls_of_eq mixedM Tryz.func54 (F54_eq _ w K t0) h
def F55 (t0 t1 t2 : Value) : Prop :=
 kN P (callN (.func (.func 102) #[] #[]) #[t0]) w fun v11 w =>
 condK v11
 (K (.tuple #[(.pointer none), (.int .i64 0), (.int .i64 1)]) w)
 (kV P (binV .rem 35 (.tmp 13) (.tmp 14) t1 t2) w fun v15 w =>
 kV P (binV .neq 35 (.tmp 15) (.const (.int .u64 0)) v15 (.int .u64 0)) w fun v16 w =>
 joinK (fun J0 : Value -> World -> Prop => gdK (yb v16) false (fun k => k t1 w) w fun v18 w =>
 gdK (yb v16) false (fun k => kV P (binV .quo 35 (.tmp 18) (.const (.int .u64 4096)) v18 (.int .u64 4096)) w k) w fun v19 w =>
 gdK (yb v16) false (fun k => k t0 w) w fun v20 w =>
 gdK (yb v16) false (fun k => kN P (nilN v20) w k) w fun v21 w =>
 gdK (yb v16) false (fun k => kV P (Instr.fieldAt 134 v21 0) w k) w fun v22 w =>
 gdK (yb v16) false (fun k => kV P (Instr.loadAt 132 v22) w k) w fun v23 w =>
 gdK (yb v16) false (fun k => kV P (Builtin.len_ #[132] 3 #[v23]) w k) w fun v24 w =>
 gdK (yb v16) false (fun k => kV P (convert 3 35 v24) w k) w fun v25 w =>
 gdK (yb v16) false (fun k => kV P (binV .geq 35 (.tmp 19) (.tmp 25) v19 v25) w k) w fun v26 w =>
 kN P (pickN v16 (.bool true) v26) w fun v27_1 w =>
 J0 v27_1 w) fun v27 w =>
 condK v27
 (K (.tuple #[(.pointer none), (.int .i64 0), (.int .i64 2)]) w)
 (kN P (nilN t0) w fun v29 w =>
 kV P (Instr.fieldAt 134 v29 0) w fun v30 w =>
 kV P (Instr.loadAt 132 v30) w fun v31 w =>
 kV P (binV .quo 35 (.tmp 32) (.const (.int .u64 4096)) t1 (.int .u64 4096)) w fun v33 w =>
 kV P (Instr.indexAt 132 v31 v33) w fun v34 w =>
 kV P (binV .rem 35 (.tmp 35) (.const (.int .u64 4096)) t1 (.int .u64 4096)) w fun v36 w =>
 kV P (convert 35 3 v36) w fun v37 w =>
 K (.tuple #[v34, v37, (.int .i64 0)]) w))
theorem F55_eq (t0 t1 t2 : Value) : funE P ⟨[], [], []⟩ Tryz.f55 [t0, t1, t2] w K = F55 P w K t0 t1 t2 := by kernel_rfl
theorem F55_ok (t0 t1 t2 : Value) (h : F55 Tryz.prog w K t0 t1 t2) : callsK Tryz.prog 55 #[t0, t1, t2] w K := calls_of_eq mixedM Tryz.func55 (F55_eq _ w K t0 t1 t2) h
def F56 (t0 t1 : Value) : Prop :=
 loopT (fun R0 s0 w => ∀ _ : Nat -> Value,
 kV P (binV .lss 3 (.tmp 6) (.tmp 5) (s0.getD 0 undef) t0) w fun v7 w =>
 condK v7
 (kN P (callN t1 #[(s0.getD 0 undef)]) w fun v11 w =>
 kV P (binV .add 3 (.tmp 6) (.const (.int .i64 1)) (s0.getD 0 undef) (.int .i64 1)) w fun v12 w =>
 R0 [v12] w)
 (K (.tuple #[]) w)) [(.int .i64 0)] w
theorem F56_eq (t0 t1 : Value) : funE P ⟨[], [(1, [6])], []⟩ Tryz.f56 [t0, t1] w K = F56 P w K t0 t1 := by kernel_rfl
theorem F56_ok (t0 t1 : Value) (h : F56 Tryz.prog w K t0 t1) : callsK Tryz.prog 56 #[t0, t1] w K := calls_of_eq mixedM Tryz.func56 (F56_eq _ w K t0 t1) h
def F57 (t0 t1 t2 t3 : Value) : Prop :=
 drewK (fun w =>
 sV P (Instr.loadAt 137 t2) w fun v5 =>
 sV P (Instr.loadAt 3 t3) w fun v6 =>
 sV P (binV .add 3 (.tmp 6) (.tmp 7) v6 t0) w fun v8 =>
 sV P (Instr.loadAt 35 t1) w fun v9 =>
 sV P (binV .mul 3 (.const (.int .i64 8)) (.tmp 10) (.int .i64 8) t0) w fun v11 =>
 sV P (binV .shr 35 (.tmp 9) (.tmp 11) v9 v11) w fun v12 =>
 sV P (convert 35 5 v12) w fun v13 =>
 sN P (nilN v5) w fun v14 =>
 sV P (Instr.fieldAt 145 v14 0) w fun v15 =>
 kV P (Instr.indexAt 141 v15 v8) w fun v16 w =>
 kU P (Instr.storeAt 5 v16 v13) w fun _ w =>
 K (.tuple #[]) w) w
theorem F57_eq (t0 t1 t2 t3 : Value) : funE P ⟨[(0, 11)], [], []⟩ Tryz.f57 [t0, t1, t2, t3] w K = F57 P w K t0 t1 t2 t3 := by kernel_rfl
theorem F57_ok (t0 t1 t2 t3 : Value) (h : F57 Tryz.prog w K t0 t1 t2 t3) : callsK Tryz.prog 57 #[t0, t1, t2, t3] w K := calls_of_eq mixedM Tryz.func57 (F57_eq _ w K t0 t1 t2 t3) h
def F58 (t0 t1 : Value) : Prop :=
 kV P (Instr.box 143 t0) w fun v2 w =>
 kV P (Instr.box 143 t1) w fun v3 w =>
 kV P (Instr.alloc 143 true (.tuple #[])) w fun v4 w =>
 loopT (fun R0 s0 w => ∀ _ : Nat -> Value,
 kV P (binV .lss 3 (.tmp 6) (.const (.int .i64 4)) (s0.getD 0 undef) (.int .i64 4)) w fun v7 w =>
 condK v7
 (drewK (fun w =>
 sV P (Instr.indexAt 143 v2 (s0.getD 0 undef)) w fun v10 =>
 sV P (Instr.loadAt 35 v10) w fun v11 =>
 sV P (Instr.indexAt 143 v3 (s0.getD 0 undef)) w fun v13 =>
 sV P (Instr.loadAt 35 v13) w fun v14 =>
 kV P (binV .andNot 35 (.tmp 11) (.tmp 14) v11 v14) w fun v15 w =>
 kV P (Instr.indexAt 143 v2 (s0.getD 0 undef)) w fun v16 w =>
 kU P (Instr.storeAt 35 v16 v15) w fun _ w =>
 kV P (binV .add 3 (.tmp 6) (.const (.int .i64 1)) (s0.getD 0 undef) (.int .i64 1)) w fun v17 w =>
 R0 [v17] w) w)
 (kV P (Instr.loadAt 143 v2) w fun v18 w =>
 kU P (Instr.storeAt 143 v4 v18) w fun _ w =>
 retV P 143 v4 w fun r2 =>
 K r2 w)) [(.int .i64 0)] w
theorem F58_eq (t0 t1 : Value) : funE P ⟨[(4, 6)], [(2, [6])], []⟩ Tryz.f58 [t0, t1] w K = F58 P w K t0 t1 := by kernel_rfl
theorem F58_ok (t0 t1 : Value) (h : F58 Tryz.prog w K t0 t1) : callsK Tryz.prog 58 #[t0, t1] w K := calls_of_eq mixedM Tryz.func58 (F58_eq _ w K t0 t1) h
def F59 (t0 t1 : Value) : Prop :=
 kV P (Instr.alloc 143 true (.tuple #[])) w fun v4 w =>
 kV P (Instr.alloc 143 true (.tuple #[])) w fun v5 w =>
 kV P (binV .lss 3 (.tmp 8) (.const (.int .i64 1)) t1 (.int .i64 1)) w fun v9 w =>
 joinK (fun J0 : Value -> World -> Prop => gdK (yb v9) false (fun k => k t0 w) w fun v11 w =>
 gdK (yb v9) false (fun k => kV P (binV .geq 3 (.tmp 11) (.const (.int .i64 4096)) v11 (.int .i64 4096)) w k) w fun v12 w =>
 kN P (pickN v9 (.bool true) v12) w fun v13_1 w =>
 J0 v13_1 w) fun v13 w =>
 condK v13
 (kV P (Instr.loadAt 143 v5) w fun v14 w =>
 kU P (Instr.storeAt 143 v4 v14) w fun _ w =>
 retV P 143 v4 w fun r1 =>
 K r1 w)
 (joinL (fun J2 =>
 kV P (binV .lss 3 (.tmp 15) (.const (.int .i64 0)) t0 (.int .i64 0)) w fun v16 w =>
 condK v16
 (kV P (binV .lss 3 (.tmp 17) (.const (.int .i64 (Int.negSucc 4095))) t0 (.int .i64 (Int.negSucc 4095))) w fun v18 w =>
 joinK (fun J8 : Value -> World -> Prop => gdK (yb v18) true (fun k => k t0 w) w fun v20 w =>
 gdK (yb v18) true (fun k => k t1 w) w fun v21 w =>
 gdK (yb v18) true (fun k => kV P (binV .add 3 (.tmp 20) (.tmp 21) v20 v21) w k) w fun v22 w =>
 gdK (yb v18) true (fun k => kV P (binV .leq 3 (.tmp 22) (.const (.int .i64 0)) v22 (.int .i64 0)) w k) w fun v23 w =>
 kN P (pickN v18 v23 (.bool false)) w fun v24_1 w =>
 J8 v24_1 w) fun v24 w =>
 joinK (fun J9 : Value -> World -> Prop => gdK (yb v24) false (fun k => k t1 w) w fun v26 w =>
 gdK (yb v24) false (fun k => k t0 w) w fun v27 w =>
 gdK (yb v24) false (fun k => kV P (Op.unary .neg v27) w k) w fun v28 w =>
 gdK (yb v24) false (fun k => kV P (binV .leq 3 (.tmp 26) (.tmp 28) v26 v28) w k) w fun v29 w =>
 kN P (pickN v24 (.bool true) v29) w fun v30_1 w =>
 J9 v30_1 w) fun v30 w =>
 condK v30
 (kV P (Instr.loadAt 143 v5) w fun v31 w =>
 kU P (Instr.storeAt 143 v4 v31) w fun _ w =>
 retV P 143 v4 w fun r10 =>
 K r10 w)
 (kV P (binV .add 3 (.tmp 32) (.tmp 33) t1 t0) w fun v34 w =>
 J2 [(.int .i64 0), v34] w))
 (J2 [t0, t1] w)) fun s2 w => ∀ _ : Nat -> Value,
 kV P (binV .sub 3 (.const (.int .i64 4096)) (.tmp 37) (.int .i64 4096) (s2.getD 0 undef)) w fun v38 w =>
 kV P (Builtin.min_ #[3, 3] 3 #[(s2.getD 1 undef), v38]) w fun v39 w =>
 kV P (binV .add 3 (.tmp 35) (.tmp 39) (s2.getD 0 undef) v39) w fun v40 w =>
 kV P (binV .sub 3 (.tmp 40) (.const (.int .i64 1)) v40 (.int .i64 1)) w fun v41 w =>
 loopT (fun R4 s4 w => ∀ _ : Nat -> Value,
 kV P (binV .lss 3 (.tmp 42) (.const (.int .i64 256)) (s4.getD 0 undef) (.int .i64 256)) w fun v43 w =>
 condK v43
 (kV P (Instr.loadAt 143 v5) w fun v45 w =>
 kV P (binV .quo 3 (.tmp 48) (.const (.int .i64 16)) (s2.getD 0 undef) (.int .i64 16)) w fun v49 w =>
 kV P (binV .geq 3 (.tmp 47) (.tmp 49) (s4.getD 0 undef) v49) w fun v50 w =>
 joinK (fun J6 : Value -> World -> Prop => gdK (yb v50) true (fun k => k (s4.getD 0 undef) w) w fun v52 w =>
 gdK (yb v50) true (fun k => k v41 w) w fun v53 w =>
 gdK (yb v50) true (fun k => kV P (binV .quo 3 (.tmp 53) (.const (.int .i64 16)) v53 (.int .i64 16)) w k) w fun v54 w =>
 gdK (yb v50) true (fun k => kV P (binV .leq 3 (.tmp 52) (.tmp 54) v52 v54) w k) w fun v55 w =>
 kN P (pickN v50 v55 (.bool false)) w fun v56_1 w =>
 J6 v56_1 w) fun v56 w =>
 kN P (callN (.func (.func 63) #[] #[]) #[v45, (s4.getD 0 undef), v56]) w fun v57 w =>
 kU P (Instr.storeAt 143 v5 v57) w fun _ w =>
 kV P (binV .add 3 (.tmp 42) (.const (.int .i64 1)) (s4.getD 0 undef) (.int .i64 1)) w fun v58 w =>
 R4 [v58] w)
 (kV P (Instr.loadAt 143 v5) w fun v59 w =>
 kU P (Instr.storeAt 143 v4 v59) w fun _ w =>
 retV P 143 v4 w fun r7 =>
 K r7 w)) [(.int .i64 0)] w)
theorem F59_eq (t0 t1 : Value) : funE P ⟨[], [(10, [42])], [(8, [0, 1])]⟩ Tryz.f59 [t0, t1] w K = F59 P w K t0 t1 := by kernel_rfl
theorem F59_ok (t0 t1 : Value) (h : F59 Tryz.prog w K t0 t1) : callsK Tryz.prog 59 #[t0, t1] w K := calls_of_eq mixedM Tryz.func59 (F59_eq _ w K t0 t1) h
def F63 (t0 t1 t2 : Value) : Prop :=
 kV P (Instr.box 143 t0) w fun v3 w =>
 kV P (Instr.alloc 143 true (.tuple #[])) w fun v6 w =>
 kN P (callN (.func (.func 104) #[] #[]) #[t1]) w fun v9 w =>
 kV P (Op.unary .not v9) w fun v10 w =>
 condK v10
 (kV P (Instr.loadAt 143 v3) w fun v11 w =>
 kU P (Instr.storeAt 143 v6 v11) w fun _ w =>
 retV P 143 v6 w fun r0 =>
 K r0 w)
 (kV P (binV .rem 3 (.tmp 12) (.const (.int .i64 64)) t1 (.int .i64 64)) w fun v13 w =>
 kV P (binV .shl 35 (.const (.int .u64 1)) (.tmp 13) (.int .u64 1) v13) w fun v14 w =>
 joinL (fun J1 =>
 condK t2
 (kV P (binV .quo 3 (.tmp 16) (.const (.int .i64 64)) t1 (.int .i64 64)) w fun v17 w =>
 kV P (Instr.indexAt 143 v3 v17) w fun v18 w =>
 kV P (Instr.loadAt 35 v18) w fun v19 w =>
 kV P (binV .or 35 (.tmp 19) (.tmp 20) v19 v14) w fun v21 w =>
 kV P (Instr.indexAt 143 v3 v17) w fun v22 w =>
 kU P (Instr.storeAt 35 v22 v21) w fun _ w =>
 J1 [] w)
 (kV P (binV .quo 3 (.tmp 23) (.const (.int .i64 64)) t1 (.int .i64 64)) w fun v24 w =>
 kV P (Instr.indexAt 143 v3 v24) w fun v25 w =>
 kV P (Instr.loadAt 35 v25) w fun v26 w =>
 kV P (binV .andNot 35 (.tmp 26) (.tmp 27) v26 v14) w fun v28 w =>
 kV P (Instr.indexAt 143 v3 v24) w fun v29 w =>
 kU P (Instr.storeAt 35 v29 v28) w fun _ w =>
 J1 [] w)) fun s1 w => ∀ _ : Nat -> Value,
 kV P (Instr.loadAt 143 v3) w fun v30 w =>
 kU P (Instr.storeAt 143 v6 v30) w fun _ w =>
 retV P 143 v6 w fun r3 =>
 K r3 w)
theorem F63_eq (t0 t1 t2 : Value) : funE P ⟨[], [], [(7, [])]⟩ Tryz.f63 [t0, t1, t2] w K = F63 P w K t0 t1 t2 := by kernel_rfl
theorem F63_ok (t0 t1 t2 : Value) (h : F63 Tryz.prog w K t0 t1 t2) : callsK Tryz.prog 63 #[t0, t1, t2] w K := calls_of_eq mixedM Tryz.func63 (F63_eq _ w K t0 t1 t2) h
def F102 (t0 : Value) : Prop :=
 kV P (binV .eql 28 (.tmp 3) (.const (.pointer none)) t0 (.pointer none)) w fun v4 w =>
 joinK (fun J0 : Value -> World -> Prop => gdK (yb v4) false (fun k => k t0 w) w fun v6 w =>
 gdK (yb v4) false (fun k => kN P (nilN v6) w k) w fun v7 w =>
 gdK (yb v4) false (fun k => kV P (Instr.fieldAt 134 v7 0) w k) w fun v8 w =>
 gdK (yb v4) false (fun k => kV P (Instr.loadAt 132 v8) w k) w fun v9 w =>
 gdK (yb v4) false (fun k => kV P (Builtin.len_ #[132] 3 #[v9]) w k) w fun v10 w =>
 gdK (yb v4) false (fun k => kV P (binV .eql 3 (.tmp 10) (.const (.int .i64 0)) v10 (.int .i64 0)) w k) w fun v11 w =>
 kN P (pickN v4 (.bool true) v11) w fun v12_1 w =>
 J0 v12_1 w) fun v12 w =>
 K v12 w
theorem F102_eq (t0 : Value) : funE P ⟨[], [], []⟩ Tryz.f102 [t0] w K = F102 P w K t0 := by kernel_rfl
theorem F102_ok (t0 : Value) (h : F102 Tryz.prog w K t0) : callsK Tryz.prog 102 #[t0] w K := calls_of_eq mixedM Tryz.func102 (F102_eq _ w K t0) h
def F104 (t0 : Value) : Prop :=
 kV P (binV .geq 3 (.tmp 3) (.const (.int .i64 0)) t0 (.int .i64 0)) w fun v4 w =>
 joinK (fun J0 : Value -> World -> Prop => gdK (yb v4) true (fun k => k t0 w) w fun v6 w =>
 gdK (yb v4) true (fun k => kV P (binV .lss 3 (.tmp 6) (.const (.int .i64 256)) v6 (.int .i64 256)) w k) w fun v7 w =>
 kN P (pickN v4 v7 (.bool false)) w fun v8_1 w =>
 J0 v8_1 w) fun v8 w =>
 K v8 w
theorem F104_eq (t0 : Value) : funE P ⟨[], [], []⟩ Tryz.f104 [t0] w K = F104 P w K t0 := by kernel_rfl
theorem F104_ok (t0 : Value) (h : F104 Tryz.prog w K t0) : callsK Tryz.prog 104 #[t0] w K := calls_of_eq mixedM Tryz.func104 (F104_eq _ w K t0) h
def F208 (t0 t1 t2 : Value) : Prop :=
 kN P (callN (.func (.func 54) #[] #[]) #[t2]) w fun v16 w =>
 kV P (Instr.extract v16 0) w fun v17 w =>
 kV P (Instr.extract v16 1) w fun v18 w =>
 kN P (callN (.func (.func 55) #[] #[]) #[t0, t1, v17]) w fun v23 w =>
 kV P (Instr.extract v23 0) w fun v24 w =>
 kV P (Instr.extract v23 1) w fun v25 w =>
 kV P (Instr.extract v23 2) w fun v26 w =>
 kV P (Instr.alloc 137 true (.tuple #[])) w fun v10 w =>
 kV P (Instr.alloc 3 true (.tuple #[])) w fun v11 w =>
 kU P (Instr.storeAt 137 v10 v24) w fun _ w =>
 kU P (Instr.storeAt 3 v11 v25) w fun _ w =>
 joinL (fun J0 =>
 kV P (binV .eql 23 (.tmp 27) (.const (.int .i64 0)) v26 (.int .i64 0)) w fun v28 w =>
 joinK (fun J2 : Value -> World -> Prop => gdK (yb v28) true (fun k => k v18 w) w fun v30 w =>
 gdK (yb v28) true (fun k => kV P (Op.unary .not v30) w k) w fun v31 w =>
 kN P (pickN v28 v31 (.bool false)) w fun v32_1 w =>
 J2 v32_1 w) fun v32 w =>
 condK v32
 (J0 [(.int .i64 2)] w)
 (J0 [v26] w)) fun s0 w => ∀ _ : Nat -> Value,
 kV P (binV .neq 23 (.tmp 33) (.const (.int .i64 0)) (s0.getD 0 undef) (.int .i64 0)) w fun v34 w =>
 condK v34
 (K (.tuple #[(.int .u64 0), (s0.getD 0 undef)]) w)
 (kV P (Instr.alloc 35 true (.tuple #[])) w fun v13 w =>
 kU P (Instr.storeAt 35 v13 (.int .u64 0)) w fun _ w =>
 kN P (callN (.func (.func 56) #[] #[]) #[t2, (.func (.func 210) #[] #[v13, v10, v11])]) w fun v38 w =>
 kV P (Instr.loadAt 35 v13) w fun v39 w =>
 K (.tuple #[v39, (.int .i64 0)]) w)
theorem F208_eq (t0 t1 t2 : Value) : funE P ⟨[], [], [(5, [12])]⟩ Tryz.f208 [t0, t1, t2] w K = F208 P w K t0 t1 t2 := by kernel_rfl
theorem F208_ok (t0 t1 t2 : Value) (h : F208 Tryz.prog w K t0 t1 t2) : callsK Tryz.prog 208 #[t0, t1, t2] w K := calls_of_eq mixedM Tryz.func208 (F208_eq _ w K t0 t1 t2) h
def F210 (t0 t1 t2 t3 : Value) : Prop :=
 drewK (fun w =>
 sV P (Instr.loadAt 35 t1) w fun v5 =>
 sV P (Instr.loadAt 137 t2) w fun v6 =>
 sV P (Instr.loadAt 3 t3) w fun v7 =>
 sV P (binV .add 3 (.tmp 7) (.tmp 8) v7 t0) w fun v9 =>
 sN P (nilN v6) w fun v10 =>
 sV P (Instr.fieldAt 145 v10 0) w fun v11 =>
 sV P (Instr.indexAt 141 v11 v9) w fun v12 =>
 sV P (Instr.loadAt 5 v12) w fun v13 =>
 sV P (convert 5 35 v13) w fun v14 =>
 sV P (binV .mul 3 (.const (.int .i64 8)) (.tmp 15) (.int .i64 8) t0) w fun v16 =>
 sV P (binV .shl 35 (.tmp 14) (.tmp 16) v14 v16) w fun v17 =>
 kV P (binV .or 35 (.tmp 5) (.tmp 17) v5 v17) w fun v18 w =>
 kU P (Instr.storeAt 35 t1 v18) w fun _ w =>
 K (.tuple #[]) w) w
theorem F210_eq (t0 t1 t2 t3 : Value) : funE P ⟨[(0, 13)], [], []⟩ Tryz.f210 [t0, t1, t2, t3] w K = F210 P w K t0 t1 t2 t3 := by kernel_rfl
theorem F210_ok (t0 t1 t2 t3 : Value) (h : F210 Tryz.prog w K t0 t1 t2 t3) : callsK Tryz.prog 210 #[t0, t1, t2, t3] w K := calls_of_eq mixedM Tryz.func210 (F210_eq _ w K t0 t1 t2 t3) h
end
open Go.Fx
set_option maxRecDepth 100000
set_option maxHeartbeats 4000000
theorem RM_bl_134_0 : ∀ (a0x0 : Option Addr) (a0x0n a0x0c : Nat) (w : World), (Instr.build 134 [(0, .slice a0x0 a0x0n a0x0c)].toArray).run Tryz.prog w = .ok (.agg [.slice a0x0 a0x0n a0x0c].toArray) w := fun a0x0 a0x0n a0x0c w => run_build w 134 _ _ (by kernel_rfl)
theorem RM_call_54 : type_of% (Fx.kN_callf Tryz.call54) := Fx.kN_callf Tryz.call54
theorem RM_call_55 : type_of% (Fx.kN_callf Tryz.call55) := Fx.kN_callf Tryz.call55
theorem RM_al_137 : type_of% (Fx.run_alloc Tryz.zeroValue137) := Fx.run_alloc Tryz.zeroValue137
theorem RM_al_3 : type_of% (Fx.run_alloc Tryz.zeroValue3) := Fx.run_alloc Tryz.zeroValue3
theorem RM_st_137 : type_of% (Fx.run_store1' Tryz.sizeOf137) := Fx.run_store1' Tryz.sizeOf137
theorem RM_call_57 : type_of% (Fx.kN_callf Tryz.call57) := Fx.kN_callf Tryz.call57
theorem RM_call_56 : type_of% (Fx.kN_callf Tryz.call56) := Fx.kN_callf Tryz.call56
theorem RM_ld_137 : type_of% (Fx.run_load1' Tryz.isAgg137) := Fx.run_load1' Tryz.isAgg137
theorem RM_fld_145_1 : ∀ (b o : Nat) (w : World), (Instr.fieldAt 145 (.pointer (some ⟨b, o, none⟩)) 1).run Tryz.prog w = .ok (.pointer (some ⟨b, o + 4096, none⟩)) w := Fx.run_fieldO 1 4096 4 Tryz.underlying145 rfl Tryz.sizeOf143 (by decide)
theorem RM_ld_143 : type_of% (Fx.run_loadN' Tryz.isAgg143 Tryz.sizeOf143) := Fx.run_loadN' Tryz.isAgg143 Tryz.sizeOf143
theorem RM_call_59 : type_of% (Fx.kN_callf Tryz.call59) := Fx.kN_callf Tryz.call59
theorem RM_call_58 : type_of% (Fx.kN_callf Tryz.call58) := Fx.kN_callf Tryz.call58
theorem RM_st_143 : type_of% (Fx.run_storeN' Tryz.sizeOf143) := Fx.run_storeN' Tryz.sizeOf143
theorem RM_call_102 : type_of% (Fx.kN_callf Tryz.call102) := Fx.kN_callf Tryz.call102
theorem RM_fld_134_0 : ∀ (b o : Nat) (w : World), (Instr.fieldAt 134 (.pointer (some ⟨b, o, none⟩)) 0).run Tryz.prog w = .ok (.pointer (some ⟨b, o, none⟩)) w := Fx.run_fieldO 0 0 1 Tryz.underlying134 rfl Tryz.sizeOf132 (by decide)
theorem RM_ld_132 : type_of% (Fx.run_load1' Tryz.isAgg132) := Fx.run_load1' Tryz.isAgg132
theorem RM_len_132 : ∀ (a : Option Addr) (len cap : Nat) (w : World), (Builtin.len_ #[132] 3 #[.slice a len cap]).run Tryz.prog w = .ok (.int .i64 len) w := Fx.run_len_slice Tryz.underlying132
theorem RM_ix_132 : type_of% (Fx.run_index_slice Tryz.underlying132 Tryz.sizeOf145) := Fx.run_index_slice Tryz.underlying132 Tryz.sizeOf145
theorem RM_fld_145_0 : ∀ (b o : Nat) (w : World), (Instr.fieldAt 145 (.pointer (some ⟨b, o, none⟩)) 0).run Tryz.prog w = .ok (.pointer (some ⟨b, o, none⟩)) w := Fx.run_fieldO 0 0 4096 Tryz.underlying145 rfl Tryz.sizeOf141 (by decide)
theorem RM_ix_141 : type_of% (Fx.run_index_array Tryz.underlying141 Tryz.sizeOf5) := Fx.run_index_array Tryz.underlying141 Tryz.sizeOf5
theorem RM_st_5 : type_of% (Fx.run_store1' Tryz.sizeOf5) := Fx.run_store1' Tryz.sizeOf5
theorem RM_al_143 : type_of% (Fx.run_alloc Tryz.zeroValue143) := Fx.run_alloc Tryz.zeroValue143
theorem RM_ix_143 : type_of% (Fx.run_index_array Tryz.underlying143 Tryz.sizeOf35) := Fx.run_index_array Tryz.underlying143 Tryz.sizeOf35
theorem RM_call_63 : type_of% (Fx.kN_callf Tryz.call63) := Fx.kN_callf Tryz.call63
theorem RM_call_104 : type_of% (Fx.kN_callf Tryz.call104) := Fx.kN_callf Tryz.call104
theorem RM_call_210 : type_of% (Fx.kN_callf Tryz.call210) := Fx.kN_callf Tryz.call210
theorem RM_cv_5_35 : type_of% (Fx.run_convert_int Tryz.underlying5 Tryz.underlying35) := Fx.run_convert_int Tryz.underlying5 Tryz.underlying35
theorem RM_call_212 : type_of% (Fx.kN_callf Tryz.call212) := Fx.kN_callf Tryz.call212
theorem rulesM : type_of% (And.intro @RX_call_19 (And.intro @RM_bl_134_0 (And.intro @RX_call_21 (And.intro @RM_call_54 (And.intro @RM_call_55 (And.intro @RM_al_137 (And.intro @RM_al_3 (And.intro @RM_st_137 (And.intro @RA_st_3 (And.intro @RM_call_57 (And.intro @RM_call_56 (And.intro @RM_ld_137 (And.intro @RM_fld_145_1 (And.intro @RM_ld_143 (And.intro @RA_ld_3 (And.intro @RM_call_59 (And.intro @RM_call_58 (And.intro @RM_st_143 (And.intro @RX_cv_3_35 (And.intro @RM_call_102 (And.intro @RM_fld_134_0 (And.intro @RM_ld_132 (And.intro @RM_len_132 (And.intro @RM_ix_132 (And.intro @RC_cv_35_3 (And.intro @RC_ld_35 (And.intro @RA_cv_35_5 (And.intro @RM_fld_145_0 (And.intro @RM_ix_141 (And.intro @RM_st_5 (And.intro @RM_al_143 (And.intro @RM_ix_143 (And.intro @RC_st_35 (And.intro @RM_call_63 (And.intro @RM_call_104 (And.intro @RX_eql_28 (And.intro @RX_call_208 (And.intro @RX_al_35 (And.intro @RM_call_210 (And.intro @RX_ld_5 (And.intro @RM_cv_5_35 (@RM_call_212)))))))))))))))))))))))))))))))))))))))))) := ⟨@RX_call_19, @RM_bl_134_0, @RX_call_21, @RM_call_54, @RM_call_55, @RM_al_137, @RM_al_3, @RM_st_137, @RA_st_3, @RM_call_57, @RM_call_56, @RM_ld_137, @RM_fld_145_1, @RM_ld_143, @RA_ld_3, @RM_call_59, @RM_call_58, @RM_st_143, @RX_cv_3_35, @RM_call_102, @RM_fld_134_0, @RM_ld_132, @RM_len_132, @RM_ix_132, @RC_cv_35_3, @RC_ld_35, @RA_cv_35_5, @RM_fld_145_0, @RM_ix_141, @RM_st_5, @RM_al_143, @RM_ix_143, @RC_st_35, @RM_call_63, @RM_call_104, @RX_eql_28, @RX_call_208, @RX_al_35, @RM_call_210, @RX_ld_5, @RM_cv_5_35, @RM_call_212⟩
open Go.Fx
set_option maxRecDepth 100000
section
variable (P : Program) (w : World) (K : Value -> World -> Prop)
def G7 (t0 : Value) : Prop :=
 kV P (Instr.box 43 t0) w fun v1 w =>
 kV P (Instr.alloc 32 true (.tuple #[])) w fun v3 w =>
 kN P (callN (.func (.func 19) #[] #[]) #[(.int .i64 3)]) w fun v12 w =>
 kV P (Instr.extract v12 0) w fun v13 w =>
 kV P (Instr.extract v12 1) w fun v14 w =>
 kN P (callN (.func (.func 20) #[] #[]) #[(.int .i64 3)]) w fun v16 w =>
 kV P (Instr.extract v16 0) w fun v17 w =>
 kV P (Instr.extract v16 1) w fun v18 w =>
 kV P (Instr.alloc 32 true (.tuple #[])) w fun v7 w =>
 kU P (Instr.storeAt 32 v7 v17) w fun _ w =>
 kV P (Instr.fieldAt 43 v1 0) w fun v19 w =>
 kV P (Instr.loadAt 22 v19) w fun v20 w =>
 kV P (Builtin.len_ #[22] 3 #[v20]) w fun v21 w =>
 kV P (binV .gtr 3 (.tmp 21) (.const (.int .i64 40)) v21 (.int .i64 40)) w fun v22 w =>
 joinK (fun J0 : Value -> World -> Prop => gdK (yb v22) false (fun k => kV P (Instr.fieldAt 43 v1 2) w k) w fun v24 w =>
 gdK (yb v22) false (fun k => kV P (Instr.loadAt 41 v24) w k) w fun v25 w =>
 gdK (yb v22) false (fun k => kV P (Builtin.len_ #[41] 3 #[v25]) w k) w fun v26 w =>
 gdK (yb v22) false (fun k => kV P (binV .gtr 3 (.tmp 26) (.const (.int .i64 20)) v26 (.int .i64 20)) w k) w fun v27 w =>
 kN P (pickN v22 (.bool true) v27) w fun v28_1 w =>
 J0 v28_1 w) fun v28 w =>
 joinK (fun J1 : Value -> World -> Prop => gdK (yb v28) false (fun k => k v14 w) w fun v30 w =>
 gdK (yb v28) false (fun k => kV P (binV .neq 23 (.tmp 30) (.const (.int .i64 0)) v30 (.int .i64 0)) w k) w fun v31 w =>
 kN P (pickN v28 (.bool true) v31) w fun v32_1 w =>
 J1 v32_1 w) fun v32 w =>
 joinK (fun J2 : Value -> World -> Prop => gdK (yb v32) false (fun k => k v13 w) w fun v34 w =>
 gdK (yb v32) false (fun k => kV P (binV .eql 28 (.tmp 34) (.const (.pointer none)) v34 (.pointer none)) w k) w fun v35 w =>
 kN P (pickN v32 (.bool true) v35) w fun v36_1 w =>
 J2 v36_1 w) fun v36 w =>
 condK v36
 (drewK (fun w =>
 sV P (Instr.loadAt 32 v7) w fun v38 =>
 kU P (Instr.storeAt 32 v3 v38) w fun _ w =>
 retV P 32 v3 w fun r3 =>
 K (.tuple #[v13, r3, (.int .i64 0)]) w) w)
 (loopT (fun R4 s4 w => ∀ _ : Nat -> Value,
 kV P (Instr.fieldAt 43 v1 0) w fun v40 w =>
 kV P (Instr.loadAt 22 v40) w fun v41 w =>
 kV P (Builtin.len_ #[22] 3 #[v41]) w fun v42 w =>
 kV P (binV .lss 3 (.tmp 39) (.tmp 42) (s4.getD 0 undef) v42) w fun v43 w =>
 condK v43
 (joinL (fun J6 =>
 kV P (binV .mul 3 (.const (.int .i64 4)) (.tmp 47) (.int .i64 4) (s4.getD 0 undef)) w fun v48 w =>
 kV P (convert 3 35 v48) w fun v49 w =>
 kV P (Instr.fieldAt 43 v1 0) w fun v50 w =>
 kV P (Instr.loadAt 22 v50) w fun v51 w =>
 kV P (Instr.indexAt 22 v51 (s4.getD 0 undef)) w fun v53 w =>
 kV P (Instr.loadAt 71 v53) w fun v54 w =>
 kV P (convert 71 35 v54) w fun v55 w =>
 kN P (callN (.func (.func 21) #[] #[]) #[v13, v49, (.int .i64 4), v55]) w fun v56 w =>
 drewK (fun w =>
 pV P (binV .mul 3 (.const (.int .i64 4)) (.tmp 59) (.int .i64 4) (s4.getD 0 undef)) fun v60 =>
 pV P (convert 3 35 v60) fun v61 =>
 pV P (Instr.fieldAt 43 v1 0) fun v62 =>
 (kV P (Instr.loadAt 32 v7) w fun v58 w =>
 kV P (Instr.loadAt 22 v62) w fun v63 w =>
 pV P (Instr.indexAt 22 v63 (s4.getD 0 undef)) fun v65 =>
 kV P (Instr.loadAt 71 v65) w fun v66 w =>
 pV P (convert 71 35 v66) fun v67 =>
 kN P (callN (.func (.func 22) #[] #[]) #[v58, v61, (.int .i64 4), v67]) w fun v68 w =>
 pV P (Instr.extract v68 0) fun v69 =>
 pV P (Instr.extract v68 1) fun v70 =>
 kU P (Instr.storeAt 32 v7 v69) w fun _ w =>
 J6 [] w) /\
 (kV P (Instr.loadAt 22 v62) w fun v63_1 w =>
 pV P (Instr.indexAt 22 v63_1 (s4.getD 0 undef)) fun v65_1 =>
 (kV P (Instr.loadAt 32 v7) w fun v58_1 w =>
 kV P (Instr.loadAt 71 v65_1) w fun v66_1 w =>
 pV P (convert 71 35 v66_1) fun v67_1 =>
 kN P (callN (.func (.func 22) #[] #[]) #[v58_1, v61, (.int .i64 4), v67_1]) w fun v68_1 w =>
 pV P (Instr.extract v68_1 0) fun v69_1 =>
 pV P (Instr.extract v68_1 1) fun v70_1 =>
 kU P (Instr.storeAt 32 v7 v69_1) w fun _ w =>
 J6 [] w) /\
 (kV P (Instr.loadAt 71 v65_1) w fun v66_2 w =>
 pV P (convert 71 35 v66_2) fun v67_2 =>
 kV P (Instr.loadAt 32 v7) w fun v58_2 w =>
 kN P (callN (.func (.func 22) #[] #[]) #[v58_2, v61, (.int .i64 4), v67_2]) w fun v68_2 w =>
 pV P (Instr.extract v68_2 0) fun v69_2 =>
 pV P (Instr.extract v68_2 1) fun v70_2 =>
 kU P (Instr.storeAt 32 v7 v69_2) w fun _ w =>
 J6 [] w))) w) fun s6 w => ∀ _ : Nat -> Value,
 kV P (binV .add 3 (.tmp 44) (.const (.int .i64 1)) (s4.getD 0 undef) (.int .i64 1)) w fun v45 w =>
 R4 [v45] w)
 (loopT (fun R8 s8 w => ∀ _ : Nat -> Value,
 kV P (Instr.fieldAt 43 v1 2) w fun v72 w =>
 kV P (Instr.loadAt 41 v72) w fun v73 w =>
 kV P (Builtin.len_ #[41] 3 #[v73]) w fun v74 w =>
 kV P (binV .lss 3 (.tmp 71) (.tmp 74) (s8.getD 0 undef) v74) w fun v75 w =>
 condK v75
 (joinL (fun J10 =>
 kV P (binV .mul 3 (.const (.int .i64 16)) (.tmp 79) (.int .i64 16) (s8.getD 0 undef)) w fun v80 w =>
 kV P (convert 3 35 v80) w fun v81 w =>
 kV P (binV .add 35 (.const (.int .u64 4096)) (.tmp 81) (.int .u64 4096) v81) w fun v82 w =>
 kV P (Instr.fieldAt 43 v1 2) w fun v83 w =>
 kV P (Instr.loadAt 41 v83) w fun v84 w =>
 kV P (Instr.indexAt 41 v84 (s8.getD 0 undef)) w fun v86 w =>
 kV P (Instr.loadAt 37 v86) w fun v87 w =>
 kN P (callN (.func (.func 23) #[] #[]) #[v13, v82, v87]) w fun v88 w =>
 drewK (fun w =>
 pV P (binV .mul 3 (.const (.int .i64 16)) (.tmp 91) (.int .i64 16) (s8.getD 0 undef)) fun v92 =>
 pV P (convert 3 35 v92) fun v93 =>
 pV P (binV .add 35 (.const (.int .u64 4096)) (.tmp 93) (.int .u64 4096) v93) fun v94 =>
 pV P (Instr.fieldAt 43 v1 2) fun v95 =>
 (kV P (Instr.loadAt 32 v7) w fun v90 w =>
 kV P (Instr.loadAt 41 v95) w fun v96 w =>
 pV P (Instr.indexAt 41 v96 (s8.getD 0 undef)) fun v98 =>
 kV P (Instr.loadAt 37 v98) w fun v99 w =>
 kN P (callN (.func (.func 24) #[] #[]) #[v90, v94, v99]) w fun v100 w =>
 pV P (Instr.extract v100 0) fun v101 =>
 pV P (Instr.extract v100 1) fun v102 =>
 kU P (Instr.storeAt 32 v7 v101) w fun _ w =>
 J10 [] w) /\
 (kV P (Instr.loadAt 41 v95) w fun v96_1 w =>
 pV P (Instr.indexAt 41 v96_1 (s8.getD 0 undef)) fun v98_1 =>
 (kV P (Instr.loadAt 32 v7) w fun v90_1 w =>
 kV P (Instr.loadAt 37 v98_1) w fun v99_1 w =>
 kN P (callN (.func (.func 24) #[] #[]) #[v90_1, v94, v99_1]) w fun v100_1 w =>
 pV P (Instr.extract v100_1 0) fun v101_1 =>
 pV P (Instr.extract v100_1 1) fun v102_1 =>
 kU P (Instr.storeAt 32 v7 v101_1) w fun _ w =>
 J10 [] w) /\
 (kV P (Instr.loadAt 37 v98_1) w fun v99_2 w =>
 kV P (Instr.loadAt 32 v7) w fun v90_2 w =>
 kN P (callN (.func (.func 24) #[] #[]) #[v90_2, v94, v99_2]) w fun v100_2 w =>
 pV P (Instr.extract v100_2 0) fun v101_2 =>
 pV P (Instr.extract v100_2 1) fun v102_2 =>
 kU P (Instr.storeAt 32 v7 v101_2) w fun _ w =>
 J10 [] w))) w) fun s10 w => ∀ _ : Nat -> Value,
 kV P (binV .add 3 (.tmp 76) (.const (.int .i64 1)) (s8.getD 0 undef) (.int .i64 1)) w fun v77 w =>
 R8 [v77] w)
 (drewK (fun w =>
 sV P (Instr.loadAt 32 v7) w fun v104 =>
 kU P (Instr.storeAt 32 v3 v104) w fun _ w =>
 retV P 32 v3 w fun r12 =>
 K (.tuple #[v13, r12, (.int .i64 1)]) w) w)) [(.int .i64 0)] w)) [(.int .i64 0)] w)
theorem G7_eq (t0 : Value) : funE P ⟨[(15, 3), (14, 999), (9, 999), (4, 3)], [(6, [9]), (11, [10])], [(12, []), (7, [])]⟩ Tryz.f7 [t0] w K = G7 P w K t0 := by kernel_rfl
theorem G7_ok (t0 : Value) (h : G7 Tryz.prog w K t0) : callsK Tryz.prog 7 #[t0] w K := calls_of_eq mixedX Tryz.func7 (G7_eq _ w K t0) h
end
open Go.Fx
set_option maxRecDepth 100000
theorem mixedL : Tryz.prog.follows .mixedOrders = true := by kernel_rfl
section
variable (P : Program) (w : World) (K : Value -> World -> Prop)
def F3 (t0 t1 : Value) : Prop :=
 kV P (binV .and 3 (.tmp 15) (.const (.int .i64 31)) t1 (.int .i64 31)) w fun v16 w =>
 kV P (binV .rem 3 (.tmp 16) (.const (.int .i64 31)) v16 (.int .i64 31)) w fun v17 w =>
 kV P (binV .add 3 (.const (.int .i64 1)) (.tmp 17) (.int .i64 1) v17) w fun v18 w =>
 kN P (callN (.func (.func 5) #[] #[]) #[v18]) w fun v21 w =>
 kV P (binV .add 9 (.const (.string ⟨#[108, 105, 32, 99]⟩)) (.tmp 21) (.string ⟨#[108, 105, 32, 99]⟩) v21) w fun v22 w =>
 kV P (binV .add 9 (.tmp 22) (.const (.string ⟨#[44, 32]⟩)) v22 (.string ⟨#[44, 32]⟩)) w fun v23 w =>
 kV P (convert 21 3 t0) w fun v25 w =>
 kN P (callN (.func (.func 5) #[] #[]) #[v25]) w fun v26 w =>
 kV P (binV .add 9 (.tmp 23) (.tmp 26) v23 v26) w fun v27 w =>
 kV P (binV .add 9 (.tmp 27) (.const (.string ⟨#[10]⟩)) v27 (.string ⟨#[10]⟩)) w fun v28 w =>
 kN P (callN (.func (.func 4) #[] #[]) #[v28]) w fun v29 w =>
 kV P (Instr.extract v29 0) w fun v30 w =>
 kV P (Instr.extract v29 1) w fun v31 w =>
 kV P (Instr.extract v29 2) w fun v32 w =>
 kV P (convert 21 2 t0) w fun v34 w =>
 kV P (binV .gtr 2 (.tmp 34) (.const (.int .i64 2147481599)) v34 (.int .i64 2147481599)) w fun v35 w =>
 condK v35
 (kV P (binV .neq 23 (.tmp 36) (.const (.int .i64 0)) v32 (.int .i64 0)) w fun v37 w =>
 joinK (fun J0 : Value -> World -> Prop => gdK (yb v37) true (fun k => k v31 w) w fun v39 w =>
 gdK (yb v37) true (fun k => kV P (binV .eql 3 (.tmp 39) (.const (.int .i64 1)) v39 (.int .i64 1)) w k) w fun v40 w =>
 kN P (pickN v37 v40 (.bool false)) w fun v41_1 w =>
 J0 v41_1 w) fun v41 w =>
 joinK (fun J1 : Value -> World -> Prop => gdK (yb v41) true (fun k => kN P (callN (.func (.func 6) #[] #[]) #[]) w k) w fun v43 w =>
 kN P (pickN v41 v43 (.bool false)) w fun v44_1 w =>
 J1 v44_1 w) fun v44 w =>
 K v44 w)
 (kV P (Instr.build 43 #[(0, v30)]) w fun v47 w =>
 kN P (callN (.func (.func 7) #[] #[]) #[v47]) w fun v48 w =>
 kV P (Instr.extract v48 0) w fun v49 w =>
 kV P (Instr.extract v48 1) w fun v50 w =>
 kV P (Instr.extract v48 2) w fun v51 w =>
 kV P (Instr.alloc 32 true (.tuple #[])) w fun v9 w =>
 kU P (Instr.storeAt 32 v9 v50) w fun _ w =>
 kV P (binV .neq 23 (.tmp 52) (.const (.int .i64 0)) v32 (.int .i64 0)) w fun v53 w =>
 joinK (fun J2 : Value -> World -> Prop => gdK (yb v53) false (fun k => k v51 w) w fun v55 w =>
 gdK (yb v53) false (fun k => kV P (binV .eql 3 (.tmp 55) (.const (.int .i64 0)) v55 (.int .i64 0)) w k) w fun v56 w =>
 kN P (pickN v53 (.bool true) v56) w fun v57_1 w =>
 J2 v57_1 w) fun v57 w =>
 joinK (fun J3 : Value -> World -> Prop => gdK (yb v57) false (fun k => k v30 w) w fun v59 w =>
 gdK (yb v57) false (fun k => kV P (Builtin.len_ #[22] 3 #[v59]) w k) w fun v60 w =>
 gdK (yb v57) false (fun k => kV P (binV .lss 3 (.tmp 60) (.const (.int .i64 1)) v60 (.int .i64 1)) w k) w fun v61 w =>
 kN P (pickN v57 (.bool true) v61) w fun v62_1 w =>
 J3 v62_1 w) fun v62 w =>
 joinK (fun J4 : Value -> World -> Prop => gdK (yb v62) false (fun k => k v30 w) w fun v64 w =>
 gdK (yb v62) false (fun k => kV P (Builtin.len_ #[22] 3 #[v64]) w k) w fun v65 w =>
 gdK (yb v62) false (fun k => kV P (binV .gtr 3 (.tmp 65) (.const (.int .i64 2)) v65 (.int .i64 2)) w k) w fun v66 w =>
 kN P (pickN v62 (.bool true) v66) w fun v67_1 w =>
 J4 v67_1 w) fun v67 w =>
 condK v67
 (K (.bool false) w)
 (kV P (Instr.build 37 #[(0, (.bool true)), (1, (.int .u64 17180917760))]) w fun v68 w =>
 kN P (callN (.func (.func 8) #[] #[]) #[v68]) w fun v69 w =>
 kV P (Instr.alloc 40 true (.tuple #[])) w fun v11 w =>
 kU P (Instr.storeAt 40 v11 v69) w fun _ w =>
 loopT (fun R5 s5 w => ∀ _ : Nat -> Value,
 kV P (Builtin.len_ #[22] 3 #[v30]) w fun v72 w =>
 kV P (binV .lss 3 (.tmp 70) (.tmp 72) (s5.getD 0 undef) v72) w fun v73 w =>
 condK v73
 (kV P (Instr.loadAt 40 v11) w fun v77 w =>
 kV P (Instr.build 52 #[(0, v49)]) w fun v79 w =>
 kV P (Instr.makeInterface 52 v79) w fun v80 w =>
 kN P (callN (.func (.func 9) #[] #[]) #[v77, v80]) w fun v81 w =>
 kV P (Instr.extract v81 0) w fun v82 w =>
 kV P (Instr.extract v81 1) w fun v83 w =>
 kV P (Instr.alloc 40 true (.tuple #[])) w fun v13 w =>
 kV P (Instr.alloc 48 true (.tuple #[])) w fun v14 w =>
 kU P (Instr.storeAt 40 v13 v82) w fun _ w =>
 kU P (Instr.storeAt 48 v14 v83) w fun _ w =>
 kV P (Instr.fieldAt 48 v14 0) w fun v84 w =>
 kV P (Instr.loadAt 3 v84) w fun v85 w =>
 kV P (binV .neq 3 (.tmp 85) (.const (.int .i64 0)) v85 (.int .i64 0)) w fun v86 w =>
 condK v86
 (K (.bool false) w)
 (kV P (Instr.loadAt 40 v13) w fun v87 w =>
 kU P (Instr.storeAt 40 v11 v87) w fun _ w =>
 kV P (binV .add 3 (.tmp 74) (.const (.int .i64 1)) (s5.getD 0 undef) (.int .i64 1)) w fun v75 w =>
 R5 [v75] w))
 (kV P (Instr.loadAt 40 v11) w fun v88 w =>
 kN P (callN (.func (.func 10) #[] #[]) #[v88, v18]) w fun v90 w =>
 kV P (convert 21 2 t0) w fun v92 w =>
 kV P (convert 2 35 v92) w fun v93 w =>
 kN P (callN (.func (.func 11) #[] #[]) #[v93]) w fun v94 w =>
 kV P (binV .eql 37 (.tmp 90) (.tmp 94) v90 v94) w fun v95 w =>
 joinK (fun J7 : Value -> World -> Prop => gdK (yb v95) true (fun k => kN P (callN (.func (.func 6) #[] #[]) #[]) w k) w fun v97 w =>
 kN P (pickN v95 v97 (.bool false)) w fun v98_1 w =>
 J7 v98_1 w) fun v98 w =>
 K v98 w)) [(.int .i64 0)] w))
theorem F3_eq (t0 t1 : Value) : funE P ⟨[], [(10, [12])], []⟩ Tryz.f3 [t0, t1] w K = F3 P w K t0 t1 := by kernel_rfl
theorem F3_ok (t0 t1 : Value) (h : F3 Tryz.prog w K t0 t1) : callsK Tryz.prog 3 #[t0, t1] w K := calls_of_eq mixedL Tryz.func3 (F3_eq _ w K t0 t1) h
def F5 (t0 : Value) : Prop :=
 kV P (binV .lss 3 (.tmp 4) (.const (.int .i64 0)) t0 (.int .i64 0)) w fun v5 w =>
 condK v5
 (kV P (Op.unary .neg t0) w fun v7 w =>
 kN P (callN (.func (.func 5) #[] #[]) #[v7]) w fun v8 w =>
 kV P (binV .add 9 (.const (.string ⟨#[45]⟩)) (.tmp 8) (.string ⟨#[45]⟩) v8) w fun v9 w =>
 K v9 w)
 (kV P (binV .rem 3 (.tmp 10) (.const (.int .i64 10)) t0 (.int .i64 10)) w fun v11 w =>
 kV P (binV .rem 3 (.tmp 12) (.const (.int .i64 10)) t0 (.int .i64 10)) w fun v13 w =>
 kV P (binV .add 3 (.tmp 13) (.const (.int .i64 1)) v13 (.int .i64 1)) w fun v14 w =>
 kV P (Instr.sliceAt 9 (.string ⟨#[48, 49, 50, 51, 52, 53, 54, 55, 56, 57]⟩) (some v11) (some v14) none) w fun v15 w =>
 kV P (binV .lss 3 (.tmp 16) (.const (.int .i64 10)) t0 (.int .i64 10)) w fun v17 w =>
 condK v17
 (K v15 w)
 (kV P (binV .quo 3 (.tmp 19) (.const (.int .i64 10)) t0 (.int .i64 10)) w fun v20 w =>
 kN P (callN (.func (.func 5) #[] #[]) #[v20]) w fun v21 w =>
 kV P (binV .add 9 (.tmp 21) (.tmp 22) v21 v15) w fun v23 w =>
 K v23 w))
theorem F5_eq (t0 : Value) : funE P ⟨[], [], []⟩ Tryz.f5 [t0] w K = F5 P w K t0 := by kernel_rfl
theorem F5_ok (t0 : Value) (h : F5 Tryz.prog w K t0) : callsK Tryz.prog 5 #[t0] w K := calls_of_eq mixedL Tryz.func5 (F5_eq _ w K t0) h
end
open Go.Fx
set_option maxRecDepth 100000
set_option maxHeartbeats 4000000
theorem RL_call_3 : type_of% (Fx.kN_callf Tryz.call3) := Fx.kN_callf Tryz.call3
theorem RL_call_5 : type_of% (Fx.kN_callf Tryz.call5) := Fx.kN_callf Tryz.call5
theorem RL_cv_21_3 : type_of% (Fx.run_convert_int Tryz.underlying21 Tryz.underlying3) := Fx.run_convert_int Tryz.underlying21 Tryz.underlying3
theorem RL_cv_21_2 : type_of% (Fx.run_convert_int Tryz.underlying21 Tryz.underlying2) := Fx.run_convert_int Tryz.underlying21 Tryz.underlying2
theorem rulesL : type_of% (And.intro @RL_call_3 (And.intro @RL_call_5 (And.intro @RL_cv_21_3 (And.intro @RA_call_4 (And.intro @RL_cv_21_2 (And.intro @RX_call_6 (And.intro @RX_call_7 (And.intro @RX_al_32 (And.intro @RX_st_32 (And.intro @RA_len_22 (And.intro @RX_bl_37_0_1 (And.intro @RX_call_8 (And.intro @RX_al_40 (And.intro @RX_st_40 (And.intro @RX_ld_40 (And.intro @RX_bl_52_0 (And.intro @RX_call_9 (And.intro @RX_al_48 (And.intro @RX_st_48 (And.intro @RX_fld_48_0 (And.intro @RA_ld_3 (And.intro @RX_call_10 (And.intro @RA_cv_2_35 (And.intro @RX_call_11 (@RX_eql_37))))))))))))))))))))))))) := ⟨@RL_call_3, @RL_call_5, @RL_cv_21_3, @RA_call_4, @RL_cv_21_2, @RX_call_6, @RX_call_7, @RX_al_32, @RX_st_32, @RA_len_22, @RX_bl_37_0_1, @RX_call_8, @RX_al_40, @RX_st_40, @RX_ld_40, @RX_bl_52_0, @RX_call_9, @RX_al_48, @RX_st_48, @RX_fld_48_0, @RA_ld_3, @RX_call_10, @RA_cv_2_35, @RX_call_11, @RX_eql_37⟩
end Go.Proofs.YtldkfbelnndaoaaGreatDoor
