/- Part 5 of what the law ExecNumbers stands on: formulas of the functions that it reaches, and what each of them does; conditions: those of each theorem. -/
import Derived.Test.YtplfniijbeinmaaGreatP4
set_option linter.unusedVariables false
set_option linter.unusedSimpArgs false
namespace Go.Proofs.YtplfniijbeinmaaGreat
open Go.Fx
set_option maxRecDepth 100000
set_option maxHeartbeats 4000000
theorem RN_call_4 : type_of% (Fx.kN_callf Tryz.call4) := Fx.kN_callf Tryz.call4
theorem RN_st_39 : type_of% (Fx.run_store1' Tryz.sizeOf39) := Fx.run_store1' Tryz.sizeOf39
theorem RN_ld_45 : type_of% (Fx.run_loadN' Tryz.isAgg45 Tryz.sizeOf45) := Fx.run_loadN' Tryz.isAgg45 Tryz.sizeOf45
theorem RN_neq_31 : type_of% (Fx.run_neqP Tryz.underlying31) := Fx.run_neqP Tryz.underlying31
theorem RN_fld_45_1 : ∀ (b o : Nat) (w : World), (Instr.fieldAt 45 (.pointer (some ⟨b, o, none⟩)) 1).run Tryz.prog w = .ok (.pointer (some ⟨b, o + 1, none⟩)) w := Fx.run_fieldO 1 1 99 Tryz.underlying45 rfl Tryz.sizeOf42 (by decide)
theorem RN_call_13 : type_of% (Fx.kN_callf Tryz.call13) := Fx.kN_callf Tryz.call13
theorem RN_neq_24 : ∀ (a0 b0 : Bool) (a1 b1 : Int) (a2 b2 : Int) (x y : Operand) (w : World), (binV .neq 24 x y (.agg [.bool a0, .int .u64 a1, .int .u64 a2].toArray) (.agg [.bool b0, .int .u64 b1, .int .u64 b2].toArray)).run Tryz.prog w = .ok (.bool (!((a0 == b0) && ((a1 == b1) && ((a2 == b2) && true))))) w := fun a0 b0 a1 b1 a2 b2 x y w => Fx.neq_agg (by kernel_rfl) _ _ _ x y w (Fx.equalIn_struct (d := 9999) (by kernel_rfl) (by kernel_rfl) (q := [(4, 0), (22, 1), (22, 2)]) (by kernel_rfl) (by kernel_rfl) (Fx.eqQ_cons (Fx.part1 Tryz.isAgg4 rfl) (Fx.part1 Tryz.isAgg4 rfl) (run_equalIn_bool _ 9998 4 _ _ Tryz.underlying4) (Fx.eqQ_cons (Fx.part1 Tryz.isAgg22 rfl) (Fx.part1 Tryz.isAgg22 rfl) (run_equalIn_int _ 9998 22 .u64 .u64 _ _ Tryz.underlying22) (Fx.eqQ_cons (Fx.part1 Tryz.isAgg22 rfl) (Fx.part1 Tryz.isAgg22 rfl) (run_equalIn_int _ 9998 22 .u64 .u64 _ _ Tryz.underlying22) (Fx.eqQ_nil)))))
theorem RN_call_34 : type_of% (Fx.kN_callf Tryz.call34) := Fx.kN_callf Tryz.call34
theorem RN_scall_34 : type_of% (Fx.sN_callf Tryz.call34) := Fx.sN_callf Tryz.call34
theorem RN_call_17 : type_of% (Fx.kN_callf Tryz.call17) := Fx.kN_callf Tryz.call17
theorem RN_call_46 : type_of% (Fx.kN_callf Tryz.call46) := Fx.kN_callf Tryz.call46
theorem RN_ld_84 : type_of% (Fx.run_loadN' Tryz.isAgg84 Tryz.sizeOf84) := Fx.run_loadN' Tryz.isAgg84 Tryz.sizeOf84
theorem RN_call_63 : type_of% (Fx.kN_callf Tryz.call63) := Fx.kN_callf Tryz.call63
theorem RN_fld_84_0 : ∀ (b o : Nat) (w : World), (Instr.fieldAt 84 (.pointer (some ⟨b, o, none⟩)) 0).run Tryz.prog w = .ok (.pointer (some ⟨b, o, none⟩)) w := Fx.run_fieldO 0 0 1 Tryz.underlying84 rfl Tryz.sizeOf4 (by decide)
theorem RN_bl_101_ : ∀  (w : World), (Instr.build 101 [].toArray).run Tryz.prog w = .ok (.agg [(.string ⟨#[]⟩), (.int .u8 0), (.int .u64 0), (.int .u64 0), (.int .u64 0)].toArray) w := fun w => run_build w 101 _ _ (by kernel_rfl)
theorem RN_fld_121_0 : ∀ (b o : Nat) (w : World), (Instr.fieldAt 121 (.pointer (some ⟨b, o, none⟩)) 0).run Tryz.prog w = .ok (.pointer (some ⟨b, o, none⟩)) w := Fx.run_fieldO 0 0 3 Tryz.underlying121 rfl Tryz.sizeOf24 (by decide)
theorem RN_fld_84_2 : ∀ (b o : Nat) (w : World), (Instr.fieldAt 84 (.pointer (some ⟨b, o, none⟩)) 2).run Tryz.prog w = .ok (.pointer (some ⟨b, o + 2, none⟩)) w := Fx.run_fieldO 2 2 1 Tryz.underlying84 rfl Tryz.sizeOf22 (by decide)
theorem RN_fld_84_1 : ∀ (b o : Nat) (w : World), (Instr.fieldAt 84 (.pointer (some ⟨b, o, none⟩)) 1).run Tryz.prog w = .ok (.pointer (some ⟨b, o + 1, none⟩)) w := Fx.run_fieldO 1 1 1 Tryz.underlying84 rfl Tryz.sizeOf22 (by decide)
theorem RN_call_95 : type_of% (Fx.kN_callf Tryz.call95) := Fx.kN_callf Tryz.call95
theorem RN_call_103 : type_of% (Fx.kN_callf Tryz.call103) := Fx.kN_callf Tryz.call103
theorem RN_call_104 : type_of% (Fx.kN_callf Tryz.call104) := Fx.kN_callf Tryz.call104
theorem RN_call_105 : type_of% (Fx.kN_callf Tryz.call105) := Fx.kN_callf Tryz.call105
theorem RN_call_106 : type_of% (Fx.kN_callf Tryz.call106) := Fx.kN_callf Tryz.call106
theorem RN_call_107 : type_of% (Fx.kN_callf Tryz.call107) := Fx.kN_callf Tryz.call107
theorem RN_call_108 : type_of% (Fx.kN_callf Tryz.call108) := Fx.kN_callf Tryz.call108
theorem RN_call_113 : type_of% (Fx.kN_callf Tryz.call113) := Fx.kN_callf Tryz.call113
theorem RN_call_114 : type_of% (Fx.kN_callf Tryz.call114) := Fx.kN_callf Tryz.call114
theorem RN_call_115 : type_of% (Fx.kN_callf Tryz.call115) := Fx.kN_callf Tryz.call115
theorem RN_call_116 : type_of% (Fx.kN_callf Tryz.call116) := Fx.kN_callf Tryz.call116
theorem RN_call_118 : type_of% (Fx.kN_callf Tryz.call118) := Fx.kN_callf Tryz.call118
theorem RN_call_117 : type_of% (Fx.kN_callf Tryz.call117) := Fx.kN_callf Tryz.call117
theorem RN_call_119 : type_of% (Fx.kN_callf Tryz.call119) := Fx.kN_callf Tryz.call119
theorem RN_call_120 : type_of% (Fx.kN_callf Tryz.call120) := Fx.kN_callf Tryz.call120
theorem RN_call_121 : type_of% (Fx.kN_callf Tryz.call121) := Fx.kN_callf Tryz.call121
theorem RN_call_122 : type_of% (Fx.kN_callf Tryz.call122) := Fx.kN_callf Tryz.call122
theorem RN_call_123 : type_of% (Fx.kN_callf Tryz.call123) := Fx.kN_callf Tryz.call123
theorem RN_call_125 : type_of% (Fx.kN_callf Tryz.call125) := Fx.kN_callf Tryz.call125
theorem RN_bl_26_1 : ∀ (a1x0 : Int) (w : World), (Instr.build 26 [(1, .int .u64 a1x0)].toArray).run Tryz.prog w = .ok (.agg [(.int .u64 0), .int .u64 a1x0].toArray) w := fun a1x0 w => run_build w 26 _ _ (by kernel_rfl)
theorem RN_call_128 : type_of% (Fx.kN_callf Tryz.call128) := Fx.kN_callf Tryz.call128
theorem RN_call_130 : type_of% (Fx.kN_callf Tryz.call130) := Fx.kN_callf Tryz.call130
theorem RN_call_129 : type_of% (Fx.kN_callf Tryz.call129) := Fx.kN_callf Tryz.call129
theorem RN_call_126 : type_of% (Fx.kN_callf Tryz.call126) := Fx.kN_callf Tryz.call126
theorem RN_fld_211_0 : ∀ (b o : Nat) (w : World), (Instr.fieldAt 211 (.pointer (some ⟨b, o, none⟩)) 0).run Tryz.prog w = .ok (.pointer (some ⟨b, o, none⟩)) w := Fx.run_fieldO 0 0 1 Tryz.underlying211 rfl Tryz.sizeOf22 (by decide)
theorem RN_call_127 : type_of% (Fx.kN_callf Tryz.call127) := Fx.kN_callf Tryz.call127
theorem RN_fld_211_1 : ∀ (b o : Nat) (w : World), (Instr.fieldAt 211 (.pointer (some ⟨b, o, none⟩)) 1).run Tryz.prog w = .ok (.pointer (some ⟨b, o + 1, none⟩)) w := Fx.run_fieldO 1 1 1 Tryz.underlying211 rfl Tryz.sizeOf22 (by decide)
theorem RN_ld_210 : type_of% (Fx.run_load1' Tryz.isAgg210) := Fx.run_load1' Tryz.isAgg210
theorem rulesN : type_of% (And.intro @RN_call_4 (And.intro @RX_bs_39_1 (And.intro @RX_fld_45_0 (And.intro @RN_st_39 (And.intro @RN_ld_45 (And.intro @RX_call_7 (And.intro @RX_al_35 (And.intro @RX_st_35 (And.intro @RN_neq_31 (And.intro @RN_fld_45_1 (And.intro @RX_ld_42 (And.intro @RX_al_42 (And.intro @RX_st_42 (And.intro @RX_bl_24_ (And.intro @RX_fld_42_0 (And.intro @RX_ix_40 (And.intro @RX_st_24 (And.intro @RX_bl_55_0 (And.intro @RX_call_10 (And.intro @RX_al_51 (And.intro @RX_st_51 (And.intro @RX_fld_51_0 (And.intro @RX_ld_3 (And.intro @RX_call_12 (And.intro @RX_fld_51_3 (And.intro @RX_fld_49_0 (And.intro @RX_fld_49_1 (And.intro @RX_call_11 (And.intro @RX_al_24 (And.intro @RX_fld_24_0 (And.intro @RX_ld_4 (And.intro @RC_fld_24_1 (And.intro @RC_ld_22 (And.intro @RN_call_13 (And.intro @RN_neq_24 (And.intro @RN_call_34 (And.intro @RN_scall_34 (And.intro @RX_al_101 (And.intro @RX_st_101 (And.intro @RX_fld_101_1 (And.intro @RX_ld_5 (And.intro @RN_call_17 (And.intro @RX_ld_24 (And.intro @RX_call_45 (And.intro @RX_al_121 (And.intro @RX_st_121 (And.intro @RX_fld_121_2 (And.intro @RX_fld_121_1 (And.intro @RX_fld_28_2 (And.intro @RX_ld_121 (And.intro @RN_call_46 (And.intro @RX_call_26 (And.intro @RX_ld_35 (And.intro @RX_call_62 (And.intro @RN_ld_84 (And.intro @RN_call_63 (And.intro @RM_al_152 (And.intro @RM_st_152 (And.intro @RX_cv_3_22 (And.intro @RM_ix_152 (And.intro @RX_call_59 (And.intro @RN_fld_84_0 (And.intro @RX_fld_35_3 (And.intro @RX_ld_32 (And.intro @RX_bs_32_1 (And.intro @RX_st_32 (And.intro @RN_bl_101_ (And.intro @RX_call_68 (And.intro @RX_ld_101 (And.intro @RN_fld_121_0 (And.intro @RX_call_87 (And.intro @RC_st_22 (And.intro @RN_fld_84_2 (And.intro @RX_cv_3_151 (And.intro @RX_cv_22_5 (And.intro @RM_st_5 (And.intro @RN_fld_84_1 (And.intro @RM_ld_152 (And.intro @RX_call_71 (And.intro @RX_fld_91_3 (And.intro @RX_fld_91_4 (And.intro @RC_fld_24_2 (And.intro @RX_fld_91_5 (And.intro @RN_call_95 (And.intro @RX_fld_91_1 (And.intro @RX_fld_42_1 (And.intro @RX_fld_49_4 (And.intro @RX_ld_2 (And.intro @RX_cv_2_22 (And.intro @RX_call_16 (And.intro @RX_fld_91_0 (And.intro @RX_call_96 (And.intro @RX_ld_51 (And.intro @RX_call_75 (And.intro @RX_call_64 (And.intro @RX_fld_28_1 (And.intro @RX_call_65 (And.intro @RX_scall_65 (And.intro @RX_call_76 (And.intro @RC_call_15 (And.intro @RC_al_28 (And.intro @RC_st_28 (And.intro @RX_call_30 (And.intro @RX_call_29 (And.intro @RX_call_44 (And.intro @RX_call_28 (And.intro @RX_call_74 (And.intro @RX_call_80 (And.intro @RN_call_103 (And.intro @RN_call_104 (And.intro @RN_call_105 (And.intro @RN_call_106 (And.intro @RN_call_107 (And.intro @RN_call_108 (And.intro @RN_call_113 (And.intro @RX_call_100 (And.intro @RX_call_33 (And.intro @RX_call_9 (And.intro @RX_call_101 (And.intro @RX_call_72 (And.intro @RX_call_83 (And.intro @RX_scall_83 (And.intro @RC_call_43 (And.intro @RX_call_94 (And.intro @RC_bl_26_0_1 (And.intro @RC_al_26 (And.intro @RC_st_26 (And.intro @RC_ld_26 (And.intro @RN_call_114 (And.intro @RC_bl_28_0_1_2 (And.intro @RX_call_6 (And.intro @RX_fld_28_0 (And.intro @RX_fld_26_0 (And.intro @RX_fld_26_1 (And.intro @RX_eql_26 (And.intro @RX_st_4 (And.intro @RN_call_115 (And.intro @RN_call_116 (And.intro @RX_call_77 (And.intro @RN_call_118 (And.intro @RN_call_117 (And.intro @RX_eql_24 (And.intro @RN_call_119 (And.intro @RN_call_120 (And.intro @RN_call_121 (And.intro @RN_call_122 (And.intro @RN_call_123 (And.intro @RX_cv_22_2 (And.intro @RX_call_47 (And.intro @RC_bl_26_ (And.intro @RX_call_48 (And.intro @RX_call_86 (And.intro @RX_eql_4 (And.intro @RN_call_125 (And.intro @RN_bl_26_1 (And.intro @RN_call_128 (And.intro @RN_call_130 (And.intro @RN_call_129 (And.intro @RN_call_126 (And.intro @RN_fld_211_0 (And.intro @RN_call_127 (And.intro @RN_fld_211_1 (And.intro @RX_call_18 (And.intro @RC_al_69 (And.intro @RC_st_69 (And.intro @RC_fld_69_2 (And.intro @RC_call_49 (And.intro @RX_scall_49 (And.intro @RN_ld_210 (And.intro @RX_call_159 (And.intro @RX_fld_55_0 (And.intro @RX_ld_31 (And.intro @RX_call_147 (And.intro @RX_call_163 (And.intro @RX_scall_163 (And.intro @RX_call_161 (@RX_call_23))))))))))))))))))))))))))))))))))))))))))))))))))))))))))))))))))))))))))))))))))))))))))))))))))))))))))))))))))))))))))))))))))))))))))))))))))))))))))))))))))))))))))))))))) := ⟨@RN_call_4, @RX_bs_39_1, @RX_fld_45_0, @RN_st_39, @RN_ld_45, @RX_call_7, @RX_al_35, @RX_st_35, @RN_neq_31, @RN_fld_45_1, @RX_ld_42, @RX_al_42, @RX_st_42, @RX_bl_24_, @RX_fld_42_0, @RX_ix_40, @RX_st_24, @RX_bl_55_0, @RX_call_10, @RX_al_51, @RX_st_51, @RX_fld_51_0, @RX_ld_3, @RX_call_12, @RX_fld_51_3, @RX_fld_49_0, @RX_fld_49_1, @RX_call_11, @RX_al_24, @RX_fld_24_0, @RX_ld_4, @RC_fld_24_1, @RC_ld_22, @RN_call_13, @RN_neq_24, @RN_call_34, @RN_scall_34, @RX_al_101, @RX_st_101, @RX_fld_101_1, @RX_ld_5, @RN_call_17, @RX_ld_24, @RX_call_45, @RX_al_121, @RX_st_121, @RX_fld_121_2, @RX_fld_121_1, @RX_fld_28_2, @RX_ld_121, @RN_call_46, @RX_call_26, @RX_ld_35, @RX_call_62, @RN_ld_84, @RN_call_63, @RM_al_152, @RM_st_152, @RX_cv_3_22, @RM_ix_152, @RX_call_59, @RN_fld_84_0, @RX_fld_35_3, @RX_ld_32, @RX_bs_32_1, @RX_st_32, @RN_bl_101_, @RX_call_68, @RX_ld_101, @RN_fld_121_0, @RX_call_87, @RC_st_22, @RN_fld_84_2, @RX_cv_3_151, @RX_cv_22_5, @RM_st_5, @RN_fld_84_1, @RM_ld_152, @RX_call_71, @RX_fld_91_3, @RX_fld_91_4, @RC_fld_24_2, @RX_fld_91_5, @RN_call_95, @RX_fld_91_1, @RX_fld_42_1, @RX_fld_49_4, @RX_ld_2, @RX_cv_2_22, @RX_call_16, @RX_fld_91_0, @RX_call_96, @RX_ld_51, @RX_call_75, @RX_call_64, @RX_fld_28_1, @RX_call_65, @RX_scall_65, @RX_call_76, @RC_call_15, @RC_al_28, @RC_st_28, @RX_call_30, @RX_call_29, @RX_call_44, @RX_call_28, @RX_call_74, @RX_call_80, @RN_call_103, @RN_call_104, @RN_call_105, @RN_call_106, @RN_call_107, @RN_call_108, @RN_call_113, @RX_call_100, @RX_call_33, @RX_call_9, @RX_call_101, @RX_call_72, @RX_call_83, @RX_scall_83, @RC_call_43, @RX_call_94, @RC_bl_26_0_1, @RC_al_26, @RC_st_26, @RC_ld_26, @RN_call_114, @RC_bl_28_0_1_2, @RX_call_6, @RX_fld_28_0, @RX_fld_26_0, @RX_fld_26_1, @RX_eql_26, @RX_st_4, @RN_call_115, @RN_call_116, @RX_call_77, @RN_call_118, @RN_call_117, @RX_eql_24, @RN_call_119, @RN_call_120, @RN_call_121, @RN_call_122, @RN_call_123, @RX_cv_22_2, @RX_call_47, @RC_bl_26_, @RX_call_48, @RX_call_86, @RX_eql_4, @RN_call_125, @RN_bl_26_1, @RN_call_128, @RN_call_130, @RN_call_129, @RN_call_126, @RN_fld_211_0, @RN_call_127, @RN_fld_211_1, @RX_call_18, @RC_al_69, @RC_st_69, @RC_fld_69_2, @RC_call_49, @RX_scall_49, @RN_ld_210, @RX_call_159, @RX_fld_55_0, @RX_ld_31, @RX_call_147, @RX_call_163, @RX_scall_163, @RX_call_161, @RX_call_23⟩
open Go.Fx
set_option maxRecDepth 100000
section
variable (P : Program) (w : World) (K : Value -> World -> Prop)
def G18 (t0 : Value) : Prop :=
 kV P (Instr.box 26 t0) w fun v1 w =>
 kV P (Instr.alloc 69 true (.tuple #[])) w fun v2 w =>
 kV P (Instr.loadAt 26 v1) w fun v7 w =>
 kN P (callN (.func (.func 47) #[] #[]) #[v7]) w fun v8 w =>
 kV P (Op.unary .not v8) w fun v9 w =>
 condK v9
 (kV P (Instr.build 69 #[]) w fun v10 w =>
 kU P (Instr.storeAt 69 v2 v10) w fun _ w =>
 retV P 69 v2 w fun r0 =>
 K (.tuple #[r0, (.bool false)]) w)
 (kV P (Instr.loadAt 26 v1) w fun v12 w =>
 kN P (callN (.func (.func 48) #[] #[]) #[v12]) w fun v13 w =>
 kV P (Instr.extract v13 0) w fun v14 w =>
 kV P (Instr.extract v13 1) w fun v15 w =>
 kV P (Instr.alloc 26 true (.tuple #[])) w fun v5 w =>
 kU P (Instr.storeAt 26 v5 v15) w fun _ w =>
 kN P (callN (.func (.func 49) #[] #[]) #[v14]) w fun v17 w =>
 drewK (fun w =>
 pV P (Instr.fieldAt 26 v5 0) fun v18 =>
 pV P (Instr.fieldAt 26 v5 1) fun v23 =>
 (kV P (Instr.loadAt 22 v18) w fun v19 w =>
 pV P (binV .shr 22 (.tmp 19) (.tmp 20) v19 v17) fun v21 =>
 pV P (binV .and 22 (.tmp 21) (.const (.int .u64 16383)) v21 (.int .u64 16383)) fun v22 =>
 (kV P (Instr.loadAt 22 v23) w fun v24 w =>
 pV P (binV .shr 22 (.tmp 24) (.tmp 25) v24 v17) fun v26 =>
 pV P (binV .and 22 (.tmp 26) (.const (.int .u64 4095)) v26 (.int .u64 4095)) fun v27 =>
 pV P (Instr.build 69 #[(0, v22), (1, v27), (2, v14)]) fun v29 =>
 (kV P (Instr.loadAt 26 v5) w fun v30 w =>
 (kV P (Instr.loadAt 26 v1) w fun v31 w =>
 pV P (binV .eql 26 (.tmp 30) (.tmp 31) v30 v31) fun v32 =>
 kU P (Instr.storeAt 69 v2 v29) w fun _ w =>
 retV P 69 v2 w fun r1 =>
 K (.tuple #[r1, v32]) w) /\
 (kU P (Instr.storeAt 69 v2 v29) w fun _ w =>
 kV P (Instr.loadAt 26 v1) w fun v31_1 w =>
 pV P (binV .eql 26 (.tmp 30) (.tmp 31) v30 v31_1) fun v32_1 =>
 retV P 69 v2 w fun r2 =>
 K (.tuple #[r2, v32_1]) w)) /\
 (kV P (Instr.loadAt 26 v1) w fun v31_2 w =>
 (kV P (Instr.loadAt 26 v5) w fun v30_1 w =>
 pV P (binV .eql 26 (.tmp 30) (.tmp 31) v30_1 v31_2) fun v32_2 =>
 kU P (Instr.storeAt 69 v2 v29) w fun _ w =>
 retV P 69 v2 w fun r3 =>
 K (.tuple #[r3, v32_2]) w) /\
 (kU P (Instr.storeAt 69 v2 v29) w fun _ w =>
 kV P (Instr.loadAt 26 v5) w fun v30_2 w =>
 pV P (binV .eql 26 (.tmp 30) (.tmp 31) v30_2 v31_2) fun v32_3 =>
 retV P 69 v2 w fun r4 =>
 K (.tuple #[r4, v32_3]) w)) /\
 (kU P (Instr.storeAt 69 v2 v29) w fun _ w =>
 (kV P (Instr.loadAt 26 v5) w fun v30_3 w =>
 kV P (Instr.loadAt 26 v1) w fun v31_3 w =>
 pV P (binV .eql 26 (.tmp 30) (.tmp 31) v30_3 v31_3) fun v32_4 =>
 retV P 69 v2 w fun r5 =>
 K (.tuple #[r5, v32_4]) w) /\
 (kV P (Instr.loadAt 26 v1) w fun v31_4 w =>
 kV P (Instr.loadAt 26 v5) w fun v30_4 w =>
 pV P (binV .eql 26 (.tmp 30) (.tmp 31) v30_4 v31_4) fun v32_5 =>
 retV P 69 v2 w fun r6 =>
 K (.tuple #[r6, v32_5]) w))) /\
 (kV P (Instr.loadAt 26 v5) w fun v30_5 w =>
 (kV P (Instr.loadAt 22 v23) w fun v24_1 w =>
 pV P (binV .shr 22 (.tmp 24) (.tmp 25) v24_1 v17) fun v26_1 =>
 pV P (binV .and 22 (.tmp 26) (.const (.int .u64 4095)) v26_1 (.int .u64 4095)) fun v27_1 =>
 pV P (Instr.build 69 #[(0, v22), (1, v27_1), (2, v14)]) fun v29_1 =>
 (kV P (Instr.loadAt 26 v1) w fun v31_5 w =>
 pV P (binV .eql 26 (.tmp 30) (.tmp 31) v30_5 v31_5) fun v32_6 =>
 kU P (Instr.storeAt 69 v2 v29_1) w fun _ w =>
 retV P 69 v2 w fun r7 =>
 K (.tuple #[r7, v32_6]) w) /\
 (kU P (Instr.storeAt 69 v2 v29_1) w fun _ w =>
 kV P (Instr.loadAt 26 v1) w fun v31_6 w =>
 pV P (binV .eql 26 (.tmp 30) (.tmp 31) v30_5 v31_6) fun v32_7 =>
 retV P 69 v2 w fun r8 =>
 K (.tuple #[r8, v32_7]) w)) /\
 (kV P (Instr.loadAt 26 v1) w fun v31_7 w =>
 pV P (binV .eql 26 (.tmp 30) (.tmp 31) v30_5 v31_7) fun v32_8 =>
 kV P (Instr.loadAt 22 v23) w fun v24_2 w =>
 pV P (binV .shr 22 (.tmp 24) (.tmp 25) v24_2 v17) fun v26_2 =>
 pV P (binV .and 22 (.tmp 26) (.const (.int .u64 4095)) v26_2 (.int .u64 4095)) fun v27_2 =>
 pV P (Instr.build 69 #[(0, v22), (1, v27_2), (2, v14)]) fun v29_2 =>
 kU P (Instr.storeAt 69 v2 v29_2) w fun _ w =>
 retV P 69 v2 w fun r9 =>
 K (.tuple #[r9, v32_8]) w)) /\
 (kV P (Instr.loadAt 26 v1) w fun v31_8 w =>
 (kV P (Instr.loadAt 22 v23) w fun v24_3 w =>
 pV P (binV .shr 22 (.tmp 24) (.tmp 25) v24_3 v17) fun v26_3 =>
 pV P (binV .and 22 (.tmp 26) (.const (.int .u64 4095)) v26_3 (.int .u64 4095)) fun v27_3 =>
 pV P (Instr.build 69 #[(0, v22), (1, v27_3), (2, v14)]) fun v29_3 =>
 (kV P (Instr.loadAt 26 v5) w fun v30_6 w =>
 pV P (binV .eql 26 (.tmp 30) (.tmp 31) v30_6 v31_8) fun v32_9 =>
 kU P (Instr.storeAt 69 v2 v29_3) w fun _ w =>
 retV P 69 v2 w fun r10 =>
 K (.tuple #[r10, v32_9]) w) /\
 (kU P (Instr.storeAt 69 v2 v29_3) w fun _ w =>
 kV P (Instr.loadAt 26 v5) w fun v30_7 w =>
 pV P (binV .eql 26 (.tmp 30) (.tmp 31) v30_7 v31_8) fun v32_10 =>
 retV P 69 v2 w fun r11 =>
 K (.tuple #[r11, v32_10]) w)) /\
 (kV P (Instr.loadAt 26 v5) w fun v30_8 w =>
 pV P (binV .eql 26 (.tmp 30) (.tmp 31) v30_8 v31_8) fun v32_11 =>
 kV P (Instr.loadAt 22 v23) w fun v24_4 w =>
 pV P (binV .shr 22 (.tmp 24) (.tmp 25) v24_4 v17) fun v26_4 =>
 pV P (binV .and 22 (.tmp 26) (.const (.int .u64 4095)) v26_4 (.int .u64 4095)) fun v27_4 =>
 pV P (Instr.build 69 #[(0, v22), (1, v27_4), (2, v14)]) fun v29_4 =>
 kU P (Instr.storeAt 69 v2 v29_4) w fun _ w =>
 retV P 69 v2 w fun r12 =>
 K (.tuple #[r12, v32_11]) w))) /\
 (kV P (Instr.loadAt 22 v23) w fun v24_5 w =>
 pV P (binV .shr 22 (.tmp 24) (.tmp 25) v24_5 v17) fun v26_5 =>
 pV P (binV .and 22 (.tmp 26) (.const (.int .u64 4095)) v26_5 (.int .u64 4095)) fun v27_5 =>
 (kV P (Instr.loadAt 22 v18) w fun v19_1 w =>
 pV P (binV .shr 22 (.tmp 19) (.tmp 20) v19_1 v17) fun v21_1 =>
 pV P (binV .and 22 (.tmp 21) (.const (.int .u64 16383)) v21_1 (.int .u64 16383)) fun v22_1 =>
 pV P (Instr.build 69 #[(0, v22_1), (1, v27_5), (2, v14)]) fun v29_5 =>
 (kV P (Instr.loadAt 26 v5) w fun v30_9 w =>
 (kV P (Instr.loadAt 26 v1) w fun v31_9 w =>
 pV P (binV .eql 26 (.tmp 30) (.tmp 31) v30_9 v31_9) fun v32_12 =>
 kU P (Instr.storeAt 69 v2 v29_5) w fun _ w =>
 retV P 69 v2 w fun r13 =>
 K (.tuple #[r13, v32_12]) w) /\
 (kU P (Instr.storeAt 69 v2 v29_5) w fun _ w =>
 kV P (Instr.loadAt 26 v1) w fun v31_10 w =>
 pV P (binV .eql 26 (.tmp 30) (.tmp 31) v30_9 v31_10) fun v32_13 =>
 retV P 69 v2 w fun r14 =>
 K (.tuple #[r14, v32_13]) w)) /\
 (kV P (Instr.loadAt 26 v1) w fun v31_11 w =>
 (kV P (Instr.loadAt 26 v5) w fun v30_10 w =>
 pV P (binV .eql 26 (.tmp 30) (.tmp 31) v30_10 v31_11) fun v32_14 =>
 kU P (Instr.storeAt 69 v2 v29_5) w fun _ w =>
 retV P 69 v2 w fun r15 =>
 K (.tuple #[r15, v32_14]) w) /\
 (kU P (Instr.storeAt 69 v2 v29_5) w fun _ w =>
 kV P (Instr.loadAt 26 v5) w fun v30_11 w =>
 pV P (binV .eql 26 (.tmp 30) (.tmp 31) v30_11 v31_11) fun v32_15 =>
 retV P 69 v2 w fun r16 =>
 K (.tuple #[r16, v32_15]) w)) /\
 (kU P (Instr.storeAt 69 v2 v29_5) w fun _ w =>
 (kV P (Instr.loadAt 26 v5) w fun v30_12 w =>
 kV P (Instr.loadAt 26 v1) w fun v31_12 w =>
 pV P (binV .eql 26 (.tmp 30) (.tmp 31) v30_12 v31_12) fun v32_16 =>
 retV P 69 v2 w fun r17 =>
 K (.tuple #[r17, v32_16]) w) /\
 (kV P (Instr.loadAt 26 v1) w fun v31_13 w =>
 kV P (Instr.loadAt 26 v5) w fun v30_13 w =>
 pV P (binV .eql 26 (.tmp 30) (.tmp 31) v30_13 v31_13) fun v32_17 =>
 retV P 69 v2 w fun r18 =>
 K (.tuple #[r18, v32_17]) w))) /\
 (kV P (Instr.loadAt 26 v5) w fun v30_14 w =>
 (kV P (Instr.loadAt 22 v18) w fun v19_2 w =>
 pV P (binV .shr 22 (.tmp 19) (.tmp 20) v19_2 v17) fun v21_2 =>
 pV P (binV .and 22 (.tmp 21) (.const (.int .u64 16383)) v21_2 (.int .u64 16383)) fun v22_2 =>
 pV P (Instr.build 69 #[(0, v22_2), (1, v27_5), (2, v14)]) fun v29_6 =>
 (kV P (Instr.loadAt 26 v1) w fun v31_14 w =>
 pV P (binV .eql 26 (.tmp 30) (.tmp 31) v30_14 v31_14) fun v32_18 =>
 kU P (Instr.storeAt 69 v2 v29_6) w fun _ w =>
 retV P 69 v2 w fun r19 =>
 K (.tuple #[r19, v32_18]) w) /\
 (kU P (Instr.storeAt 69 v2 v29_6) w fun _ w =>
 kV P (Instr.loadAt 26 v1) w fun v31_15 w =>
 pV P (binV .eql 26 (.tmp 30) (.tmp 31) v30_14 v31_15) fun v32_19 =>
 retV P 69 v2 w fun r20 =>
 K (.tuple #[r20, v32_19]) w)) /\
 (kV P (Instr.loadAt 26 v1) w fun v31_16 w =>
 pV P (binV .eql 26 (.tmp 30) (.tmp 31) v30_14 v31_16) fun v32_20 =>
 kV P (Instr.loadAt 22 v18) w fun v19_3 w =>
 pV P (binV .shr 22 (.tmp 19) (.tmp 20) v19_3 v17) fun v21_3 =>
 pV P (binV .and 22 (.tmp 21) (.const (.int .u64 16383)) v21_3 (.int .u64 16383)) fun v22_3 =>
 pV P (Instr.build 69 #[(0, v22_3), (1, v27_5), (2, v14)]) fun v29_7 =>
 kU P (Instr.storeAt 69 v2 v29_7) w fun _ w =>
 retV P 69 v2 w fun r21 =>
 K (.tuple #[r21, v32_20]) w)) /\
 (kV P (Instr.loadAt 26 v1) w fun v31_17 w =>
 (kV P (Instr.loadAt 22 v18) w fun v19_4 w =>
 pV P (binV .shr 22 (.tmp 19) (.tmp 20) v19_4 v17) fun v21_4 =>
 pV P (binV .and 22 (.tmp 21) (.const (.int .u64 16383)) v21_4 (.int .u64 16383)) fun v22_4 =>
 pV P (Instr.build 69 #[(0, v22_4), (1, v27_5), (2, v14)]) fun v29_8 =>
 (kV P (Instr.loadAt 26 v5) w fun v30_15 w =>
 pV P (binV .eql 26 (.tmp 30) (.tmp 31) v30_15 v31_17) fun v32_21 =>
 kU P (Instr.storeAt 69 v2 v29_8) w fun _ w =>
 retV P 69 v2 w fun r22 =>
 K (.tuple #[r22, v32_21]) w) /\
 (kU P (Instr.storeAt 69 v2 v29_8) w fun _ w =>
 kV P (Instr.loadAt 26 v5) w fun v30_16 w =>
 pV P (binV .eql 26 (.tmp 30) (.tmp 31) v30_16 v31_17) fun v32_22 =>
 retV P 69 v2 w fun r23 =>
 K (.tuple #[r23, v32_22]) w)) /\
 (kV P (Instr.loadAt 26 v5) w fun v30_17 w =>
 pV P (binV .eql 26 (.tmp 30) (.tmp 31) v30_17 v31_17) fun v32_23 =>
 kV P (Instr.loadAt 22 v18) w fun v19_5 w =>
 pV P (binV .shr 22 (.tmp 19) (.tmp 20) v19_5 v17) fun v21_5 =>
 pV P (binV .and 22 (.tmp 21) (.const (.int .u64 16383)) v21_5 (.int .u64 16383)) fun v22_5 =>
 pV P (Instr.build 69 #[(0, v22_5), (1, v27_5), (2, v14)]) fun v29_9 =>
 kU P (Instr.storeAt 69 v2 v29_9) w fun _ w =>
 retV P 69 v2 w fun r24 =>
 K (.tuple #[r24, v32_23]) w))) /\
 (kV P (Instr.loadAt 26 v5) w fun v30_18 w =>
 (kV P (Instr.loadAt 22 v18) w fun v19_6 w =>
 pV P (binV .shr 22 (.tmp 19) (.tmp 20) v19_6 v17) fun v21_6 =>
 pV P (binV .and 22 (.tmp 21) (.const (.int .u64 16383)) v21_6 (.int .u64 16383)) fun v22_6 =>
 (kV P (Instr.loadAt 22 v23) w fun v24_6 w =>
 pV P (binV .shr 22 (.tmp 24) (.tmp 25) v24_6 v17) fun v26_6 =>
 pV P (binV .and 22 (.tmp 26) (.const (.int .u64 4095)) v26_6 (.int .u64 4095)) fun v27_6 =>
 pV P (Instr.build 69 #[(0, v22_6), (1, v27_6), (2, v14)]) fun v29_10 =>
 (kV P (Instr.loadAt 26 v1) w fun v31_18 w =>
 pV P (binV .eql 26 (.tmp 30) (.tmp 31) v30_18 v31_18) fun v32_24 =>
 kU P (Instr.storeAt 69 v2 v29_10) w fun _ w =>
 retV P 69 v2 w fun r25 =>
 K (.tuple #[r25, v32_24]) w) /\
 (kU P (Instr.storeAt 69 v2 v29_10) w fun _ w =>
 kV P (Instr.loadAt 26 v1) w fun v31_19 w =>
 pV P (binV .eql 26 (.tmp 30) (.tmp 31) v30_18 v31_19) fun v32_25 =>
 retV P 69 v2 w fun r26 =>
 K (.tuple #[r26, v32_25]) w)) /\
 (kV P (Instr.loadAt 26 v1) w fun v31_20 w =>
 pV P (binV .eql 26 (.tmp 30) (.tmp 31) v30_18 v31_20) fun v32_26 =>
 kV P (Instr.loadAt 22 v23) w fun v24_7 w =>
 pV P (binV .shr 22 (.tmp 24) (.tmp 25) v24_7 v17) fun v26_7 =>
 pV P (binV .and 22 (.tmp 26) (.const (.int .u64 4095)) v26_7 (.int .u64 4095)) fun v27_7 =>
 pV P (Instr.build 69 #[(0, v22_6), (1, v27_7), (2, v14)]) fun v29_11 =>
 kU P (Instr.storeAt 69 v2 v29_11) w fun _ w =>
 retV P 69 v2 w fun r27 =>
 K (.tuple #[r27, v32_26]) w)) /\
 (kV P (Instr.loadAt 22 v23) w fun v24_8 w =>
 pV P (binV .shr 22 (.tmp 24) (.tmp 25) v24_8 v17) fun v26_8 =>
 pV P (binV .and 22 (.tmp 26) (.const (.int .u64 4095)) v26_8 (.int .u64 4095)) fun v27_8 =>
 (kV P (Instr.loadAt 22 v18) w fun v19_7 w =>
 pV P (binV .shr 22 (.tmp 19) (.tmp 20) v19_7 v17) fun v21_7 =>
 pV P (binV .and 22 (.tmp 21) (.const (.int .u64 16383)) v21_7 (.int .u64 16383)) fun v22_7 =>
 pV P (Instr.build 69 #[(0, v22_7), (1, v27_8), (2, v14)]) fun v29_12 =>
 (kV P (Instr.loadAt 26 v1) w fun v31_21 w =>
 pV P (binV .eql 26 (.tmp 30) (.tmp 31) v30_18 v31_21) fun v32_27 =>
 kU P (Instr.storeAt 69 v2 v29_12) w fun _ w =>
 retV P 69 v2 w fun r28 =>
 K (.tuple #[r28, v32_27]) w) /\
 (kU P (Instr.storeAt 69 v2 v29_12) w fun _ w =>
 kV P (Instr.loadAt 26 v1) w fun v31_22 w =>
 pV P (binV .eql 26 (.tmp 30) (.tmp 31) v30_18 v31_22) fun v32_28 =>
 retV P 69 v2 w fun r29 =>
 K (.tuple #[r29, v32_28]) w)) /\
 (kV P (Instr.loadAt 26 v1) w fun v31_23 w =>
 pV P (binV .eql 26 (.tmp 30) (.tmp 31) v30_18 v31_23) fun v32_29 =>
 kV P (Instr.loadAt 22 v18) w fun v19_8 w =>
 pV P (binV .shr 22 (.tmp 19) (.tmp 20) v19_8 v17) fun v21_8 =>
 pV P (binV .and 22 (.tmp 21) (.const (.int .u64 16383)) v21_8 (.int .u64 16383)) fun v22_8 =>
 pV P (Instr.build 69 #[(0, v22_8), (1, v27_8), (2, v14)]) fun v29_13 =>
 kU P (Instr.storeAt 69 v2 v29_13) w fun _ w =>
 retV P 69 v2 w fun r30 =>
 K (.tuple #[r30, v32_29]) w)) /\
 (kV P (Instr.loadAt 26 v1) w fun v31_24 w =>
 pV P (binV .eql 26 (.tmp 30) (.tmp 31) v30_18 v31_24) fun v32_30 =>
 (kV P (Instr.loadAt 22 v18) w fun v19_9 w =>
 pV P (binV .shr 22 (.tmp 19) (.tmp 20) v19_9 v17) fun v21_9 =>
 pV P (binV .and 22 (.tmp 21) (.const (.int .u64 16383)) v21_9 (.int .u64 16383)) fun v22_9 =>
 kV P (Instr.loadAt 22 v23) w fun v24_9 w =>
 pV P (binV .shr 22 (.tmp 24) (.tmp 25) v24_9 v17) fun v26_9 =>
 pV P (binV .and 22 (.tmp 26) (.const (.int .u64 4095)) v26_9 (.int .u64 4095)) fun v27_9 =>
 pV P (Instr.build 69 #[(0, v22_9), (1, v27_9), (2, v14)]) fun v29_14 =>
 kU P (Instr.storeAt 69 v2 v29_14) w fun _ w =>
 retV P 69 v2 w fun r31 =>
 K (.tuple #[r31, v32_30]) w) /\
 (kV P (Instr.loadAt 22 v23) w fun v24_10 w =>
 pV P (binV .shr 22 (.tmp 24) (.tmp 25) v24_10 v17) fun v26_10 =>
 pV P (binV .and 22 (.tmp 26) (.const (.int .u64 4095)) v26_10 (.int .u64 4095)) fun v27_10 =>
 kV P (Instr.loadAt 22 v18) w fun v19_10 w =>
 pV P (binV .shr 22 (.tmp 19) (.tmp 20) v19_10 v17) fun v21_10 =>
 pV P (binV .and 22 (.tmp 21) (.const (.int .u64 16383)) v21_10 (.int .u64 16383)) fun v22_10 =>
 pV P (Instr.build 69 #[(0, v22_10), (1, v27_10), (2, v14)]) fun v29_15 =>
 kU P (Instr.storeAt 69 v2 v29_15) w fun _ w =>
 retV P 69 v2 w fun r32 =>
 K (.tuple #[r32, v32_30]) w))) /\
 (kV P (Instr.loadAt 26 v1) w fun v31_25 w =>
 (kV P (Instr.loadAt 22 v18) w fun v19_11 w =>
 pV P (binV .shr 22 (.tmp 19) (.tmp 20) v19_11 v17) fun v21_11 =>
 pV P (binV .and 22 (.tmp 21) (.const (.int .u64 16383)) v21_11 (.int .u64 16383)) fun v22_11 =>
 (kV P (Instr.loadAt 22 v23) w fun v24_11 w =>
 pV P (binV .shr 22 (.tmp 24) (.tmp 25) v24_11 v17) fun v26_11 =>
 pV P (binV .and 22 (.tmp 26) (.const (.int .u64 4095)) v26_11 (.int .u64 4095)) fun v27_11 =>
 pV P (Instr.build 69 #[(0, v22_11), (1, v27_11), (2, v14)]) fun v29_16 =>
 (kV P (Instr.loadAt 26 v5) w fun v30_19 w =>
 pV P (binV .eql 26 (.tmp 30) (.tmp 31) v30_19 v31_25) fun v32_31 =>
 kU P (Instr.storeAt 69 v2 v29_16) w fun _ w =>
 retV P 69 v2 w fun r33 =>
 K (.tuple #[r33, v32_31]) w) /\
 (kU P (Instr.storeAt 69 v2 v29_16) w fun _ w =>
 kV P (Instr.loadAt 26 v5) w fun v30_20 w =>
 pV P (binV .eql 26 (.tmp 30) (.tmp 31) v30_20 v31_25) fun v32_32 =>
 retV P 69 v2 w fun r34 =>
 K (.tuple #[r34, v32_32]) w)) /\
 (kV P (Instr.loadAt 26 v5) w fun v30_21 w =>
 pV P (binV .eql 26 (.tmp 30) (.tmp 31) v30_21 v31_25) fun v32_33 =>
 kV P (Instr.loadAt 22 v23) w fun v24_12 w =>
 pV P (binV .shr 22 (.tmp 24) (.tmp 25) v24_12 v17) fun v26_12 =>
 pV P (binV .and 22 (.tmp 26) (.const (.int .u64 4095)) v26_12 (.int .u64 4095)) fun v27_12 =>
 pV P (Instr.build 69 #[(0, v22_11), (1, v27_12), (2, v14)]) fun v29_17 =>
 kU P (Instr.storeAt 69 v2 v29_17) w fun _ w =>
 retV P 69 v2 w fun r35 =>
 K (.tuple #[r35, v32_33]) w)) /\
 (kV P (Instr.loadAt 22 v23) w fun v24_13 w =>
 pV P (binV .shr 22 (.tmp 24) (.tmp 25) v24_13 v17) fun v26_13 =>
 pV P (binV .and 22 (.tmp 26) (.const (.int .u64 4095)) v26_13 (.int .u64 4095)) fun v27_13 =>
 (kV P (Instr.loadAt 22 v18) w fun v19_12 w =>
 pV P (binV .shr 22 (.tmp 19) (.tmp 20) v19_12 v17) fun v21_12 =>
 pV P (binV .and 22 (.tmp 21) (.const (.int .u64 16383)) v21_12 (.int .u64 16383)) fun v22_12 =>
 pV P (Instr.build 69 #[(0, v22_12), (1, v27_13), (2, v14)]) fun v29_18 =>
 (kV P (Instr.loadAt 26 v5) w fun v30_22 w =>
 pV P (binV .eql 26 (.tmp 30) (.tmp 31) v30_22 v31_25) fun v32_34 =>
 kU P (Instr.storeAt 69 v2 v29_18) w fun _ w =>
 retV P 69 v2 w fun r36 =>
 K (.tuple #[r36, v32_34]) w) /\
 (kU P (Instr.storeAt 69 v2 v29_18) w fun _ w =>
 kV P (Instr.loadAt 26 v5) w fun v30_23 w =>
 pV P (binV .eql 26 (.tmp 30) (.tmp 31) v30_23 v31_25) fun v32_35 =>
 retV P 69 v2 w fun r37 =>
 K (.tuple #[r37, v32_35]) w)) /\
 (kV P (Instr.loadAt 26 v5) w fun v30_24 w =>
 pV P (binV .eql 26 (.tmp 30) (.tmp 31) v30_24 v31_25) fun v32_36 =>
 kV P (Instr.loadAt 22 v18) w fun v19_13 w =>
 pV P (binV .shr 22 (.tmp 19) (.tmp 20) v19_13 v17) fun v21_13 =>
 pV P (binV .and 22 (.tmp 21) (.const (.int .u64 16383)) v21_13 (.int .u64 16383)) fun v22_13 =>
 pV P (Instr.build 69 #[(0, v22_13), (1, v27_13), (2, v14)]) fun v29_19 =>
 kU P (Instr.storeAt 69 v2 v29_19) w fun _ w =>
 retV P 69 v2 w fun r38 =>
 K (.tuple #[r38, v32_36]) w)) /\
 (kV P (Instr.loadAt 26 v5) w fun v30_25 w =>
 pV P (binV .eql 26 (.tmp 30) (.tmp 31) v30_25 v31_25) fun v32_37 =>
 (kV P (Instr.loadAt 22 v18) w fun v19_14 w =>
 pV P (binV .shr 22 (.tmp 19) (.tmp 20) v19_14 v17) fun v21_14 =>
 pV P (binV .and 22 (.tmp 21) (.const (.int .u64 16383)) v21_14 (.int .u64 16383)) fun v22_14 =>
 kV P (Instr.loadAt 22 v23) w fun v24_14 w =>
 pV P (binV .shr 22 (.tmp 24) (.tmp 25) v24_14 v17) fun v26_14 =>
 pV P (binV .and 22 (.tmp 26) (.const (.int .u64 4095)) v26_14 (.int .u64 4095)) fun v27_14 =>
 pV P (Instr.build 69 #[(0, v22_14), (1, v27_14), (2, v14)]) fun v29_20 =>
 kU P (Instr.storeAt 69 v2 v29_20) w fun _ w =>
 retV P 69 v2 w fun r39 =>
 K (.tuple #[r39, v32_37]) w) /\
 (kV P (Instr.loadAt 22 v23) w fun v24_15 w =>
 pV P (binV .shr 22 (.tmp 24) (.tmp 25) v24_15 v17) fun v26_15 =>
 pV P (binV .and 22 (.tmp 26) (.const (.int .u64 4095)) v26_15 (.int .u64 4095)) fun v27_15 =>
 kV P (Instr.loadAt 22 v18) w fun v19_15 w =>
 pV P (binV .shr 22 (.tmp 19) (.tmp 20) v19_15 v17) fun v21_15 =>
 pV P (binV .and 22 (.tmp 21) (.const (.int .u64 16383)) v21_15 (.int .u64 16383)) fun v22_15 =>
 pV P (Instr.build 69 #[(0, v22_15), (1, v27_15), (2, v14)]) fun v29_21 =>
 kU P (Instr.storeAt 69 v2 v29_21) w fun _ w =>
 retV P 69 v2 w fun r40 =>
 K (.tuple #[r40, v32_37]) w)))) w)
theorem G18_eq (t0 : Value) : funE P ⟨[(5, 999)], [], []⟩ Tryz.f18 [t0] w K = G18 P w K t0 := by kernel_rfl
theorem G18_ok (t0 : Value) (h : G18 Tryz.prog w K t0) : callsK Tryz.prog 18 #[t0] w K := calls_of_eq mixedX Tryz.func18 (G18_eq _ w K t0) h
def G29 (t0 t1 t2 : Value) : Prop :=
 kV P (Instr.box 24 t0) w fun v3 w =>
 kV P (Instr.loadAt 24 v3) w fun v8 w =>
 kN P (callN (.func (.func 45) #[] #[]) #[v8]) w fun v9 w =>
 kV P (Instr.alloc 121 true (.tuple #[])) w fun v7 w =>
 kU P (Instr.storeAt 121 v7 v9) w fun _ w =>
 kV P (Instr.fieldAt 121 v7 2) w fun v11 w =>
 kV P (Instr.loadAt 4 v11) w fun v12 w =>
 kV P (Op.unary .not v12) w fun v13 w =>
 condK v13
 (K (.int .i64 1) w)
 (kV P (Instr.loadAt 121 v7) w fun v15 w =>
 kN P (callN (.func (.func 64) #[] #[]) #[v15]) w fun v16 w =>
 kV P (Op.unary .not v16) w fun v17 w =>
 condK v17
 (K (.int .i64 2) w)
 (drewK (fun w =>
 sN P (callN (.func (.func 66) #[] #[]) #[t1]) w fun v20 =>
 sV P (Instr.fieldAt 121 v7 1) w fun v21 =>
 sV P (Instr.fieldAt 28 v21 1) w fun v22 =>
 sV P (Instr.loadAt 22 v22) w fun v23 =>
 sN P (callN (.func (.func 65) #[] #[]) #[v20, v23]) w fun v24 =>
 sV P (Op.unary .not v24) w fun v25 =>
 condK v25
 (K (.int .i64 3) w)
 (kV P (Instr.fieldAt 24 v3 2) w fun v27 w =>
 kV P (Instr.loadAt 22 v27) w fun v28 w =>
 kV P (Instr.fieldAt 121 v7 1) w fun v30 w =>
 kV P (Instr.fieldAt 28 v30 0) w fun v31 w =>
 kV P (Instr.fieldAt 26 v31 0) w fun v32 w =>
 kV P (Instr.loadAt 22 v32) w fun v33 w =>
 kV P (Instr.fieldAt 121 v7 1) w fun v34 w =>
 kV P (Instr.fieldAt 28 v34 0) w fun v35 w =>
 kV P (Instr.fieldAt 26 v35 1) w fun v36 w =>
 kV P (Instr.loadAt 22 v36) w fun v37 w =>
 kN P (callN (.func (.func 67) #[] #[]) #[v28, t2, v33, v37]) w fun v38 w =>
 kV P (Op.unary .not v38) w fun v39 w =>
 condK v39
 (K (.int .i64 4) w)
 (K (.int .i64 0) w))) w))
theorem G29_eq (t0 t1 t2 : Value) : funE P ⟨[], [], []⟩ Tryz.f29 [t0, t1, t2] w K = G29 P w K t0 t1 t2 := by kernel_rfl
theorem G29_ok (t0 t1 t2 : Value) (h : G29 Tryz.prog w K t0 t1 t2) : callsK Tryz.prog 29 #[t0, t1, t2] w K := calls_of_eq mixedX Tryz.func29 (G29_eq _ w K t0 t1 t2) h
def G32 (t0 : Value) : Prop :=
 kV P (Instr.alloc 42 true (.tuple #[])) w fun v2 w =>
 kV P (Instr.alloc 51 true (.tuple #[])) w fun v3 w =>
 kN P (nilN t0) w fun v9 w =>
 kV P (Instr.fieldAt 91 v9 3) w fun v10 w =>
 kV P (Instr.fieldAt 49 v10 0) w fun v11 w =>
 kV P (Instr.loadAt 3 v11) w fun v12 w =>
 kN P (callN (.func (.func 70) #[] #[]) #[v12]) w fun v15 w =>
 condK v15
 (kN P (callN (.func (.func 71) #[] #[]) #[t0]) w fun v17 w =>
 kV P (Instr.extract v17 0) w fun v18 w =>
 kV P (Instr.extract v17 1) w fun v19 w =>
 kU P (Instr.storeAt 42 v2 v18) w fun _ w =>
 kU P (Instr.storeAt 51 v3 v19) w fun _ w =>
 retV P 42 v2 w fun r0 =>
 retV P 51 v3 w fun r1 =>
 K (.tuple #[r0, r1]) w)
 (kN P (callN (.func (.func 72) #[] #[]) #[v12]) w fun v22 w =>
 kV P (binV .gtr 3 (.tmp 22) (.const (.int .i64 0)) v22 (.int .i64 0)) w fun v23 w =>
 condK v23
 (kN P (callN (.func (.func 72) #[] #[]) #[v12]) w fun v26 w =>
 kN P (callN (.func (.func 73) #[] #[]) #[t0, v26]) w fun v27 w =>
 kV P (Instr.extract v27 0) w fun v28 w =>
 kV P (Instr.extract v27 1) w fun v29 w =>
 kU P (Instr.storeAt 42 v2 v28) w fun _ w =>
 kU P (Instr.storeAt 51 v3 v29) w fun _ w =>
 retV P 42 v2 w fun r2 =>
 retV P 51 v3 w fun r3 =>
 K (.tuple #[r2, r3]) w)
 (kV P (binV .eql 3 (.tmp 30) (.const (.int .i64 3)) v12 (.int .i64 3)) w fun v32 w =>
 condK v32
 (joinL (fun J4 =>
 drewK (fun w =>
 pN P (nilN t0) fun v35 =>
 pV P (Instr.fieldAt 91 v35 1) fun v36 =>
 pV P (Instr.fieldAt 42 v36 1) fun v37 =>
 pN P (nilN t0) fun v40 =>
 pV P (Instr.fieldAt 91 v40 3) fun v41 =>
 pV P (Instr.fieldAt 49 v41 4) fun v42 =>
 (kV P (Instr.loadAt 24 v37) w fun v38 w =>
 kV P (Instr.loadAt 2 v42) w fun v43 w =>
 pV P (convert 2 22 v43) fun v44 =>
 kN P (callN (.func (.func 16) #[] #[]) #[v38, v44]) w fun v45 w =>
 pN P (nilN t0) fun v46 =>
 pV P (Instr.fieldAt 91 v46 0) fun v47 =>
 pV P (Instr.fieldAt 42 v47 1) fun v48 =>
 kU P (Instr.storeAt 24 v48 v45) w fun _ w =>
 J4 [] w) /\
 (kV P (Instr.loadAt 2 v42) w fun v43_1 w =>
 pV P (convert 2 22 v43_1) fun v44_1 =>
 kV P (Instr.loadAt 24 v37) w fun v38_1 w =>
 kN P (callN (.func (.func 16) #[] #[]) #[v38_1, v44_1]) w fun v45_1 w =>
 pN P (nilN t0) fun v46_1 =>
 pV P (Instr.fieldAt 91 v46_1 0) fun v47_1 =>
 pV P (Instr.fieldAt 42 v47_1 1) fun v48_1 =>
 kU P (Instr.storeAt 24 v48_1 v45_1) w fun _ w =>
 J4 [] w)) w) fun s4 w => ∀ _ : Nat -> Value,
 kN P (nilN t0) w fun v51 w =>
 kV P (Instr.fieldAt 91 v51 1) w fun v52 w =>
 kV P (Instr.loadAt 42 v52) w fun v53 w =>
 kN P (callN (.func (.func 28) #[] #[]) #[v53]) w fun v54 w =>
 kV P (Instr.field 42 v54 1) w fun v55 w =>
 kN P (callN (.func (.func 75) #[] #[]) #[v55]) w fun v56 w =>
 kN P (callN (.func (.func 74) #[] #[]) #[t0, v56]) w fun v57 w =>
 kV P (Instr.extract v57 0) w fun v58 w =>
 kV P (Instr.extract v57 1) w fun v59 w =>
 kU P (Instr.storeAt 42 v2 v58) w fun _ w =>
 kU P (Instr.storeAt 51 v3 v59) w fun _ w =>
 retV P 42 v2 w fun r6 =>
 retV P 51 v3 w fun r7 =>
 K (.tuple #[r6, r7]) w)
 (kV P (binV .eql 3 (.tmp 30) (.const (.int .i64 4)) v12 (.int .i64 4)) w fun v61 w =>
 condK v61
 (kN P (callN (.func (.func 76) #[] #[]) #[t0]) w fun v63 w =>
 kV P (Instr.extract v63 0) w fun v64 w =>
 kV P (Instr.extract v63 1) w fun v65 w =>
 kU P (Instr.storeAt 42 v2 v64) w fun _ w =>
 kU P (Instr.storeAt 51 v3 v65) w fun _ w =>
 retV P 42 v2 w fun r8 =>
 retV P 51 v3 w fun r9 =>
 K (.tuple #[r8, r9]) w)
 (kV P (binV .eql 3 (.tmp 30) (.const (.int .i64 1)) v12 (.int .i64 1)) w fun v67 w =>
 condK v67
 (kN P (nilN t0) w fun v70 w =>
 kV P (Instr.fieldAt 91 v70 3) w fun v71 w =>
 kV P (Instr.fieldAt 49 v71 4) w fun v72 w =>
 kV P (Instr.loadAt 2 v72) w fun v73 w =>
 kV P (convert 2 22 v73) w fun v74 w =>
 kN P (callN (.func (.func 77) #[] #[]) #[t0, v74]) w fun v75 w =>
 kV P (Instr.extract v75 0) w fun v76 w =>
 kV P (Instr.extract v75 1) w fun v77 w =>
 kU P (Instr.storeAt 42 v2 v76) w fun _ w =>
 kU P (Instr.storeAt 51 v3 v77) w fun _ w =>
 retV P 42 v2 w fun r10 =>
 retV P 51 v3 w fun r11 =>
 K (.tuple #[r10, r11]) w)
 (kV P (binV .eql 3 (.tmp 30) (.const (.int .i64 2)) v12 (.int .i64 2)) w fun v79 w =>
 condK v79
 (drewK (fun w =>
 pN P (nilN t0) fun v82 =>
 pV P (Instr.fieldAt 91 v82 1) fun v83 =>
 pV P (Instr.fieldAt 42 v83 1) fun v84 =>
 pN P (nilN t0) fun v87 =>
 pV P (Instr.fieldAt 91 v87 3) fun v88 =>
 pV P (Instr.fieldAt 49 v88 4) fun v89 =>
 (kV P (Instr.loadAt 24 v84) w fun v85 w =>
 kV P (Instr.loadAt 2 v89) w fun v90 w =>
 pV P (convert 2 22 v90) fun v91 =>
 kN P (callN (.func (.func 16) #[] #[]) #[v85, v91]) w fun v92 w =>
 kN P (callN (.func (.func 74) #[] #[]) #[t0, v92]) w fun v93 w =>
 pV P (Instr.extract v93 0) fun v94 =>
 pV P (Instr.extract v93 1) fun v95 =>
 kU P (Instr.storeAt 42 v2 v94) w fun _ w =>
 kU P (Instr.storeAt 51 v3 v95) w fun _ w =>
 retV P 42 v2 w fun r12 =>
 retV P 51 v3 w fun r13 =>
 K (.tuple #[r12, r13]) w) /\
 (kV P (Instr.loadAt 2 v89) w fun v90_1 w =>
 pV P (convert 2 22 v90_1) fun v91_1 =>
 kV P (Instr.loadAt 24 v84) w fun v85_1 w =>
 kN P (callN (.func (.func 16) #[] #[]) #[v85_1, v91_1]) w fun v92_1 w =>
 kN P (callN (.func (.func 74) #[] #[]) #[t0, v92_1]) w fun v93_1 w =>
 pV P (Instr.extract v93_1 0) fun v94_1 =>
 pV P (Instr.extract v93_1 1) fun v95_1 =>
 kU P (Instr.storeAt 42 v2 v94_1) w fun _ w =>
 kU P (Instr.storeAt 51 v3 v95_1) w fun _ w =>
 retV P 42 v2 w fun r14 =>
 retV P 51 v3 w fun r15 =>
 K (.tuple #[r14, r15]) w)) w)
 (kV P (binV .eql 3 (.tmp 30) (.const (.int .i64 41)) v12 (.int .i64 41)) w fun v97 w =>
 condK v97
 (kN P (nilN t0) w fun v100 w =>
 kV P (Instr.fieldAt 91 v100 1) w fun v101 w =>
 kV P (Instr.fieldAt 42 v101 1) w fun v102 w =>
 kV P (Instr.fieldAt 24 v102 2) w fun v103 w =>
 kV P (Instr.loadAt 22 v103) w fun v104 w =>
 kN P (callN (.func (.func 30) #[] #[]) #[t0, (.int .i64 2), (.int .i64 0), v104]) w fun v105 w =>
 kV P (Instr.extract v105 0) w fun v106 w =>
 kV P (Instr.extract v105 1) w fun v107 w =>
 kU P (Instr.storeAt 42 v2 v106) w fun _ w =>
 kU P (Instr.storeAt 51 v3 v107) w fun _ w =>
 retV P 42 v2 w fun r16 =>
 retV P 51 v3 w fun r17 =>
 K (.tuple #[r16, r17]) w)
 (kV P (binV .eql 3 (.tmp 30) (.const (.int .i64 42)) v12 (.int .i64 42)) w fun v109 w =>
 condK v109
 (kN P (nilN t0) w fun v112 w =>
 kV P (Instr.fieldAt 91 v112 1) w fun v113 w =>
 kV P (Instr.fieldAt 42 v113 1) w fun v114 w =>
 kV P (Instr.fieldAt 24 v114 2) w fun v115 w =>
 kV P (Instr.loadAt 22 v115) w fun v116 w =>
 kN P (callN (.func (.func 30) #[] #[]) #[t0, (.int .i64 3), (.int .i64 0), v116]) w fun v117 w =>
 kV P (Instr.extract v117 0) w fun v118 w =>
 kV P (Instr.extract v117 1) w fun v119 w =>
 kU P (Instr.storeAt 42 v2 v118) w fun _ w =>
 kU P (Instr.storeAt 51 v3 v119) w fun _ w =>
 retV P 42 v2 w fun r18 =>
 retV P 51 v3 w fun r19 =>
 K (.tuple #[r18, r19]) w)
 (kN P (nilN t0) w fun v121 w =>
 kV P (Instr.fieldAt 91 v121 5) w fun v122 w =>
 kV P (Instr.fieldAt 24 v122 2) w fun v123 w =>
 kV P (Instr.loadAt 22 v123) w fun v124 w =>
 joinL (fun J20 =>
 kN P (callN (.func (.func 78) #[] #[]) #[v12]) w fun v126 w =>
 condK v126
 (kN P (nilN t0) w fun v128 w =>
 kV P (Instr.fieldAt 91 v128 3) w fun v129 w =>
 kV P (Instr.fieldAt 49 v129 4) w fun v130 w =>
 kV P (Instr.loadAt 2 v130) w fun v131 w =>
 kV P (convert 2 22 v131) w fun v132 w =>
 J20 [v132] w)
 (J20 [v124] w)) fun s20 w => ∀ _ : Nat -> Value,
 kN P (nilN t0) w fun v136 w =>
 kV P (Instr.fieldAt 91 v136 4) w fun v137 w =>
 kV P (Instr.fieldAt 24 v137 2) w fun v138 w =>
 kV P (Instr.loadAt 22 v138) w fun v139 w =>
 kN P (callN (.func (.func 79) #[] #[]) #[v12, v139, (s20.getD 0 undef)]) w fun v141 w =>
 kV P (Instr.extract v141 0) w fun v142 w =>
 kV P (Instr.extract v141 1) w fun v143 w =>
 condK v143
 (kN P (callN (.func (.func 77) #[] #[]) #[t0, v142]) w fun v147 w =>
 kV P (Instr.extract v147 0) w fun v148 w =>
 kV P (Instr.extract v147 1) w fun v149 w =>
 kU P (Instr.storeAt 42 v2 v148) w fun _ w =>
 kU P (Instr.storeAt 51 v3 v149) w fun _ w =>
 retV P 42 v2 w fun r22 =>
 retV P 51 v3 w fun r23 =>
 K (.tuple #[r22, r23]) w)
 (kN P (callN (.func (.func 80) #[] #[]) #[t0]) w fun v151 w =>
 kV P (Instr.extract v151 0) w fun v152 w =>
 kV P (Instr.extract v151 1) w fun v153 w =>
 kU P (Instr.storeAt 42 v2 v152) w fun _ w =>
 kU P (Instr.storeAt 51 v3 v153) w fun _ w =>
 retV P 42 v2 w fun r24 =>
 retV P 51 v3 w fun r25 =>
 K (.tuple #[r24, r25]) w)))))))))
theorem G32_eq (t0 : Value) : funE P ⟨[(15, 999), (8, 999)], [], [(23, [5]), (9, [])]⟩ Tryz.f32 [t0] w K = G32 P w K t0 := by kernel_rfl
theorem G32_ok (t0 : Value) (h : G32 Tryz.prog w K t0) : callsK Tryz.prog 32 #[t0] w K := calls_of_eq mixedX Tryz.func32 (G32_eq _ w K t0) h
def G48 (t0 : Value) : Prop :=
 kV P (Instr.box 26 t0) w fun v1 w =>
 kV P (Instr.alloc 26 true (.tuple #[])) w fun v3 w =>
 kV P (Instr.fieldAt 26 v1 1) w fun v8 w =>
 kV P (Instr.loadAt 22 v8) w fun v9 w =>
 kV P (Instr.fieldAt 26 v1 0) w fun v10 w =>
 kV P (Instr.loadAt 22 v10) w fun v11 w =>
 kV P (binV .sub 22 (.tmp 9) (.tmp 11) v9 v11) w fun v12 w =>
 kV P (binV .lss 22 (.tmp 13) (.const (.int .u64 4096)) v12 (.int .u64 4096)) w fun v14 w =>
 condK v14
 (drewK (fun w =>
 sV P (Instr.loadAt 26 v1) w fun v15 =>
 kU P (Instr.storeAt 26 v3 v15) w fun _ w =>
 retV P 26 v3 w fun r0 =>
 K (.tuple #[(.int .u64 0), r0]) w) w)
 (kN P (callN (.func (.func 88) #[] #[]) #[v12]) w fun v17 w =>
 kV P (binV .sub 3 (.tmp 17) (.const (.int .i64 12)) v17 (.int .i64 12)) w fun v18 w =>
 kV P (Instr.loadAt 26 v1) w fun v20 w =>
 kN P (callN (.func (.func 89) #[] #[]) #[v20, v18]) w fun v22 w =>
 kV P (Instr.extract v22 0) w fun v23 w =>
 kV P (Instr.extract v22 1) w fun v24 w =>
 kV P (Instr.alloc 26 true (.tuple #[])) w fun v6 w =>
 kU P (Instr.storeAt 26 v6 v23) w fun _ w =>
 joinL (fun J1 =>
 kV P (binV .geq 22 (.tmp 25) (.const (.int .u64 8192)) v24 (.int .u64 8192)) w fun v26 w =>
 condK v26
 (kV P (binV .add 3 (.tmp 27) (.const (.int .i64 1)) v18 (.int .i64 1)) w fun v28 w =>
 kV P (Instr.loadAt 26 v1) w fun v30 w =>
 kN P (callN (.func (.func 89) #[] #[]) #[v30, v28]) w fun v32 w =>
 kV P (Instr.extract v32 0) w fun v33 w =>
 kV P (Instr.extract v32 1) w fun v34 w =>
 kU P (Instr.storeAt 26 v6 v33) w fun _ w =>
 J1 [v28] w)
 (J1 [v18] w)) fun s1 w => ∀ _ : Nat -> Value,
 drewK (fun w =>
 sV P (convert 3 22 (s1.getD 0 undef)) w fun v36 =>
 sV P (binV .add 22 (.tmp 36) (.const (.int .u64 1)) v36 (.int .u64 1)) w fun v37 =>
 sV P (Instr.loadAt 26 v6) w fun v38 =>
 kU P (Instr.storeAt 26 v3 v38) w fun _ w =>
 retV P 26 v3 w fun r3 =>
 K (.tuple #[v37, r3]) w) w)
theorem G48_eq (t0 : Value) : funE P ⟨[(9, 5), (3, 2)], [], [(9, [5])]⟩ Tryz.f48 [t0] w K = G48 P w K t0 := by kernel_rfl
theorem G48_ok (t0 : Value) (h : G48 Tryz.prog w K t0) : callsK Tryz.prog 48 #[t0] w K := calls_of_eq mixedX Tryz.func48 (G48_eq _ w K t0) h
def G73 (t0 t1 : Value) : Prop :=
 kV P (Instr.alloc 42 true (.tuple #[])) w fun v4 w =>
 kV P (Instr.alloc 51 true (.tuple #[])) w fun v5 w =>
 joinL (fun J0 =>
 drewK (fun w =>
 pN P (nilN t0) fun v16 =>
 pV P (Instr.fieldAt 91 v16 4) fun v17 =>
 pN P (nilN t0) fun v20 =>
 pV P (Instr.fieldAt 91 v20 3) fun v21 =>
 pV P (Instr.fieldAt 49 v21 4) fun v22 =>
 (kV P (Instr.loadAt 24 v17) w fun v18 w =>
 (kV P (Instr.loadAt 2 v22) w fun v23 w =>
 pV P (convert 2 22 v23) fun v24 =>
 (kN P (callN (.func (.func 16) #[] #[]) #[v18, v24]) w fun v25 w =>
 kV P (Instr.alloc 24 true (.tuple #[])) w fun v6 w =>
 kU P (Instr.storeAt 24 v6 v25) w fun _ w =>
 J0 [v6] w) /\
 (kV P (Instr.alloc 24 true (.tuple #[])) w fun v6_1 w =>
 kN P (callN (.func (.func 16) #[] #[]) #[v18, v24]) w fun v25_1 w =>
 kU P (Instr.storeAt 24 v6_1 v25_1) w fun _ w =>
 J0 [v6_1] w)) /\
 (kV P (Instr.alloc 24 true (.tuple #[])) w fun v6_2 w =>
 kV P (Instr.loadAt 2 v22) w fun v23_1 w =>
 pV P (convert 2 22 v23_1) fun v24_1 =>
 kN P (callN (.func (.func 16) #[] #[]) #[v18, v24_1]) w fun v25_2 w =>
 kU P (Instr.storeAt 24 v6_2 v25_2) w fun _ w =>
 J0 [v6_2] w)) /\
 (kV P (Instr.loadAt 2 v22) w fun v23_2 w =>
 pV P (convert 2 22 v23_2) fun v24_2 =>
 (kV P (Instr.loadAt 24 v17) w fun v18_1 w =>
 (kN P (callN (.func (.func 16) #[] #[]) #[v18_1, v24_2]) w fun v25_3 w =>
 kV P (Instr.alloc 24 true (.tuple #[])) w fun v6_3 w =>
 kU P (Instr.storeAt 24 v6_3 v25_3) w fun _ w =>
 J0 [v6_3] w) /\
 (kV P (Instr.alloc 24 true (.tuple #[])) w fun v6_4 w =>
 kN P (callN (.func (.func 16) #[] #[]) #[v18_1, v24_2]) w fun v25_4 w =>
 kU P (Instr.storeAt 24 v6_4 v25_4) w fun _ w =>
 J0 [v6_4] w)) /\
 (kV P (Instr.alloc 24 true (.tuple #[])) w fun v6_5 w =>
 kV P (Instr.loadAt 24 v17) w fun v18_2 w =>
 kN P (callN (.func (.func 16) #[] #[]) #[v18_2, v24_2]) w fun v25_5 w =>
 kU P (Instr.storeAt 24 v6_5 v25_5) w fun _ w =>
 J0 [v6_5] w)) /\
 (kV P (Instr.alloc 24 true (.tuple #[])) w fun v6_6 w =>
 (kV P (Instr.loadAt 24 v17) w fun v18_3 w =>
 kV P (Instr.loadAt 2 v22) w fun v23_3 w =>
 pV P (convert 2 22 v23_3) fun v24_3 =>
 kN P (callN (.func (.func 16) #[] #[]) #[v18_3, v24_3]) w fun v25_6 w =>
 kU P (Instr.storeAt 24 v6_6 v25_6) w fun _ w =>
 J0 [v6_6] w) /\
 (kV P (Instr.loadAt 2 v22) w fun v23_4 w =>
 pV P (convert 2 22 v23_4) fun v24_4 =>
 kV P (Instr.loadAt 24 v17) w fun v18_4 w =>
 kN P (callN (.func (.func 16) #[] #[]) #[v18_4, v24_4]) w fun v25_7 w =>
 kU P (Instr.storeAt 24 v6_6 v25_7) w fun _ w =>
 J0 [v6_6] w))) w) fun s0 w => ∀ _ : Nat -> Value,
 drewK (fun w =>
 sV P (Instr.loadAt 24 (s0.getD 0 undef)) w fun v26 =>
 sN P (callN (.func (.func 99) #[] #[]) #[t0]) w fun v28 =>
 sV P (convert 3 22 t1) w fun v30 =>
 kN P (callN (.func (.func 29) #[] #[]) #[v26, v28, v30]) w fun v31 w =>
 kV P (binV .neq 3 (.tmp 32) (.const (.int .i64 0)) v31 (.int .i64 0)) w fun v33 w =>
 condK v33
 (kV P (Instr.fieldAt 24 (s0.getD 0 undef) 2) w fun v36 w =>
 kV P (Instr.loadAt 22 v36) w fun v37 w =>
 kN P (callN (.func (.func 30) #[] #[]) #[t0, (.int .i64 5), v31, v37]) w fun v38 w =>
 kV P (Instr.extract v38 0) w fun v39 w =>
 kV P (Instr.extract v38 1) w fun v40 w =>
 kU P (Instr.storeAt 42 v4 v39) w fun _ w =>
 kU P (Instr.storeAt 51 v5 v40) w fun _ w =>
 retV P 42 v4 w fun r2 =>
 retV P 51 v5 w fun r3 =>
 K (.tuple #[r2, r3]) w)
 (kV P (Instr.fieldAt 24 (s0.getD 0 undef) 2) w fun v41 w =>
 kV P (Instr.loadAt 22 v41) w fun v42 w =>
 kV P (convert 3 22 t1) w fun v44 w =>
 kV P (binV .rem 22 (.tmp 42) (.tmp 44) v42 v44) w fun v45 w =>
 kV P (binV .neq 22 (.tmp 45) (.const (.int .u64 0)) v45 (.int .u64 0)) w fun v46 w =>
 condK v46
 (kV P (Instr.fieldAt 24 (s0.getD 0 undef) 2) w fun v48 w =>
 kV P (Instr.loadAt 22 v48) w fun v49 w =>
 kN P (callN (.func (.func 30) #[] #[]) #[t0, (.int .i64 4), (.int .i64 0), v49]) w fun v50 w =>
 kV P (Instr.extract v50 0) w fun v51 w =>
 kV P (Instr.extract v50 1) w fun v52 w =>
 kU P (Instr.storeAt 42 v4 v51) w fun _ w =>
 kU P (Instr.storeAt 51 v5 v52) w fun _ w =>
 retV P 42 v4 w fun r4 =>
 retV P 51 v5 w fun r5 =>
 K (.tuple #[r4, r5]) w)
 (joinL (fun J6 =>
 kN P (nilN t0) w fun v54 w =>
 kV P (Instr.fieldAt 91 v54 3) w fun v55 w =>
 kV P (Instr.fieldAt 49 v55 0) w fun v56 w =>
 kV P (Instr.loadAt 3 v56) w fun v57 w =>
 kV P (binV .eql 3 (.tmp 57) (.const (.int .i64 43)) v57 (.int .i64 43)) w fun v91 w =>
 condK v91
 (joinL (fun J12 =>
 drewK (fun w =>
 pN P (nilN t0) fun v94 =>
 pV P (Instr.fieldAt 91 v94 2) fun v95 =>
 pV P (Instr.fieldAt 24 (s0.getD 0 undef) 2) fun v97 =>
 (kV P (Instr.loadAt 87 v95) w fun v96 w =>
 (kV P (Instr.loadAt 22 v97) w fun v98 w =>
 (kN P (callMethod v96 "LoadCap" #[v98]) w fun v99 w =>
 pV P (Instr.extract v99 0) fun v100 =>
 pV P (Instr.extract v99 1) fun v101 =>
 kV P (Instr.alloc 24 true (.tuple #[])) w fun v9 w =>
 kU P (Instr.storeAt 24 v9 v100) w fun _ w =>
 J12 [v9, v101] w) /\
 (kV P (Instr.alloc 24 true (.tuple #[])) w fun v9_1 w =>
 kN P (callMethod v96 "LoadCap" #[v98]) w fun v99_1 w =>
 pV P (Instr.extract v99_1 0) fun v100_1 =>
 pV P (Instr.extract v99_1 1) fun v101_1 =>
 kU P (Instr.storeAt 24 v9_1 v100_1) w fun _ w =>
 J12 [v9_1, v101_1] w)) /\
 (kV P (Instr.alloc 24 true (.tuple #[])) w fun v9_2 w =>
 kV P (Instr.loadAt 22 v97) w fun v98_1 w =>
 kN P (callMethod v96 "LoadCap" #[v98_1]) w fun v99_2 w =>
 pV P (Instr.extract v99_2 0) fun v100_2 =>
 pV P (Instr.extract v99_2 1) fun v101_2 =>
 kU P (Instr.storeAt 24 v9_2 v100_2) w fun _ w =>
 J12 [v9_2, v101_2] w)) /\
 (kV P (Instr.loadAt 22 v97) w fun v98_2 w =>
 (kV P (Instr.loadAt 87 v95) w fun v96_1 w =>
 (kN P (callMethod v96_1 "LoadCap" #[v98_2]) w fun v99_3 w =>
 pV P (Instr.extract v99_3 0) fun v100_3 =>
 pV P (Instr.extract v99_3 1) fun v101_3 =>
 kV P (Instr.alloc 24 true (.tuple #[])) w fun v9_3 w =>
 kU P (Instr.storeAt 24 v9_3 v100_3) w fun _ w =>
 J12 [v9_3, v101_3] w) /\
 (kV P (Instr.alloc 24 true (.tuple #[])) w fun v9_4 w =>
 kN P (callMethod v96_1 "LoadCap" #[v98_2]) w fun v99_4 w =>
 pV P (Instr.extract v99_4 0) fun v100_4 =>
 pV P (Instr.extract v99_4 1) fun v101_4 =>
 kU P (Instr.storeAt 24 v9_4 v100_4) w fun _ w =>
 J12 [v9_4, v101_4] w)) /\
 (kV P (Instr.alloc 24 true (.tuple #[])) w fun v9_5 w =>
 kV P (Instr.loadAt 87 v95) w fun v96_2 w =>
 kN P (callMethod v96_2 "LoadCap" #[v98_2]) w fun v99_5 w =>
 pV P (Instr.extract v99_5 0) fun v100_5 =>
 pV P (Instr.extract v99_5 1) fun v101_5 =>
 kU P (Instr.storeAt 24 v9_5 v100_5) w fun _ w =>
 J12 [v9_5, v101_5] w)) /\
 (kV P (Instr.alloc 24 true (.tuple #[])) w fun v9_6 w =>
 (kV P (Instr.loadAt 87 v95) w fun v96_3 w =>
 kV P (Instr.loadAt 22 v97) w fun v98_3 w =>
 kN P (callMethod v96_3 "LoadCap" #[v98_3]) w fun v99_6 w =>
 pV P (Instr.extract v99_6 0) fun v100_6 =>
 pV P (Instr.extract v99_6 1) fun v101_6 =>
 kU P (Instr.storeAt 24 v9_6 v100_6) w fun _ w =>
 J12 [v9_6, v101_6] w) /\
 (kV P (Instr.loadAt 22 v97) w fun v98_4 w =>
 kV P (Instr.loadAt 87 v95) w fun v96_4 w =>
 kN P (callMethod v96_4 "LoadCap" #[v98_4]) w fun v99_7 w =>
 pV P (Instr.extract v99_7 0) fun v100_7 =>
 pV P (Instr.extract v99_7 1) fun v101_7 =>
 kU P (Instr.storeAt 24 v9_6 v100_7) w fun _ w =>
 J12 [v9_6, v101_7] w))) w) fun s12 w => ∀ _ : Nat -> Value,
 joinL (fun J14 =>
 kN P (nilN t0) w fun v104 w =>
 kV P (Instr.fieldAt 91 v104 4) w fun v105 w =>
 kV P (Instr.loadAt 24 v105) w fun v106 w =>
 kN P (callN (.func (.func 15) #[] #[]) #[v106]) w fun v107 w =>
 kV P (Instr.extract v107 0) w fun v108 w =>
 kV P (Instr.extract v107 1) w fun v109 w =>
 kV P (Instr.alloc 28 true (.tuple #[])) w fun v11 w =>
 kU P (Instr.storeAt 28 v11 v108) w fun _ w =>
 kV P (Instr.fieldAt 28 v11 1) w fun v110 w =>
 kV P (Instr.loadAt 22 v110) w fun v111 w =>
 kN P (callN (.func (.func 65) #[] #[]) #[(.int .u64 8), v111]) w fun v112 w =>
 kV P (Op.unary .not v112) w fun v113 w =>
 condK v113
 (kV P (Instr.loadAt 24 (s12.getD 0 undef)) w fun v114 w =>
 kN P (callN (.func (.func 87) #[] #[]) #[v114]) w fun v115 w =>
 kU P (Instr.storeAt 24 (s12.getD 0 undef) v115) w fun _ w =>
 J14 [] w)
 (J14 [] w)) fun s14 w => ∀ _ : Nat -> Value,
 drewK (fun w =>
 pN P (nilN t0) fun v118 =>
 pV P (Instr.fieldAt 91 v118 0) fun v119 =>
 pN P (nilN t0) fun v122 =>
 pV P (Instr.fieldAt 91 v122 3) fun v123 =>
 pV P (Instr.fieldAt 49 v123 1) fun v124 =>
 (kV P (Instr.loadAt 42 v119) w fun v120 w =>
 (kV P (Instr.loadAt 3 v124) w fun v125 w =>
 kV P (Instr.loadAt 24 (s12.getD 0 undef)) w fun v126 w =>
 kN P (callN (.func (.func 9) #[] #[]) #[v120, v125, v126]) w fun v127 w =>
 pN P (nilN t0) fun v129 =>
 pV P (Instr.fieldAt 91 v129 0) fun v130 =>
 kU P (Instr.storeAt 42 v130 v127) w fun _ w =>
 J6 [(s12.getD 1 undef)] w) /\
 (kV P (Instr.loadAt 24 (s12.getD 0 undef)) w fun v126_1 w =>
 kV P (Instr.loadAt 3 v124) w fun v125_1 w =>
 kN P (callN (.func (.func 9) #[] #[]) #[v120, v125_1, v126_1]) w fun v127_1 w =>
 pN P (nilN t0) fun v129_1 =>
 pV P (Instr.fieldAt 91 v129_1 0) fun v130_1 =>
 kU P (Instr.storeAt 42 v130_1 v127_1) w fun _ w =>
 J6 [(s12.getD 1 undef)] w)) /\
 (kV P (Instr.loadAt 3 v124) w fun v125_2 w =>
 (kV P (Instr.loadAt 42 v119) w fun v120_1 w =>
 kV P (Instr.loadAt 24 (s12.getD 0 undef)) w fun v126_2 w =>
 kN P (callN (.func (.func 9) #[] #[]) #[v120_1, v125_2, v126_2]) w fun v127_2 w =>
 pN P (nilN t0) fun v129_2 =>
 pV P (Instr.fieldAt 91 v129_2 0) fun v130_2 =>
 kU P (Instr.storeAt 42 v130_2 v127_2) w fun _ w =>
 J6 [(s12.getD 1 undef)] w) /\
 (kV P (Instr.loadAt 24 (s12.getD 0 undef)) w fun v126_3 w =>
 kV P (Instr.loadAt 42 v119) w fun v120_2 w =>
 kN P (callN (.func (.func 9) #[] #[]) #[v120_2, v125_2, v126_3]) w fun v127_3 w =>
 pN P (nilN t0) fun v129_3 =>
 pV P (Instr.fieldAt 91 v129_3 0) fun v130_3 =>
 kU P (Instr.storeAt 42 v130_3 v127_3) w fun _ w =>
 J6 [(s12.getD 1 undef)] w)) /\
 (kV P (Instr.loadAt 24 (s12.getD 0 undef)) w fun v126_4 w =>
 (kV P (Instr.loadAt 42 v119) w fun v120_3 w =>
 kV P (Instr.loadAt 3 v124) w fun v125_3 w =>
 kN P (callN (.func (.func 9) #[] #[]) #[v120_3, v125_3, v126_4]) w fun v127_4 w =>
 pN P (nilN t0) fun v129_4 =>
 pV P (Instr.fieldAt 91 v129_4 0) fun v130_4 =>
 kU P (Instr.storeAt 42 v130_4 v127_4) w fun _ w =>
 J6 [(s12.getD 1 undef)] w) /\
 (kV P (Instr.loadAt 3 v124) w fun v125_4 w =>
 kV P (Instr.loadAt 42 v119) w fun v120_4 w =>
 kN P (callN (.func (.func 9) #[] #[]) #[v120_4, v125_4, v126_4]) w fun v127_5 w =>
 pN P (nilN t0) fun v129_5 =>
 pV P (Instr.fieldAt 91 v129_5 0) fun v130_5 =>
 kU P (Instr.storeAt 42 v130_5 v127_5) w fun _ w =>
 J6 [(s12.getD 1 undef)] w))) w)
 (kV P (binV .eql 3 (.tmp 57) (.const (.int .i64 44)) v57 (.int .i64 44)) w fun v132 w =>
 condK v132
 (drewK (fun w =>
 sN P (nilN t0) w fun v134 =>
 sV P (Instr.fieldAt 91 v134 2) w fun v135 =>
 sV P (Instr.loadAt 87 v135) w fun v136 =>
 sV P (Instr.fieldAt 24 (s0.getD 0 undef) 2) w fun v137 =>
 sV P (Instr.loadAt 22 v137) w fun v138 =>
 sN P (nilN t0) w fun v140 =>
 sV P (Instr.fieldAt 91 v140 5) w fun v141 =>
 sV P (Instr.loadAt 24 v141) w fun v142 =>
 sN P (nilN v136) w fun v143 =>
 kN P (callMethod v136 "StoreCap" #[v138, v142]) w fun v145 w =>
 J6 [v145] w) w)
 (joinL (fun J16 =>
 kV P (binV .eql 3 (.tmp 57) (.const (.int .i64 18)) v57 (.int .i64 18)) w fun v147 w =>
 condK v147
 (J16 [v147] w)
 (kV P (binV .eql 3 (.tmp 57) (.const (.int .i64 19)) v57 (.int .i64 19)) w fun v148 w =>
 condK v148
 (J16 [v148] w)
 (kV P (binV .eql 3 (.tmp 57) (.const (.int .i64 20)) v57 (.int .i64 20)) w fun v149 w =>
 condK v149
 (J16 [v149] w)
 (kV P (binV .eql 3 (.tmp 57) (.const (.int .i64 21)) v57 (.int .i64 21)) w fun v150 w =>
 J16 [v150] w)))) fun s16 w => ∀ _ : Nat -> Value,
 condK (s16.getD 0 undef)
 (drewK (fun w =>
 sN P (nilN t0) w fun v152 =>
 sV P (Instr.fieldAt 91 v152 2) w fun v153 =>
 sV P (Instr.loadAt 87 v153) w fun v154 =>
 sV P (Instr.fieldAt 24 (s0.getD 0 undef) 2) w fun v155 =>
 sV P (Instr.loadAt 22 v155) w fun v156 =>
 sN P (nilN t0) w fun v159 =>
 sV P (Instr.fieldAt 91 v159 5) w fun v160 =>
 sV P (Instr.fieldAt 24 v160 2) w fun v161 =>
 sV P (Instr.loadAt 22 v161) w fun v162 =>
 sN P (nilN v154) w fun v163 =>
 kN P (callMethod v154 "Store" #[v156, t1, v162]) w fun v165 w =>
 J6 [v165] w) w)
 (joinL (fun J18 =>
 drewK (fun w =>
 pN P (nilN t0) fun v60 =>
 pV P (Instr.fieldAt 91 v60 2) fun v61 =>
 pV P (Instr.fieldAt 24 (s0.getD 0 undef) 2) fun v63 =>
 (kV P (Instr.loadAt 87 v61) w fun v62 w =>
 kV P (Instr.loadAt 22 v63) w fun v64 w =>
 kN P (callMethod v62 "Load" #[v64, t1]) w fun v66 w =>
 pV P (Instr.extract v66 0) fun v67 =>
 pV P (Instr.extract v66 1) fun v68 =>
 J18 [v67, v68] w) /\
 (kV P (Instr.loadAt 22 v63) w fun v64_1 w =>
 kV P (Instr.loadAt 87 v61) w fun v62_1 w =>
 kN P (callMethod v62_1 "Load" #[v64_1, t1]) w fun v66_1 w =>
 pV P (Instr.extract v66_1 0) fun v67_1 =>
 pV P (Instr.extract v66_1 1) fun v68_1 =>
 J18 [v67_1, v68_1] w)) w) fun s18 w => ∀ _ : Nat -> Value,
 drewK (fun w =>
 pN P (nilN t0) fun v71 =>
 pV P (Instr.fieldAt 91 v71 0) fun v72 =>
 pN P (nilN t0) fun v75 =>
 pV P (Instr.fieldAt 91 v75 3) fun v76 =>
 pV P (Instr.fieldAt 49 v76 1) fun v77 =>
 pN P (nilN t0) fun v80 =>
 pV P (Instr.fieldAt 91 v80 3) fun v81 =>
 pV P (Instr.fieldAt 49 v81 0) fun v82 =>
 (kV P (Instr.loadAt 42 v72) w fun v73 w =>
 (kV P (Instr.loadAt 3 v77) w fun v78 w =>
 kV P (Instr.loadAt 3 v82) w fun v83 w =>
 kN P (callN (.func (.func 101) #[] #[]) #[v83, (s18.getD 0 undef)]) w fun v85 w =>
 kN P (callN (.func (.func 100) #[] #[]) #[v73, v78, v85]) w fun v86 w =>
 pN P (nilN t0) fun v88 =>
 pV P (Instr.fieldAt 91 v88 0) fun v89 =>
 kU P (Instr.storeAt 42 v89 v86) w fun _ w =>
 J6 [(s18.getD 1 undef)] w) /\
 (kV P (Instr.loadAt 3 v82) w fun v83_1 w =>
 (kV P (Instr.loadAt 3 v77) w fun v78_1 w =>
 kN P (callN (.func (.func 101) #[] #[]) #[v83_1, (s18.getD 0 undef)]) w fun v85_1 w =>
 kN P (callN (.func (.func 100) #[] #[]) #[v73, v78_1, v85_1]) w fun v86_1 w =>
 pN P (nilN t0) fun v88_1 =>
 pV P (Instr.fieldAt 91 v88_1 0) fun v89_1 =>
 kU P (Instr.storeAt 42 v89_1 v86_1) w fun _ w =>
 J6 [(s18.getD 1 undef)] w) /\
 (kN P (callN (.func (.func 101) #[] #[]) #[v83_1, (s18.getD 0 undef)]) w fun v85_2 w =>
 kV P (Instr.loadAt 3 v77) w fun v78_2 w =>
 kN P (callN (.func (.func 100) #[] #[]) #[v73, v78_2, v85_2]) w fun v86_2 w =>
 pN P (nilN t0) fun v88_2 =>
 pV P (Instr.fieldAt 91 v88_2 0) fun v89_2 =>
 kU P (Instr.storeAt 42 v89_2 v86_2) w fun _ w =>
 J6 [(s18.getD 1 undef)] w))) /\
 (kV P (Instr.loadAt 3 v77) w fun v78_3 w =>
 (kV P (Instr.loadAt 42 v72) w fun v73_1 w =>
 kV P (Instr.loadAt 3 v82) w fun v83_2 w =>
 kN P (callN (.func (.func 101) #[] #[]) #[v83_2, (s18.getD 0 undef)]) w fun v85_3 w =>
 kN P (callN (.func (.func 100) #[] #[]) #[v73_1, v78_3, v85_3]) w fun v86_3 w =>
 pN P (nilN t0) fun v88_3 =>
 pV P (Instr.fieldAt 91 v88_3 0) fun v89_3 =>
 kU P (Instr.storeAt 42 v89_3 v86_3) w fun _ w =>
 J6 [(s18.getD 1 undef)] w) /\
 (kV P (Instr.loadAt 3 v82) w fun v83_3 w =>
 (kV P (Instr.loadAt 42 v72) w fun v73_2 w =>
 kN P (callN (.func (.func 101) #[] #[]) #[v83_3, (s18.getD 0 undef)]) w fun v85_4 w =>
 kN P (callN (.func (.func 100) #[] #[]) #[v73_2, v78_3, v85_4]) w fun v86_4 w =>
 pN P (nilN t0) fun v88_4 =>
 pV P (Instr.fieldAt 91 v88_4 0) fun v89_4 =>
 kU P (Instr.storeAt 42 v89_4 v86_4) w fun _ w =>
 J6 [(s18.getD 1 undef)] w) /\
 (kN P (callN (.func (.func 101) #[] #[]) #[v83_3, (s18.getD 0 undef)]) w fun v85_5 w =>
 kV P (Instr.loadAt 42 v72) w fun v73_3 w =>
 kN P (callN (.func (.func 100) #[] #[]) #[v73_3, v78_3, v85_5]) w fun v86_5 w =>
 pN P (nilN t0) fun v88_5 =>
 pV P (Instr.fieldAt 91 v88_5 0) fun v89_5 =>
 kU P (Instr.storeAt 42 v89_5 v86_5) w fun _ w =>
 J6 [(s18.getD 1 undef)] w))) /\
 (kV P (Instr.loadAt 3 v82) w fun v83_4 w =>
 (kV P (Instr.loadAt 42 v72) w fun v73_4 w =>
 (kV P (Instr.loadAt 3 v77) w fun v78_4 w =>
 kN P (callN (.func (.func 101) #[] #[]) #[v83_4, (s18.getD 0 undef)]) w fun v85_6 w =>
 kN P (callN (.func (.func 100) #[] #[]) #[v73_4, v78_4, v85_6]) w fun v86_6 w =>
 pN P (nilN t0) fun v88_6 =>
 pV P (Instr.fieldAt 91 v88_6 0) fun v89_6 =>
 kU P (Instr.storeAt 42 v89_6 v86_6) w fun _ w =>
 J6 [(s18.getD 1 undef)] w) /\
 (kN P (callN (.func (.func 101) #[] #[]) #[v83_4, (s18.getD 0 undef)]) w fun v85_7 w =>
 kV P (Instr.loadAt 3 v77) w fun v78_5 w =>
 kN P (callN (.func (.func 100) #[] #[]) #[v73_4, v78_5, v85_7]) w fun v86_7 w =>
 pN P (nilN t0) fun v88_7 =>
 pV P (Instr.fieldAt 91 v88_7 0) fun v89_7 =>
 kU P (Instr.storeAt 42 v89_7 v86_7) w fun _ w =>
 J6 [(s18.getD 1 undef)] w)) /\
 (kV P (Instr.loadAt 3 v77) w fun v78_6 w =>
 (kV P (Instr.loadAt 42 v72) w fun v73_5 w =>
 kN P (callN (.func (.func 101) #[] #[]) #[v83_4, (s18.getD 0 undef)]) w fun v85_8 w =>
 kN P (callN (.func (.func 100) #[] #[]) #[v73_5, v78_6, v85_8]) w fun v86_8 w =>
 pN P (nilN t0) fun v88_8 =>
 pV P (Instr.fieldAt 91 v88_8 0) fun v89_8 =>
 kU P (Instr.storeAt 42 v89_8 v86_8) w fun _ w =>
 J6 [(s18.getD 1 undef)] w) /\
 (kN P (callN (.func (.func 101) #[] #[]) #[v83_4, (s18.getD 0 undef)]) w fun v85_9 w =>
 kV P (Instr.loadAt 42 v72) w fun v73_6 w =>
 kN P (callN (.func (.func 100) #[] #[]) #[v73_6, v78_6, v85_9]) w fun v86_9 w =>
 pN P (nilN t0) fun v88_9 =>
 pV P (Instr.fieldAt 91 v88_9 0) fun v89_9 =>
 kU P (Instr.storeAt 42 v89_9 v86_9) w fun _ w =>
 J6 [(s18.getD 1 undef)] w)) /\
 (kN P (callN (.func (.func 101) #[] #[]) #[v83_4, (s18.getD 0 undef)]) w fun v85_10 w =>
 (kV P (Instr.loadAt 42 v72) w fun v73_7 w =>
 kV P (Instr.loadAt 3 v77) w fun v78_7 w =>
 kN P (callN (.func (.func 100) #[] #[]) #[v73_7, v78_7, v85_10]) w fun v86_10 w =>
 pN P (nilN t0) fun v88_10 =>
 pV P (Instr.fieldAt 91 v88_10 0) fun v89_10 =>
 kU P (Instr.storeAt 42 v89_10 v86_10) w fun _ w =>
 J6 [(s18.getD 1 undef)] w) /\
 (kV P (Instr.loadAt 3 v77) w fun v78_8 w =>
 kV P (Instr.loadAt 42 v72) w fun v73_8 w =>
 kN P (callN (.func (.func 100) #[] #[]) #[v73_8, v78_8, v85_10]) w fun v86_11 w =>
 pN P (nilN t0) fun v88_11 =>
 pV P (Instr.fieldAt 91 v88_11 0) fun v89_11 =>
 kU P (Instr.storeAt 42 v89_11 v86_11) w fun _ w =>
 J6 [(s18.getD 1 undef)] w)))) w)))) fun s6 w => ∀ _ : Nat -> Value,
 kV P (binV .neq 3 (.tmp 166) (.const (.int .i64 0)) (s6.getD 0 undef) (.int .i64 0)) w fun v167 w =>
 condK v167
 (kV P (Instr.fieldAt 24 (s0.getD 0 undef) 2) w fun v170 w =>
 kV P (Instr.loadAt 22 v170) w fun v171 w =>
 kN P (callN (.func (.func 30) #[] #[]) #[t0, (.int .i64 6), (s6.getD 0 undef), v171]) w fun v172 w =>
 kV P (Instr.extract v172 0) w fun v173 w =>
 kV P (Instr.extract v172 1) w fun v174 w =>
 kU P (Instr.storeAt 42 v4 v173) w fun _ w =>
 kU P (Instr.storeAt 51 v5 v174) w fun _ w =>
 retV P 42 v4 w fun r8 =>
 retV P 51 v5 w fun r9 =>
 K (.tuple #[r8, r9]) w)
 (kN P (callN (.func (.func 96) #[] #[]) #[t0]) w fun v176 w =>
 kV P (Instr.extract v176 0) w fun v177 w =>
 kV P (Instr.extract v176 1) w fun v178 w =>
 kU P (Instr.storeAt 42 v4 v177) w fun _ w =>
 kU P (Instr.storeAt 51 v5 v178) w fun _ w =>
 retV P 42 v4 w fun r10 =>
 retV P 51 v5 w fun r11 =>
 K (.tuple #[r10, r11]) w)))) w
theorem G73_eq (t0 t1 : Value) : funE P ⟨[(1, 999), (9, 999), (10, 999), (23, 14), (18, 12), (12, 999), (16, 999), (2, 5)], [], [(2, [6]), (24, [8]), (23, [146]), (10, [13, 14]), (13, [9, 10]), (16, [])]⟩ Tryz.f73 [t0, t1] w K = G73 P w K t0 t1 := by kernel_rfl
theorem G73_ok (t0 t1 : Value) (h : G73 Tryz.prog w K t0 t1) : callsK Tryz.prog 73 #[t0, t1] w K := calls_of_eq mixedX Tryz.func73 (G73_eq _ w K t0 t1) h
def G89 (t0 t1 : Value) : Prop :=
 kV P (Instr.box 26 t0) w fun v2 w =>
 kV P (Instr.alloc 26 true (.tuple #[])) w fun v4 w =>
 kV P (Instr.fieldAt 26 v2 1) w fun v10 w =>
 kV P (Instr.loadAt 22 v10) w fun v11 w =>
 kN P (callN (.func (.func 110) #[] #[]) #[v11, t1]) w fun v13 w =>
 kV P (Instr.extract v13 0) w fun v14 w =>
 kV P (Instr.extract v13 1) w fun v15 w =>
 kV P (Instr.fieldAt 26 v2 0) w fun v16 w =>
 kV P (Instr.loadAt 22 v16) w fun v17 w =>
 kN P (callN (.func (.func 111) #[] #[]) #[v17, t1]) w fun v19 w =>
 kV P (Instr.build 26 #[(0, v19), (1, v14)]) w fun v21 w =>
 kV P (Instr.alloc 26 true (.tuple #[])) w fun v8 w =>
 kU P (Instr.storeAt 26 v8 v21) w fun _ w =>
 drewK (fun w =>
 pV P (Instr.fieldAt 26 v8 1) fun v23 =>
 pV P (Instr.fieldAt 26 v8 0) fun v25 =>
 (kV P (Instr.loadAt 26 v8) w fun v22 w =>
 (kV P (Instr.loadAt 22 v23) w fun v24 w =>
 (kV P (Instr.loadAt 22 v25) w fun v26 w =>
 pV P (binV .sub 22 (.tmp 24) (.tmp 26) v24 v26) fun v27 =>
 pV P (binV .shr 22 (.tmp 27) (.tmp 28) v27 t1) fun v29 =>
 kU P (Instr.storeAt 26 v4 v22) w fun _ w =>
 retV P 26 v4 w fun r0 =>
 K (.tuple #[r0, v29]) w) /\
 (kU P (Instr.storeAt 26 v4 v22) w fun _ w =>
 kV P (Instr.loadAt 22 v25) w fun v26_1 w =>
 pV P (binV .sub 22 (.tmp 24) (.tmp 26) v24 v26_1) fun v27_1 =>
 pV P (binV .shr 22 (.tmp 27) (.tmp 28) v27_1 t1) fun v29_1 =>
 retV P 26 v4 w fun r1 =>
 K (.tuple #[r1, v29_1]) w)) /\
 (kV P (Instr.loadAt 22 v25) w fun v26_2 w =>
 (kV P (Instr.loadAt 22 v23) w fun v24_1 w =>
 pV P (binV .sub 22 (.tmp 24) (.tmp 26) v24_1 v26_2) fun v27_2 =>
 pV P (binV .shr 22 (.tmp 27) (.tmp 28) v27_2 t1) fun v29_2 =>
 kU P (Instr.storeAt 26 v4 v22) w fun _ w =>
 retV P 26 v4 w fun r2 =>
 K (.tuple #[r2, v29_2]) w) /\
 (kU P (Instr.storeAt 26 v4 v22) w fun _ w =>
 kV P (Instr.loadAt 22 v23) w fun v24_2 w =>
 pV P (binV .sub 22 (.tmp 24) (.tmp 26) v24_2 v26_2) fun v27_3 =>
 pV P (binV .shr 22 (.tmp 27) (.tmp 28) v27_3 t1) fun v29_3 =>
 retV P 26 v4 w fun r3 =>
 K (.tuple #[r3, v29_3]) w)) /\
 (kU P (Instr.storeAt 26 v4 v22) w fun _ w =>
 (kV P (Instr.loadAt 22 v23) w fun v24_3 w =>
 kV P (Instr.loadAt 22 v25) w fun v26_3 w =>
 pV P (binV .sub 22 (.tmp 24) (.tmp 26) v24_3 v26_3) fun v27_4 =>
 pV P (binV .shr 22 (.tmp 27) (.tmp 28) v27_4 t1) fun v29_4 =>
 retV P 26 v4 w fun r4 =>
 K (.tuple #[r4, v29_4]) w) /\
 (kV P (Instr.loadAt 22 v25) w fun v26_4 w =>
 kV P (Instr.loadAt 22 v23) w fun v24_4 w =>
 pV P (binV .sub 22 (.tmp 24) (.tmp 26) v24_4 v26_4) fun v27_5 =>
 pV P (binV .shr 22 (.tmp 27) (.tmp 28) v27_5 t1) fun v29_5 =>
 retV P 26 v4 w fun r5 =>
 K (.tuple #[r5, v29_5]) w))) /\
 (kV P (Instr.loadAt 22 v23) w fun v24_5 w =>
 (kV P (Instr.loadAt 26 v8) w fun v22_1 w =>
 (kV P (Instr.loadAt 22 v25) w fun v26_5 w =>
 pV P (binV .sub 22 (.tmp 24) (.tmp 26) v24_5 v26_5) fun v27_6 =>
 pV P (binV .shr 22 (.tmp 27) (.tmp 28) v27_6 t1) fun v29_6 =>
 kU P (Instr.storeAt 26 v4 v22_1) w fun _ w =>
 retV P 26 v4 w fun r6 =>
 K (.tuple #[r6, v29_6]) w) /\
 (kU P (Instr.storeAt 26 v4 v22_1) w fun _ w =>
 kV P (Instr.loadAt 22 v25) w fun v26_6 w =>
 pV P (binV .sub 22 (.tmp 24) (.tmp 26) v24_5 v26_6) fun v27_7 =>
 pV P (binV .shr 22 (.tmp 27) (.tmp 28) v27_7 t1) fun v29_7 =>
 retV P 26 v4 w fun r7 =>
 K (.tuple #[r7, v29_7]) w)) /\
 (kV P (Instr.loadAt 22 v25) w fun v26_7 w =>
 pV P (binV .sub 22 (.tmp 24) (.tmp 26) v24_5 v26_7) fun v27_8 =>
 pV P (binV .shr 22 (.tmp 27) (.tmp 28) v27_8 t1) fun v29_8 =>
 kV P (Instr.loadAt 26 v8) w fun v22_2 w =>
 kU P (Instr.storeAt 26 v4 v22_2) w fun _ w =>
 retV P 26 v4 w fun r8 =>
 K (.tuple #[r8, v29_8]) w)) /\
 (kV P (Instr.loadAt 22 v25) w fun v26_8 w =>
 (kV P (Instr.loadAt 26 v8) w fun v22_3 w =>
 (kV P (Instr.loadAt 22 v23) w fun v24_6 w =>
 pV P (binV .sub 22 (.tmp 24) (.tmp 26) v24_6 v26_8) fun v27_9 =>
 pV P (binV .shr 22 (.tmp 27) (.tmp 28) v27_9 t1) fun v29_9 =>
 kU P (Instr.storeAt 26 v4 v22_3) w fun _ w =>
 retV P 26 v4 w fun r9 =>
 K (.tuple #[r9, v29_9]) w) /\
 (kU P (Instr.storeAt 26 v4 v22_3) w fun _ w =>
 kV P (Instr.loadAt 22 v23) w fun v24_7 w =>
 pV P (binV .sub 22 (.tmp 24) (.tmp 26) v24_7 v26_8) fun v27_10 =>
 pV P (binV .shr 22 (.tmp 27) (.tmp 28) v27_10 t1) fun v29_10 =>
 retV P 26 v4 w fun r10 =>
 K (.tuple #[r10, v29_10]) w)) /\
 (kV P (Instr.loadAt 22 v23) w fun v24_8 w =>
 pV P (binV .sub 22 (.tmp 24) (.tmp 26) v24_8 v26_8) fun v27_11 =>
 pV P (binV .shr 22 (.tmp 27) (.tmp 28) v27_11 t1) fun v29_11 =>
 kV P (Instr.loadAt 26 v8) w fun v22_4 w =>
 kU P (Instr.storeAt 26 v4 v22_4) w fun _ w =>
 retV P 26 v4 w fun r11 =>
 K (.tuple #[r11, v29_11]) w))) w
theorem G89_eq (t0 t1 : Value) : funE P ⟨[(3, 999)], [], []⟩ Tryz.f89 [t0, t1] w K = G89 P w K t0 t1 := by kernel_rfl
theorem G89_ok (t0 t1 : Value) (h : G89 Tryz.prog w K t0 t1) : callsK Tryz.prog 89 #[t0, t1] w K := calls_of_eq mixedX Tryz.func89 (G89_eq _ w K t0 t1) h
end
open Go.Fx
theorem qG4 : type_of% (And.intro @gen0 (And.intro (@gen1 Tryz.prog) (And.intro @gen2 (And.intro @rulesC (And.intro @rulesX (And.intro @rulesN (And.intro @litR (And.intro @bolR (And.intro (@numR Tryz.prog) (And.intro (@memR Tryz.prog) (And.intro @valR (And.intro @heapR (And.intro @updR (And.intro @intR (And.intro @decR (And.intro (@extR Tryz.prog) (And.intro (@slR Tryz.prog) (And.intro @segR (And.intro @thenR ((@pnR Tryz.prog))))))))))))))))))))) := ⟨@gen0, (@gen1 Tryz.prog), @gen2, @rulesC, @rulesX, @rulesN, @litR, @bolR, (@numR Tryz.prog), (@memR Tryz.prog), @valR, @heapR, @updR, @intR, @decR, (@extR Tryz.prog), (@slR Tryz.prog), @segR, @thenR, (@pnR Tryz.prog)⟩
set_option maxRecDepth 100000
def U6 (x : Int) : Prop := 0 <= x /\ x < 18446744073709551616
theorem wrapU (z : Int) : U6 (IntKind.u64.wrap z) := by
 rw [wrapMod]
 unfold U6
 omega
theorem natOf {x : Int} (h : U6 x) : ∃ n : Nat, x = (n : Int) /\ n < 18446744073709551616 := ⟨x.toNat, by unfold U6 at h; omega, by unfold U6 at h; omega⟩
theorem bitU (op : BinOp) (a b : Int) (h : op = .and ∨ op = .or ∨ op = .xor ∨ op = .andNot) : U6 (bitI op .u64 a b) := by
 rcases h with rfl | rfl | rfl | rfl <;> exact wrapU _
theorem AddG_spec {w : World} {x y : Nat} {K : Value -> World -> Prop} (hK : K (.tuple #[.int .u64 (((x + y) % 18446744073709551616 : Nat) : Int), .int .u64 (((x + y) / 18446744073709551616 : Nat) : Int)]) w) :
  kN Tryz.prog (callN (.func (.func 112) #[] #[]) #[.int .u64 (x : Nat), .int .u64 (y : Nat), .int .u64 0]) w K := by
 have e := Fx.kN_call (P := Tryz.prog) (f := 112) (first := #[]) (cap := #[]) (args := #[.int .u64 (x : Nat), .int .u64 (y : Nat), .int .u64 0]) (w := w) (K := K)
 rw [e]
 have e2 := run_callFunc_extern Tryz.func112 (by kernel_rfl) (by kernel_rfl) (by kernel_rfl) (e := (Extern.MathBitsCarry.rows[0]'(by decide)).2) (by kernel_rfl) #[.int .u64 (x : Nat), .int .u64 (y : Nat), .int .u64 0] w
 have e3 : (#[] ++ #[Value.int .u64 (x : Nat), .int .u64 (y : Nat), .int .u64 0] ++ #[] : Array Value) = #[.int .u64 (x : Nat), .int .u64 (y : Nat), .int .u64 0] := rfl
 rw [e3, e2]
 have e4 : (((Extern.MathBitsCarry.rows[0]'(by decide)).2) #[.int .u64 (x : Nat), .int .u64 (y : Nat), .int .u64 0]).run Tryz.prog w = .ok (.tuple #[.int .u64 (((x + y) % 18446744073709551616 : Nat) : Int), .int .u64 (((x + y) / 18446744073709551616 : Nat) : Int)]) w := by
  have h3 : (((Extern.MathBitsCarry.rows[0]'(by decide)).2) #[.int .u64 (x : Nat), .int .u64 (y : Nat), .int .u64 0]).run Tryz.prog w = .ok (Extern.MathBitsCarry.pair ((x + y + 0) % Extern.MathBitsCarry.m64) ((x + y + 0) / Extern.MathBitsCarry.m64)) w := rfl
  rw [h3, Nat.add_zero]
  rfl
 rw [e4]
 exact hK
theorem sAddG_spec {w : World} {x y : Nat} {K : Value -> World -> Prop} (hK : ∀ b, K (.tuple #[.int .u64 (((x + y) % 18446744073709551616 : Nat) : Int), .bool b]) w) : callsK Tryz.prog 94 #[.int .u64 (x : Nat), .int .u64 (y : Nat)] w K := by
 apply F94_ok
 unfold F94
 refine AddG_spec ?_
 by_cases h : (((x + y) / 18446744073709551616 : Nat) : Int) = 0
 ·simp (disch := first | exact qD4 | fail) only [qG4, h]
  exact hK _
 ·simp (disch := first | exact qD4 | fail) only [qG4, h]
  exact hK _
theorem InG_spec {w : World} {x n b t : Nat} {K : Value -> World -> Prop} (hK : ∀ r, K (.bool r) w) : callsK Tryz.prog 67 #[.int .u64 (x : Nat), .int .u64 (n : Nat), .int .u64 (b : Nat), .int .u64 (t : Nat)] w K := by
 apply F67_ok
 unfold F67
 simp (disch := first | exact qD4 | fail) only [qG4]
 refine sAddG_spec fun o => ?_
 generalize (x + n) % 18446744073709551616 = s
 cases o with
 | true =>
  simp (disch := first | exact qD4 | fail) only [qG4, joinBR, Bool.not_true]
  exact hK _
 | false =>
  by_cases h1 : b <= x
  ·by_cases h2 : s <= t
   ·simp (disch := first | exact qD4 | fail) only [qG4, joinBR, Bool.not_false]
    exact hK _
   ·simp (disch := first | exact qD4 | fail) only [qG4, joinBR, Bool.not_false]
    exact hK _
  ·simp (disch := first | exact qD4 | fail) only [qG4, joinBR, Bool.not_false]
   exact hK _
theorem unitG_spec {w : World} {e : Int} (he : e <= 1000) {K : Value -> World -> Prop} (hK : ∀ u : Nat, u < 18446744073709551616 -> K (.int .u64 (u : Nat)) w) : callsK Tryz.prog 124 #[.int .i64 e] w K := by
 apply F124_ok
 unfold F124
 by_cases h0 : e <= 0
 ·simp (disch := first | exact qD4 | fail) only [qG4, joinBR]
  exact hK 0 (by decide)
 ·by_cases h1 : 64 <= e
  ·simp (disch := first | exact qD4 | fail) only [qG4, joinBR]
   exact hK 18446744073709551615 (by decide)
  ·simp (disch := first | exact qD4 | fail) only [qG4, joinBR]
   obtain ⟨n, hn, hl⟩ := natOf (wrapU (IntKind.u64.wrap (1 * 2 ^ e.toNat) - 1))
   rw [hn]
   exact hK n hl
theorem downG_spec {w : World} {x : Nat} {e : Int} (he : e <= 1000) {K : Value -> World -> Prop} (hK : ∀ u : Nat, u < 18446744073709551616 -> K (.int .u64 (u : Nat)) w) : callsK Tryz.prog 111 #[.int .u64 (x : Nat), .int .i64 e] w K := by
 apply F111_ok
 unfold F111
 simp (disch := first | exact qD4 | fail) only [qG4]
 refine unitG_spec he fun u hu => ?_
 obtain ⟨n, hn, hl⟩ := natOf (bitU .andNot (x : Int) (u : Int) (.inr (.inr (.inr rfl))))
 simp (disch := first | exact qD4 | fail) only [qG4, hn]
 exact hK n hl
theorem upG_spec {w : World} {x : Nat} {e : Int} (he : e <= 1000) (hx : x < 18446744073709551616) {K : Value -> World -> Prop} (hK : ∀ (u : Nat) b, u < 18446744073709551616 -> K (.tuple #[.int .u64 (u : Nat), .bool b]) w) : callsK Tryz.prog 110 #[.int .u64 (x : Nat), .int .i64 e] w K := by
 apply F110_ok
 unfold F110
 simp (disch := first | exact qD4 | fail) only [qG4]
 refine unitG_spec he fun u hu => ?_
 by_cases h0 : bitI .and .u64 (x : Int) (u : Int) = 0
 ·simp (disch := first | exact qD4 | fail) only [qG4, h0]
  exact hK x _ hx
 ·simp (disch := first | exact qD4 | fail) only [qG4, h0]
  refine sAddG_spec fun o => ?_
  cases o with
  | true =>
   simp (disch := first | exact qD4 | fail) only [qG4]
   exact hK 0 _ (by decide)
  | false =>
   obtain ⟨n, hn, hl⟩ := natOf (bitU .andNot (((x + u) % 18446744073709551616 : Nat) : Int) (u : Int) (.inr (.inr (.inr rfl))))
   simp (disch := first | exact qD4 | fail) only [qG4, hn]
   exact hK n _ hl
def lenB : ByteArray := ⟨#[0, 1, 2, 2, 3, 3, 3, 3, 4, 4, 4, 4, 4, 4, 4, 4, 5, 5, 5, 5, 5, 5, 5, 5, 5, 5, 5, 5, 5, 5, 5, 5, 6, 6, 6, 6, 6, 6, 6, 6, 6, 6, 6, 6, 6, 6, 6, 6, 6, 6, 6, 6, 6, 6, 6, 6, 6, 6, 6, 6, 6, 6, 6, 6, 7, 7, 7, 7, 7, 7, 7, 7, 7, 7, 7, 7, 7, 7, 7, 7, 7, 7, 7, 7, 7, 7, 7, 7, 7, 7, 7, 7, 7, 7, 7, 7, 7, 7, 7, 7, 7, 7, 7, 7, 7, 7, 7, 7, 7, 7, 7, 7, 7, 7, 7, 7, 7, 7, 7, 7, 7, 7, 7, 7, 7, 7, 7, 7, 8, 8, 8, 8, 8, 8, 8, 8, 8, 8, 8, 8, 8, 8, 8, 8, 8, 8, 8, 8, 8, 8, 8, 8, 8, 8, 8, 8, 8, 8, 8, 8, 8, 8, 8, 8, 8, 8, 8, 8, 8, 8, 8, 8, 8, 8, 8, 8, 8, 8, 8, 8, 8, 8, 8, 8, 8, 8, 8, 8, 8, 8, 8, 8, 8, 8, 8, 8, 8, 8, 8, 8, 8, 8, 8, 8, 8, 8, 8, 8, 8, 8, 8, 8, 8, 8, 8, 8, 8, 8, 8, 8, 8, 8, 8, 8, 8, 8, 8, 8, 8, 8, 8, 8, 8, 8, 8, 8, 8, 8, 8, 8, 8, 8, 8, 8, 8, 8, 8, 8, 8, 8, 8, 8, 8, 8, 8, 8]⟩
theorem lenB_all : (List.range 256).all (fun v => match lenB[v]? with | some b => decide (b.toNat <= 8) && (decide (v < 16) || decide (5 <= b.toNat)) | none => false) = true := by kernel_rfl
theorem lenB_run {v : Nat} (hv : v < 256) : ∃ r : Nat, (r <= 8 /\ (16 <= v -> 5 <= r)) /\ ∀ w, (Instr.index 9 (.string lenB) (.int .u8 (v : Nat))).run Tryz.prog w = .ok (.int .u8 (r : Nat)) w := by
 have h := List.all_eq_true.1 lenB_all v (List.mem_range.2 hv)
 cases hb : lenB[v]? with
 | none => rw [hb] at h; exact absurd h (by simp)
 | some b =>
  rw [hb] at h
  simp only [Bool.and_eq_true, decide_eq_true_eq, Bool.or_eq_true] at h
  refine ⟨b.toNat, ⟨h.1, fun h16 => by rcases h.2 with h2 | h2 <;> omega⟩, fun w => ?_⟩
  have hu : Tryz.prog.underlying 9 = some .string := by kernel_rfl
  unfold Instr.index
  simp only [asIntOf, Sem.run_bind, Sem.run_pure, Result.andThen_ok, run_underlying hu]
  rw [if_pos (by omega), Int.toNat_natCast, hb]
  rfl
open Go.Fx
theorem qG5 : type_of% (And.intro @gen0 (And.intro (@gen1 Tryz.prog) (And.intro @gen2 (And.intro @rulesC (And.intro @rulesX (And.intro @rulesN (And.intro @rulesM (And.intro @litR (And.intro @bolR (And.intro (@numR Tryz.prog) (And.intro (@memR Tryz.prog) (And.intro @valR (And.intro @heapR (And.intro @updR (And.intro @intR (And.intro @decR (And.intro (@extR Tryz.prog) (And.intro (@slR Tryz.prog) (And.intro @segR (And.intro @thenR ((@pnR Tryz.prog)))))))))))))))))))))) := ⟨@gen0, (@gen1 Tryz.prog), @gen2, @rulesC, @rulesX, @rulesN, @rulesM, @litR, @bolR, (@numR Tryz.prog), (@memR Tryz.prog), @valR, @heapR, @updR, @intR, @decR, (@extR Tryz.prog), (@slR Tryz.prog), @segR, @thenR, (@pnR Tryz.prog)⟩
set_option maxRecDepth 100000
/-- words, as cells. -/
def wC (x : Int) : List Value := [.int .u64 x]
theorem wC_all (P : List Int) : ∀ r ∈ P.map wC, r.all (fun v => v.oneCell') = true := by
 intro r hr
 obtain ⟨l, -, rfl⟩ := List.mem_map.1 hr
 rfl
def dC (n : Nat) (va vb vt : Value) : List Value := [.int .i64 n, va, vb, vt]
theorem dC_0 (n : Nat) (va vb vt : Value) : (dC n va vb vt)[0]? = some (.int .i64 n) := rfl
theorem dC_1 (n : Nat) (va vb vt : Value) : (dC n va vb vt)[1]? = some va := rfl
theorem dC_2 (n : Nat) (va vb vt : Value) : (dC n va vb vt)[2]? = some vb := rfl
theorem dC_3 (n : Nat) (va vb vt : Value) : (dC n va vb vt)[3]? = some vt := rfl
theorem dC_sub (n : Nat) (va vb vt : Value) : sub (dC n va vb vt) 0 4 = dC n va vb vt := rfl
theorem dC_len (n : Nat) (va vb vt : Value) : (dC n va vb vt).length = 4 := by simp [dC]
theorem dC_all (n : Nat) (a1 a2 a3 : Option Addr) (n1 n2 n3 c1 c2 c3 : Nat) : (dC n (.slice a1 n1 c1) (.slice a2 n2 c2) (.slice a3 n3 c3)).all (fun v => v.oneCell') = true := by simp [dC]; exact ⟨rfl, rfl, rfl, rfl⟩
theorem dC_set1 (n : Nat) (va vb vt x : Value) : (dC n va vb vt).set 1 x = dC n x vb vt := rfl
theorem dC_set2 (n : Nat) (va vb vt x : Value) : (dC n va vb vt).set 2 x = dC n va x vt := rfl
theorem dC_set3 (n : Nat) (va vb vt x : Value) : (dC n va vb vt).set 3 x = dC n va vb x := rfl
theorem dC_over (n m : Nat) (a b c d e f : Value) : splice (dC n a b c) 0 (dC m d e f) = dC m d e f := rfl
theorem dC_over0 (m : Nat) (d e f : Value) : splice [.int .i64 0, .slice none 0 0, .slice none 0 0, .slice none 0 0] 0 (dC m d e f) = dC m d e f := rfl
theorem dC_put (m : Nat) (d e f : Value) : dC m d e f ++ List.drop (dC m d e f).length [.int .i64 0, .slice none 0 0, .slice none 0 0, .slice none 0 0] = dC m d e f := by simp [dC]
theorem dC_put2 (n m : Nat) (a b c d e f : Value) : dC m d e f ++ List.drop (dC m d e f).length (dC n a b c) = dC m d e f := by simp [dC]
theorem qZ16 : type_of% (And.intro @szR (And.intro @cq_len (And.intro @cq_all (And.intro @capC_len (And.intro @capC_all (And.intro @arC_len (And.intro @arC_all (And.intro @dC_len (@dC_all))))))))) := ⟨@szR, @cq_len, @cq_all, @capC_len, @capC_all, @arC_len, @arC_all, @dC_len, @dC_all⟩
theorem qD16 {p : Prop} (h : p := by first | assumption | omega | (simp only [qZ16] <;> omega) | rfl | decide) : p := h
theorem dBytes_spec {w : World} {t : Bool} {mt ad : Int} {K : Value -> World -> Prop} (hK : ∀ (f : Nat -> Int) w', Ext [] w w' -> K (.agg (arC 16 f).toArray) w') : callsK Tryz.prog 63 #[.agg (capC t mt ad).toArray] w K := by
 have hz : [Value.int .u8 0, .int .u8 0, .int .u8 0, .int .u8 0, .int .u8 0, .int .u8 0, .int .u8 0, .int .u8 0, .int .u8 0, .int .u8 0, .int .u8 0, .int .u8 0, .int .u8 0, .int .u8 0, .int .u8 0, .int .u8 0] = arC 16 fun _ => 0 := by rfl
 apply F63_ok
 unfold F63
 simp (disch := first | exact qD16 | fail) only [qG5, hz]
 refine loopT.intro (fun st w' => ∃ (k : Nat) (f : Nat -> Int), k <= 8 /\ st = [.int .i64 (k : Nat)] /\ w'.heap[w.heap.size]? = some (.cells (capC t mt ad).toArray 84 (0, 0)) /\ w'.heap[w.heap.size + 1]? = some (.cells (arC 16 fun _ => 0).toArray 152 (0, 0)) /\ w'.heap[w.heap.size + 1 + 1]? = some (.cells (arC 16 f).toArray 152 (0, 0)) /\ Ext [] w w')
  (fun st _ => match st with
   | [.int _ z] => 8 - z.toNat
   | _ => 0) ⟨0, fun _ => 0, by omega, rfl, by simp (disch := first | exact qD16 | fail) only [qG5], by simp (disch := first | exact qD16 | fail) only [qG5], by simp (disch := first | exact qD16 | fail) only [qG5], qX⟩ ?_
 rintro st w' ⟨k, f, hk, rfl, h1, h2, h3, hx⟩ _
 have l1 := lt_of_at h1
 have l2 := lt_of_at h2
 have l3 := lt_of_at h3
 have c1 : (capC t mt ad)[1]? = some (.int .u64 mt) := rfl
 have c2 : (capC t mt ad)[2]? = some (.int .u64 ad) := rfl
 by_cases h8 : k < 8
 ·have e8 : (8 + (k : Int)).toNat = 8 + k := by omega
  simp (disch := first | exact qD16 | fail) only [qG5, h1, h3, c1, c2, e8, arC_set]
  refine ⟨⟨k + 1, _, by omega, rfl, by (first | with_reducible rfl | assumption | (simp (disch := first | exact qD16 | fail) only [qG5, h1] <;> try rfl)), by (first | with_reducible rfl | assumption | (simp (disch := first | exact qD16 | fail) only [qG5, Nat.reduceAdd, Nat.reduceLeDiff, Int.reduceToNat, Int.reduceAdd, Int.reduceSub, Int.reduceLT, Int.reduceLE, Nat.reduceSub, Nat.reduceMul, Nat.reduceEqDiff, h2] <;> try rfl)), by first | exact upd_at (upd_at h3) | (first | with_reducible rfl | assumption | (simp (disch := first | exact qD16 | fail) only [qG5, Nat.reduceAdd, Nat.reduceLeDiff, Int.reduceToNat, Int.reduceAdd, Int.reduceSub, Int.reduceLT, Int.reduceLE, Nat.reduceSub, Nat.reduceMul, Nat.reduceEqDiff, h3] <;> try rfl)), qX⟩, by first | omega | (simp <;> omega)⟩
 ·simp (disch := first | exact qD16 | fail) only [qG5, h3, h2, arC_over, arC_tail, arC_sub]
  exact hK f _ qX
theorem appW {base : Nat} {v x : Value} {rows rows2 : List (List Value)} {w : World} {K : Value -> World -> Prop} (hown : OwnR w base 22 1 v rows) (hx : RowsAt w x 1 rows2) (h1 : ∀ r ∈ rows2, r.all (fun v => v.oneCell') = true)
  (hl : rows.length + rows2.length <= 1000000) (hbase : base <= w.heap.size) (hK : ∀ v' w', OwnR w' base 22 1 v' (rows ++ rows2) -> App base v w w' -> K v' w') : resV K ((Builtin.append_ #[32, 32] 32 #[v, x]).run Tryz.prog w) :=
 kV_appR Tryz.underlying32 (by kernel_rfl) (by omega) (bytes := 8) hown hx h1 (by simp only [maxLen]; omega) (by omega) hbase hK
theorem dUntag_spec {w : World} {n n1 c1 n2 c2 : Nat} {a1 a2 : Option Addr} {vt : Value} {T : List Int} (hT : RowsAt w vt 1 (T.map wC)) (hl : T.length <= 100000) {x : Int} {K : Value -> World -> Prop}
  (hK : ∀ (T' : List Int) vt' w', OwnR w' w.heap.size 22 1 vt' (T'.map wC) -> T'.length <= T.length -> Ext [] w w' -> K (.agg (dC n (.slice a1 n1 c1) (.slice a2 n2 c2) vt').toArray) w') :
  callsK Tryz.prog 92 #[.agg (dC n (.slice a1 n1 c1) (.slice a2 n2 c2) vt).toArray, .int .u64 x] w K := by
 obtain ⟨a3, c3, rfl⟩ := hT.len
 apply F92_ok
 unfold F92
 simp (disch := first | exact qD16 | fail) only [qG5, dC_sub, dC_3, dC_len]
 obtain ⟨vt0, hvt0⟩ : ∃ v, v = Value.slice a3 (T.map wC).length c3 := ⟨_, rfl⟩
 rw [<- hvt0] at hT ⊢
 have hx0 : Ext [] w ((w.alloc (.cells (dC n (.slice a1 n1 c1) (.slice a2 n2 c2) vt0).toArray 35)).alloc (.cells [.int .i64 0, .slice none 0 0, .slice none 0 0, .slice none 0 0].toArray 35)) := qX
 have g0 : ((w.alloc (.cells (dC n (.slice a1 n1 c1) (.slice a2 n2 c2) vt0).toArray 35)).alloc (.cells [.int .i64 0, .slice none 0 0, .slice none 0 0, .slice none 0 0].toArray 35)).heap[w.heap.size]? = some (.cells (dC n (.slice a1 n1 c1) (.slice a2 n2 c2) vt0).toArray 35 (0, 0)) := (alloc_ne (by simp only [szR]; omega)).trans (alloc_at rfl)
 have g1 : ((w.alloc (.cells (dC n (.slice a1 n1 c1) (.slice a2 n2 c2) vt0).toArray 35)).alloc (.cells [.int .i64 0, .slice none 0 0, .slice none 0 0, .slice none 0 0].toArray 35)).heap[w.heap.size + 1]? = some (.cells [.int .i64 0, .slice none 0 0, .slice none 0 0, .slice none 0 0].toArray 35 (0, 0)) := alloc_at (by simp only [szR])
 have hs0 : ((w.alloc (.cells (dC n (.slice a1 n1 c1) (.slice a2 n2 c2) vt0).toArray 35)).alloc (.cells [.int .i64 0, .slice none 0 0, .slice none 0 0, .slice none 0 0].toArray 35)).heap.size = w.heap.size + 2 := by simp only [szR]
 generalize (w.alloc (.cells (dC n (.slice a1 n1 c1) (.slice a2 n2 c2) vt0).toArray 35)).alloc (.cells [.int .i64 0, .slice none 0 0, .slice none 0 0, .slice none 0 0].toArray 35) = w1 at *
 have hT1 := hT.ext hx0 (by simp)
 refine loopT.intro (fun st w' => ∃ (k : Nat) (T' : List Int) (v : Value), k <= T.length /\ st = [v, .int .i64 (k : Nat)] /\ OwnR w' (w.heap.size + 2) 22 1 v (T'.map wC) /\ T'.length <= k /\ Ext [] w1 w')
  (fun st _ => match st with
   | [_, .int _ z] => T.length - z.toNat
   | _ => 0) ⟨0, [], _, by omega, rfl, OwnR.nil, by simp, Ext.refl⟩ ?_
 rintro st w' ⟨k, T', v, hk, rfl, hown, hle, hx⟩ _
 have h0 := hx.at g0 (by simp)
 have h1 := hx.at g1 (by simp)
 have l0 := lt_of_at h0
 have l1 := lt_of_at h1
 have e1 : ∀ w, (Builtin.len_ #[32] 3 #[vt0]).run Tryz.prog w = .ok (.int .i64 (T.length : Nat)) w := fun w => by
  have := hT.lenR (P := Tryz.prog) (t := 32) (ty := 3) Tryz.underlying32 w
  rwa [List.length_map] at this
 by_cases hkl : k < T.length
 ·obtain ⟨y, hy⟩ : ∃ y, T[k]? = some y := ⟨_, List.getElem?_eq_getElem hkl⟩
  have hr : (T.map wC)[k]? = some (wC y) := by rw [List.getElem?_map, hy]; rfl
  obtain ⟨b, o, l, E, f, hix, hb, hfit, hlt, hblk, hsub, hget⟩ := RowsAt.ixR (P := Tryz.prog) (t := 32) Tryz.underlying32 Tryz.sizeOf22 hT1 hr
  have gx := hget o 0 rfl (by omega)
  have ey : (wC y)[0]? = some (.int .u64 y) := rfl
  rw [ey] at gx
  have hb4 := hx.at hb (by simp)
  simp (disch := first | exact qD16 | fail) only [qG5, h0, dC_3, e1]
  refine joinL.intro fun J2 hJ2 => ?_
  have hnext : ∀ (v' : Value) (T2 : List Int) (w2 : World), OwnR w2 (w.heap.size + 2) 22 1 v' (T2.map wC) -> T2.length <= k + 1 -> Ext [] w1 w2 -> J2 [v'] w2 := by
   intro v' T2 w2 ho2 hl2 hx2
   apply hJ2
   intro _
   simp (disch := first | exact qD16 | fail) only [qG5]
   exact ⟨⟨k + 1, T2, v', by omega, rfl, ho2, hl2, hx2⟩, by first | omega | (simp <;> omega)⟩
  by_cases hne : y = x
  ·simp (disch := first | exact qD16 | fail) only [qG5, h0, dC_3, hix, hb4, gx, hne]
   exact hnext v T' w' hown (by omega) hx
  ·simp (disch := first | exact qD16 | fail) only [qG5, h0, dC_3, hix, hb4, gx, hne]
   refine appW (rows2 := [wC y]) (base := w.heap.size + 2) (hown.ext (Ext.alloc (S := []) Ext.refl _ _) (by simp)) (RowsAt.one (l := wC y) (by first | with_reducible rfl | assumption | (simp (disch := first | exact qD16 | fail) only [qG5] <;> rfl)) rfl) (wC_all [y]) (by simp; omega) (by simp only [szR]; have := hx.size; omega) fun v2 w2 ho2 hp2 => ?_
   have hx2 := hp2.ext w1 [] (by omega) (hx.alloc _ _)
   rw [show T'.map wC ++ [wC y] = (T' ++ [y]).map wC by simp] at ho2
   exact hnext v2 (T' ++ [y]) w2 ho2 (by simp; omega) hx2
 ·obtain rfl : k = T.length := by omega
  obtain ⟨a4, c4, rfl⟩ := hown.rows.len
  simp (disch := first | exact qD16 | fail) only [qG5, h0, dC_3, e1, dC_set3, h1, dC_sub, dC_over0, dC_put, dC_len, dC_all]
  have hxz : Ext [] w (World.upd (World.upd w' w.heap.size (dC n (.slice a1 n1 c1) (.slice a2 n2 c2) (.slice a4 (T'.map wC).length c4))) (w.heap.size + 1) (dC n (.slice a1 n1 c1) (.slice a2 n2 c2) (.slice a4 (T'.map wC).length c4))) := by
   have := hx0.trans hx (by simp)
   exact qX
  have hxy : Ext [w.heap.size, w.heap.size + 1] w' (World.upd (World.upd w' w.heap.size (dC n (.slice a1 n1 c1) (.slice a2 n2 c2) (.slice a4 (T'.map wC).length c4))) (w.heap.size + 1) (dC n (.slice a1 n1 c1) (.slice a2 n2 c2) (.slice a4 (T'.map wC).length c4))) := qX
  refine hK T' _ _ ((hown.ext hxy ?_).low (by omega)) hle hxz
  intro b hb hm
  have := hown.block b hb
  simp at hm
  omega
/-- the document's memory, where its slices can be read. -/
structure DZ (w : World) (c n : Nat) (va vb vt : Value) : Prop where
 a : ∃ R : List (List Value), RowsAt w va 1 R /\ (∀ r ∈ R, r.all (fun v => v.oneCell') = true) /\ R.length <= c
 b : ∃ R : List (List Value), RowsAt w vb 1 R /\ (∀ r ∈ R, r.all (fun v => v.oneCell') = true) /\ R.length <= c
 t : ∃ T : List Int, RowsAt w vt 1 (T.map wC) /\ T.length <= c
 lt : ∀ k, blockOf va = some k ∨ blockOf vb = some k ∨ blockOf vt = some k -> k < w.heap.size
theorem DZ.form {w : World} {c n : Nat} {va vb vt : Value} (h : DZ w c n va vb vt) : ∃ a1 n1 c1 a2 n2 c2 a3 n3 c3, va = .slice a1 n1 c1 /\ vb = .slice a2 n2 c2 /\ vt = .slice a3 n3 c3 := by
 obtain ⟨R1, h1, -⟩ := h.a
 obtain ⟨R2, h2, -⟩ := h.b
 obtain ⟨R3, h3, -⟩ := h.t
 obtain ⟨a1, c1, e1⟩ := h1.len
 obtain ⟨a2, c2, e2⟩ := h2.len
 obtain ⟨a3, c3, e3⟩ := h3.len
 exact ⟨_, _, _, _, _, _, _, _, _, e1, e2, e3⟩
theorem DZ.ext {w w' : World} {c n : Nat} {va vb vt : Value} {S : List Nat} (h : DZ w c n va vb vt) (hx : Ext S w w') (hs : ∀ k, blockOf va = some k ∨ blockOf vb = some k ∨ blockOf vt = some k -> k ∉ S) : DZ w' c n va vb vt := by
 obtain ⟨⟨R1, h1, q1⟩, ⟨R2, h2, q2⟩, ⟨R3, h3, q3⟩, hl⟩ := h
 exact ⟨⟨R1, h1.at hx fun b hb => hs b (.inl hb), q1⟩, ⟨R2, h2.at hx fun b hb => hs b (.inr (.inl hb)), q2⟩, ⟨R3, h3.at hx fun b hb => hs b (.inr (.inr hb)), q3⟩, fun k hk => Nat.lt_of_lt_of_le (hl k hk) hx.size⟩
theorem DZ.le {w : World} {c c' n : Nat} {va vb vt : Value} (h : DZ w c n va vb vt) (hc : c <= c') : DZ w c' n va vb vt := by
 obtain ⟨⟨R1, h1, q1, r1⟩, ⟨R2, h2, q2, r2⟩, ⟨R3, h3, r3⟩, hl⟩ := h
 exact ⟨⟨R1, h1, q1, by omega⟩, ⟨R2, h2, q2, by omega⟩, ⟨R3, h3, by omega⟩, hl⟩
theorem appB {base : Nat} {v x : Value} {rows rows2 : List (List Value)} {w : World} {K : Value -> World -> Prop} (hown : OwnR w base 5 1 v rows) (hx : RowsAt w x 1 rows2) (h1 : ∀ r ∈ rows2, r.all (fun v => v.oneCell') = true)
  (hl : rows.length + rows2.length <= 1000000) (hbase : base <= w.heap.size) (hK : ∀ v' w', OwnR w' base 5 1 v' (rows ++ rows2) -> App base v w w' -> K v' w') : resV K ((Builtin.append_ #[33, 33] 33 #[v, x]).run Tryz.prog w) :=
 kV_appR Tryz.underlying33 (by kernel_rfl) (by omega) (bytes := 1) hown hx h1 (by simp only [maxLen]; omega) (by omega) hbase hK
set_option maxHeartbeats 1000000 in
theorem dLay_spec {w : World} {n c : Nat} {a b : Int} {va vb vt : Value} (h : DZ w c n va vb vt) (hc : c <= 90000) {K : Value -> World -> Prop}
  (hK : ∀ va' vb' vt' w', DZ w' (c + 1) n va' vb' vt' -> (∃ T : List Int, OwnR w' w.heap.size 22 1 vt' (T.map wC) /\ T.length <= c) -> (∀ k, blockOf va' = some k ∨ blockOf vb' = some k ∨ blockOf vt' = some k -> w.heap.size <= k) -> (∀ i j, blockOf va' = some i ∨ blockOf vb' = some i -> blockOf vt' = some j -> i < j) -> Ext [] w w' -> K (.agg (dC n va' vb' vt').toArray) w') : callsK Tryz.prog 59 #[.agg (dC n va vb vt).toArray, .int .u64 a, .int .u8 b] w K := by
 obtain ⟨a1, n1, c1, a2, n2, c2, a3, n3, c3, rfl, rfl, rfl⟩ := h.form
 obtain ⟨⟨R1, hA, q1, r1⟩, ⟨R2, hB, q2, r2⟩, ⟨T, hT, r3⟩, -⟩ := h
 apply F59_ok
 unfold F59
 simp (disch := first | exact qD16 | fail) only [qG5, dC_1, dC_2, dC_sub, dC_set1, dC_set2]
 refine appW (rows := []) (rows2 := R1) (base := w.heap.size + 1 + 1) (OwnR.empty (by first | with_reducible rfl | assumption | (simp (disch := first | exact qD16 | fail) only [qG5] <;> rfl)) (Nat.le_refl _)) (hA.ext (S := []) qX (by simp)) q1 (by simp; omega) (by simp only [szR]; omega) fun v10 w1 ho1 hp1 => ?_
 have hx1 := hp1.ext _ [] (by simp only [szR]; omega) (Ext.alloc (S := []) Ext.refl _ _)
 have hs1 := hx1.size
 simp only [szR] at hs1
 have hk1 := kept0 hx1
 simp (disch := first | exact qD16 | fail) only [qG5, hk1]
 refine appW (rows2 := [wC a]) (base := w.heap.size + 1 + 1) (ho1.ext (Ext.alloc (S := []) Ext.refl _ _) (by simp)) (RowsAt.one (l := wC a) (by first | with_reducible rfl | assumption | (simp (disch := first | exact qD16 | fail) only [qG5] <;> rfl)) rfl) (wC_all [a]) (by simp; omega) (by simp only [szR]; omega) fun v13 w2 ho2 hp2 => ?_
 have hx2 := hp2.ext _ [] (by simp only [szR]; omega) (hx1.alloc _ _)
 have hs2 := hx2.size
 simp only [szR] at hs2
 have hk2 := kept0 hx2
 obtain ⟨a13, c13, rfl⟩ := ho2.rows.len
 have hxw2 : Ext [] w w2 := Ext.trans (S := []) qX hx2 (by simp)
 have hb8 : ∀ (x : Int), (([Value.int .u8 x] : List Value)).all (fun v => v.oneCell') = true := fun _ => rfl
 simp (disch := first | exact qD16 | fail) only [qG5, hk2, dC_1, dC_2, dC_set1]
 refine appB (rows := []) (rows2 := R2) (base := w2.heap.size) (OwnR.empty (by first | with_reducible rfl | assumption | (simp (disch := first | exact qD16 | fail) only [qG5] <;> rfl)) (Nat.le_refl _)) (hB.ext (S := []) qX (by simp)) q2 (by simp; omega) (by simp only [szR]; omega) fun v18 w3 ho3 hp3 => ?_
 have hx3 := hp3.ext _ [] (by simp only [szR]; omega) (Ext.alloc (S := []) Ext.refl _ _)
 have hs3 := hx3.size
 simp only [szR] at hs3
 have hk3 := kept0 hx3
 simp (disch := first | exact qD16 | fail) only [qG5, hk3, hk2]
 refine appB (rows2 := [[.int .u8 b]]) (base := w2.heap.size) (ho3.ext (Ext.alloc (S := []) Ext.refl _ _) (by simp)) (RowsAt.one (l := [.int .u8 b]) (by first | with_reducible rfl | assumption | (simp (disch := first | exact qD16 | fail) only [qG5] <;> rfl)) rfl) (fun r hr => by simp at hr; subst hr; rfl) (by simp; omega) (by simp only [szR]; omega) fun v21 w4 ho4 hp4 => ?_
 have hx4 := hp4.ext _ [] (by simp only [szR]; omega) (hx3.alloc _ _)
 have hs4 := hx4.size
 simp only [szR] at hs4
 have hk4 := kept0 hx4
 obtain ⟨a21, c21, rfl⟩ := ho4.rows.len
 have hxw4 : Ext [] w w4 := Ext.trans (S := []) qX hx4 (by simp)
 simp (disch := first | exact qD16 | fail) only [qG5, hk4, hk3, hk2, dC_sub, dC_set2]
 have hT4 : ∀ w5, Ext [] w w5 -> RowsAt w5 (.slice a3 n3 c3) 1 (T.map wC) := fun w5 hx => hT.ext hx (by simp)
 refine dUntag_spec (T := T) (hT.ext (S := []) qX (by simp)) (by omega) fun T2 vt2 w5 ho5 hl5 hx5 => ?_
 have hs5 := hx5.size
 simp only [szR] at hs5 ho5
 have hk5 := kept0 hx5
 obtain ⟨a5, c5, rfl⟩ := ho5.rows.len
 simp (disch := first | exact qD16 | fail) only [qG5, hk5, hk4, hk3, hk2, hk1, dC_over0, dC_put, dC_sub]
 have hxw5 : Ext [] w w5 := Ext.trans (S := []) qX hx5 (by simp)
 have hra := ho2.rows
 have hrb := ho4.rows
 have hrt := ho5.rows
 simp only [List.nil_append] at hra hrb
 have hs5' := hx5.size
 simp only [szR] at hs5'
 have hxz : Ext [w.heap.size + 1] w5 (World.upd w5 (w.heap.size + 1) (dC n (.slice a13 ([] ++ R1 ++ [wC a]).length c13) (.slice a21 ([] ++ R2 ++ [[Value.int .u8 b]]).length c21) (.slice a5 (List.map wC T2).length c5))) := qX
 refine hK _ _ _ _ ⟨?_, ?_, ?_, ?_⟩ ⟨T2, ?_, by omega⟩ ?_ ?_ qX
 ·refine ⟨R1 ++ [wC a], ?_, fun r hr => ?_, by simp; omega⟩
  ·have hy4 : Ext [w.heap.size, w.heap.size + 1] w2 w4 := Ext.trans qX hx4 (by simp)
   have hy5 : Ext [w.heap.size, w.heap.size + 1] w2 w5 := Ext.trans qX hx5 (by simp)
   refine hra.at (S := [w.heap.size, w.heap.size + 1]) qX fun k hk hm => ?_
   have := ho2.block k hk
   simp at hm
   omega
  ·rw [List.mem_append] at hr
   exact hr.elim (q1 r) (fun h => wC_all [a] r (by simpa using h))
 ·refine ⟨R2 ++ [[.int .u8 b]], ?_, fun r hr => ?_, by simp; omega⟩
  ·have hy5 : Ext [w.heap.size, w.heap.size + 1] w4 w5 := Ext.trans qX hx5 (by simp)
   refine hrb.at (S := [w.heap.size, w.heap.size + 1]) qX fun k hk hm => ?_
   have := ho4.block k hk
   simp at hm
   omega
  ·rw [List.mem_append] at hr
   refine hr.elim (q2 r) (fun h => ?_)
   simp at h
   subst h
   rfl
 ·refine ⟨T2, ?_, by omega⟩
  refine hrt.at hxz fun k hk hm => ?_
  have := ho5.block k hk
  simp at hm
  omega
 ·intro k hk
  have hsz := hxz.size
  rcases hk with hk | hk | hk
  ·have := ho2.blt k hk
   omega
  ·have := ho4.blt k hk
   omega
  ·have := ho5.blt k hk
   omega
 ·refine (ho5.ext hxz fun k hk hm => ?_).low (by omega)
  have := ho5.block k hk
  simp at hm
  omega
 ·intro k hk
  rcases hk with hk | hk | hk
  ·have := ho2.block k hk
   omega
  ·have := ho4.block k hk
   omega
  ·have := ho5.block k hk
   omega
 ·intro i j hi hj
  have h5 := ho5.block j hj
  rcases hi with hi | hi
  ·have := ho2.blt i hi
   omega
  ·have := ho4.blt i hi
   omega
theorem dSize_spec {w : World} {n : Nat} {va vb vt : Value} (hn : n <= 1000) {K : Value -> World -> Prop} (hK : ∀ w', Ext [] w w' -> K (.int .u64 (n * 4096 : Nat)) w') : callsK Tryz.prog 62 #[.agg (dC n va vb vt).toArray] w K := by
 have e : (n : Int) * 4096 = ((n * 4096 : Nat) : Int) := by omega
 apply F62_ok
 unfold F62
 simp (disch := first | exact qD16 | fail) only [qG5, e, dC_0]
 exact hK _ qX
theorem dMay_spec {w : World} {n a : Nat} {va vb vt : Value} (hn : n <= 1000) (h8 : a % 4 = 0) (ha : a < n * 4096) {K : Value -> World -> Prop} (hK : ∀ w', Ext [] w w' -> K (.bool true) w') : callsK Tryz.prog 58 #[.agg (dC n va vb vt).toArray, .int .u64 a, .int .i64 4] w K := by
 apply F58_ok
 unfold F58
 have e0 : (a : Int) % 4 = 0 := by omega
 simp (disch := first | exact qD16 | fail) only [qG5, joinR, dC_sub, e0]
 refine dSize_spec hn fun w1 hx1 => ?_
 simp (disch := first | exact qD16 | fail) only [qG5, joinR]
 exact hK _ (Ext.trans (S := []) qX hx1 (by simp))
theorem dNew_spec {w : World} {n : Nat} (hn : 1 <= n /\ n <= 64) {K : Value -> World -> Prop} (hK : ∀ w', DZ w' 0 n (.slice none 0 0) (.slice none 0 0) (.slice none 0 0) -> Ext [] w w' -> K (.tuple #[.agg (dC n (.slice none 0 0) (.slice none 0 0) (.slice none 0 0)).toArray, .int .i64 0]) w') :
  callsK Tryz.prog 22 #[.int .i64 n] w K := by
 apply F22_ok
 unfold F22
 simp (disch := first | exact qD16 | fail) only [qG5, Nat.reduceAdd, joinBR]
 refine hK _ ⟨⟨[], OwnR.nil.rows (base := 0) (e := 5), by simp, by simp⟩, ⟨[], OwnR.nil.rows (base := 0) (e := 5), by simp, by simp⟩, ⟨[], OwnR.nil.rows (base := 0) (e := 5), by simp⟩, by simp [blockOf]⟩ qX
set_option maxHeartbeats 1000000 in
theorem dStore_spec {w : World} {n c a x : Nat} {va vb vt : Value} (h : DZ w c n va vb vt) (hc : c <= 80000) (hn : n <= 1000) (h8 : a % 4 = 0) (ha : a < n * 4096) {K : Value -> World -> Prop}
  (hK : ∀ va' vb' vt' w', DZ w' (c + 4) n va' vb' vt' -> (∀ k, blockOf va' = some k ∨ blockOf vb' = some k ∨ blockOf vt' = some k -> w.heap.size <= k) -> Ext [] w w' -> K (.tuple #[.agg (dC n va' vb' vt').toArray, .int .i64 0]) w') : callsK Tryz.prog 24 #[.agg (dC n va vb vt).toArray, .int .u64 a, .int .i64 4, .int .u64 x] w K := by
 apply F24_ok
 unfold F24
 have hx0 : Ext [] w ((w.alloc (.cells (dC n va vb vt).toArray 35)).alloc (.cells #[.int .i64 0, .slice none 0 0, .slice none 0 0, .slice none 0 0] 35)) := qX
 simp (disch := first | exact qD16 | fail) only [qG5, dC_sub]
 refine dMay_spec hn h8 ha fun w1 hx1 => ?_
 have hx01 := hx0.trans hx1 (by simp)
 have g0 : w1.heap[w.heap.size]? = some (.cells (dC n va vb vt).toArray 35 (0, 0)) := hx1.at ((alloc_ne (by simp only [szR]; omega)).trans (alloc_at rfl)) (by simp)
 have g1 : w1.heap[w.heap.size + 1]? = some (.cells [.int .i64 0, .slice none 0 0, .slice none 0 0, .slice none 0 0].toArray 35 (0, 0)) := hx1.at (alloc_at (by simp only [szR])) (by simp)
 have hlt := h.lt
 simp (disch := first | exact qD16 | fail) only [qG5]
 refine loopT.intro (fun st w' => ∃ (k : Nat) (va' vb' vt' : Value), k <= 4 /\ st = [.int .i64 (k : Nat)] /\ w'.heap[w.heap.size]? = some (.cells (dC n va' vb' vt').toArray 35 (0, 0)) /\ w'.heap[w.heap.size + 1]? = some (.cells [.int .i64 0, .slice none 0 0, .slice none 0 0, .slice none 0 0].toArray 35 (0, 0)) /\
   DZ w' (c + k) n va' vb' vt' /\ (∀ b, blockOf va' = some b ∨ blockOf vb' = some b ∨ blockOf vt' = some b -> b ≠ w.heap.size /\ b ≠ w.heap.size + 1) /\ (0 < k -> ∀ b, blockOf va' = some b ∨ blockOf vb' = some b ∨ blockOf vt' = some b -> w.heap.size <= b) /\ Ext [] w w')
  (fun st _ => match st with
   | [.int _ z] => 4 - z.toNat
   | _ => 0) ⟨0, va, vb, vt, by omega, rfl, g0, g1, h.ext hx01 (by simp), fun b hb => by have := hlt b hb; omega, fun h => absurd h (by omega), hx01⟩ ?_
 rintro st w' ⟨k, va', vb', vt', hk, rfl, hc2, hd2, hr, hbk, hbf, hx⟩ _
 obtain ⟨a1, n1, c1, a2, n2, c2, a3, n3, c3, rfl, rfl, rfl⟩ := hr.form
 have l1 := lt_of_at hc2
 have l2 := lt_of_at hd2
 by_cases hk8 : k < 4
 ·have e1 : (a : Int) + k = ((a + k : Nat) : Int) := by omega
  have e2 : (8 * (k : Int)).toNat = 8 * k := by omega
  simp (disch := first | exact qD16 | fail) only [qG5, hc2, dC_sub, e1, e2]
  refine dLay_spec hr (by omega) fun va3 vb3 vt3 w3 h3 _ hb3 _ hx3 => ?_
  obtain ⟨a4, n4, c4, a5, n5, c5, a6, n6, c6, rfl, rfl, rfl⟩ := h3.form
  have hc3 := hx3.at hc2 (by simp)
  have hd3 := hx3.at hd2 (by simp)
  have hs3 := hx3.size
  simp (disch := first | exact qD16 | fail) only [qG5, hc3, dC_over, dC_put2]
  have hxu : Ext [w.heap.size] w3 (World.upd w3 w.heap.size (dC n (.slice a4 n4 c4) (.slice a5 n5 c5) (.slice a6 n6 c6))) := by
   have := lt_of_at hc3
   exact qX
  refine ⟨⟨k + 1, _, _, _, by omega, rfl, by first | exact upd_at hc3 | (first | with_reducible rfl | assumption | (simp (disch := first | exact qD16 | fail) only [qG5, Nat.reduceAdd, Nat.reduceLeDiff, Int.reduceToNat, Int.reduceAdd, Int.reduceSub, Int.reduceLT, Int.reduceLE, Nat.reduceSub, Nat.reduceMul, Nat.reduceEqDiff, hc3] <;> try rfl)), by (first | with_reducible rfl | assumption | (simp (disch := first | exact qD16 | fail) only [qG5, Nat.reduceAdd, Nat.reduceLeDiff, Int.reduceToNat, Int.reduceAdd, Int.reduceSub, Int.reduceLT, Int.reduceLE, Nat.reduceSub, Nat.reduceMul, Nat.reduceEqDiff, hd3] <;> try rfl)), h3.ext hxu ?_, ?_, ?_, ?_⟩, by first | omega | (simp <;> omega)⟩
  ·intro b hb hm
   have := hb3 b hb
   simp at hm
   omega
  ·intro b hb
   have := hb3 b hb
   omega
  ·intro _ b hb
   have := hb3 b hb
   omega
  ·have hx4 := hx.trans hx3 (by simp)
   exact qX
 ·obtain rfl : k = 4 := by omega
  simp (disch := first | exact qD16 | fail) only [qG5, Int.reduceLT, hc2, hd2, dC_sub, dC_over0, dC_put]
  have hxu : Ext [w.heap.size + 1] w' (World.upd w' (w.heap.size + 1) (dC n (.slice a1 n1 c1) (.slice a2 n2 c2) (.slice a3 n3 c3))) := qX
  refine hK _ _ _ _ (hr.ext hxu ?_) (hbf (by omega)) qX
  intro b hb hm
  have := hbk b hb
  simp at hm
  omega
theorem arC_put (n : Nat) (f g : Nat -> Int) : arC n f ++ List.drop (arC n f).length (arC n g) = arC n f := by rw [arC_len, arC_tail]
theorem cq_capC (y : Cq) : cq y = capC y.t y.m y.a := rfl
set_option maxHeartbeats 1000000 in
theorem dStoreCap_spec {w : World} {n c a : Nat} {y : Cq} {va vb vt : Value} (h : DZ w c n va vb vt) (hc : c <= 80000) (hn : n <= 1000) (h16 : a % 16 = 0) (ha : a < n * 4096) {K : Value -> World -> Prop}
  (hK : ∀ va' vb' vt' w', DZ w' (c + 17) n va' vb' vt' -> (∀ k, blockOf va' = some k ∨ blockOf vb' = some k ∨ blockOf vt' = some k -> w.heap.size <= k) -> Ext [] w w' -> K (.tuple #[.agg (dC n va' vb' vt').toArray, .int .i64 0]) w') : callsK Tryz.prog 26 #[.agg (dC n va vb vt).toArray, .int .u64 a, .agg (cq y).toArray] w K := by
 apply F26_ok
 unfold F26
 have e0 : (a : Int) % 16 = 0 := by omega
 have hlt := h.lt
 have hx0 : Ext [] w (((w.alloc (.cells (dC n va vb vt).toArray 35)).alloc (.cells (cq y).toArray 84)).alloc (.cells #[.int .i64 0, .slice none 0 0, .slice none 0 0, .slice none 0 0] 35)) := qX
 have g0 : (((w.alloc (.cells (dC n va vb vt).toArray 35)).alloc (.cells (cq y).toArray 84)).alloc (.cells #[.int .i64 0, .slice none 0 0, .slice none 0 0, .slice none 0 0] 35)).heap[w.heap.size]? = some (.cells (dC n va vb vt).toArray 35 (0, 0)) := (alloc_ne (by simp only [szR]; omega)).trans ((alloc_ne (by simp only [szR]; omega)).trans (alloc_at rfl))
 have g1 : (((w.alloc (.cells (dC n va vb vt).toArray 35)).alloc (.cells (cq y).toArray 84)).alloc (.cells #[.int .i64 0, .slice none 0 0, .slice none 0 0, .slice none 0 0] 35)).heap[w.heap.size + 1]? = some (.cells (cq y).toArray 84 (0, 0)) := (alloc_ne (by simp only [szR]; omega)).trans (alloc_at (by simp only [szR]))
 have g2 : (((w.alloc (.cells (dC n va vb vt).toArray 35)).alloc (.cells (cq y).toArray 84)).alloc (.cells #[.int .i64 0, .slice none 0 0, .slice none 0 0, .slice none 0 0] 35)).heap[w.heap.size + 2]? = some (.cells [.int .i64 0, .slice none 0 0, .slice none 0 0, .slice none 0 0].toArray 35 (0, 0)) := alloc_at (by simp only [szR])
 have ez : w.heap.size + 1 + 1 = w.heap.size + 2 := rfl
 simp (disch := first | exact qD16 | fail) only [qG5, joinR, dC_sub, cq_sub, e0]
 refine dSize_spec hn fun w1 hx1 => ?_
 replace g0 := hx1.at g0 (by simp)
 replace g1 := hx1.at g1 (by simp)
 replace g2 := hx1.at g2 (by simp)
 have hx01 := hx0.trans hx1 (by simp)
 have lg1 := lt_of_at g1
 rw [ez]
 simp (disch := first | exact qD16 | fail) only [qG5, joinR, g1, cq_sub]
 rw [cq_capC]
 refine dBytes_spec fun f w2 hx2 => ?_
 replace g0 := hx2.at g0 (by simp)
 replace g1 := hx2.at g1 (by simp)
 replace g2 := hx2.at g2 (by simp)
 replace hx01 := hx01.trans hx2 (by simp)
 replace lg1 := lt_of_at g2
 have hz : [Value.int .u8 0, .int .u8 0, .int .u8 0, .int .u8 0, .int .u8 0, .int .u8 0, .int .u8 0, .int .u8 0, .int .u8 0, .int .u8 0, .int .u8 0, .int .u8 0, .int .u8 0, .int .u8 0, .int .u8 0, .int .u8 0] = arC 16 fun _ => 0 := by rfl
 simp (disch := first | exact qD16 | fail) only [qG5, hz, arC_over, arC_put]
 obtain ⟨b8, hb8⟩ : ∃ b8, b8 = w2.heap.size := ⟨_, rfl⟩
 have hxa : Ext [] w2 (w2.alloc (.cells (arC 16 f).toArray 152)) := Ext.alloc Ext.refl _ _
 have g8 : (w2.alloc (.cells (arC 16 f).toArray 152)).heap[b8]? = some (.cells (arC 16 f).toArray 152 (0, 0)) := alloc_at hb8
 rw [<- hb8]
 replace g0 := hxa.at g0 (by simp)
 replace g1 := hxa.at g1 (by simp)
 replace g2 := hxa.at g2 (by simp)
 replace hx01 := hx01.trans hxa (by simp)
 have hw8 : w.heap.size + 2 < b8 := by omega
 generalize w2.alloc (.cells (arC 16 f).toArray 152) = w3 at *
 refine loopT.intro (fun st w' => ∃ (k : Nat) (va' vb' vt' : Value), k <= 16 /\ st = [.int .i64 (k : Nat)] /\ w'.heap[w.heap.size]? = some (.cells (dC n va' vb' vt').toArray 35 (0, 0)) /\ w'.heap[w.heap.size + 1]? = some (.cells (cq y).toArray 84 (0, 0)) /\ w'.heap[w.heap.size + 2]? = some (.cells [.int .i64 0, .slice none 0 0, .slice none 0 0, .slice none 0 0].toArray 35 (0, 0)) /\ w'.heap[b8]? = some (.cells (arC 16 f).toArray 152 (0, 0)) /\
   DZ w' (c + k) n va' vb' vt' /\ (∀ b, blockOf va' = some b ∨ blockOf vb' = some b ∨ blockOf vt' = some b -> b < w.heap.size ∨ b8 < b) /\ (0 < k -> (∃ T : List Int, OwnR w' (b8 + 1) 22 1 vt' (T.map wC) /\ T.length <= c + k) /\ (∀ i j, blockOf va' = some i ∨ blockOf vb' = some i -> blockOf vt' = some j -> i < j) /\ ∀ b, blockOf va' = some b ∨ blockOf vb' = some b ∨ blockOf vt' = some b -> b8 < b) /\ Ext [] w w')
  (fun st _ => match st with
   | [.int _ z] => 16 - z.toNat
   | _ => 0) ⟨0, va, vb, vt, by omega, rfl, g0, g1, g2, g8, h.ext hx01 (by simp), fun b hb => by have := hlt b hb; omega, fun h => absurd h (by omega), hx01⟩ ?_
 rintro st w' ⟨k, va', vb', vt', hk, rfl, h0, h1, h2, h8, hr, hbk, hbf, hx⟩ _
 obtain ⟨a1, n1, c1, a2, n2, c2, a3, n3, c3, rfl, rfl, rfl⟩ := hr.form
 have l0 := lt_of_at h0
 have l1 := lt_of_at h1
 have l2 := lt_of_at h2
 have l8 := lt_of_at h8
 by_cases hk8 : k < 16
 ·have e1 : (a : Int) + k = ((a + k : Nat) : Int) := by omega
  have ef := arC_get (f := f) hk8
  simp (disch := first | exact qD16 | fail) only [qG5, h0, h8, dC_sub, e1, ef]
  have hxd : Ext [] w' w'.drew := qX
  refine dLay_spec (hr.ext hxd (by simp)) (by omega) fun va3 vb3 vt3 w3 h3 ht3 hb3 hd3 hx3' => ?_
  have hsd : w'.drew.heap.size = w'.heap.size := rfl
  have hx3 := hxd.trans hx3' (by simp)
  obtain ⟨a4, n4, c4, a5, n5, c5, a6, n6, c6, rfl, rfl, rfl⟩ := h3.form
  have k0 := hx3.at h0 (by simp)
  have k1 := hx3.at h1 (by simp)
  have k2 := hx3.at h2 (by simp)
  have k8 := hx3.at h8 (by simp)
  have hs3 := hx3.size
  simp (disch := first | exact qD16 | fail) only [qG5, k0, dC_over, dC_put2]
  have hxu : Ext [w.heap.size] w3 (World.upd w3 w.heap.size (dC n (.slice a4 n4 c4) (.slice a5 n5 c5) (.slice a6 n6 c6))) := by
   have := lt_of_at k0
   exact qX
  have hne : ∀ b, blockOf (.slice a4 n4 c4) = some b ∨ blockOf (.slice a5 n5 c5) = some b ∨ blockOf (.slice a6 n6 c6) = some b -> b8 < b := fun b hb => by
   have := hb3 b hb
   omega
  refine ⟨⟨k + 1, _, _, _, by omega, rfl, by first | exact upd_at k0 | (first | with_reducible rfl | assumption | (simp (disch := first | exact qD16 | fail) only [qG5, Nat.reduceAdd, Nat.reduceLeDiff, Int.reduceToNat, Int.reduceAdd, Int.reduceSub, Int.reduceLT, Int.reduceLE, Nat.reduceSub, Nat.reduceMul, Nat.reduceEqDiff, k0] <;> try rfl)), by (first | with_reducible rfl | assumption | (simp (disch := first | exact qD16 | fail) only [qG5, Nat.reduceAdd, Nat.reduceLeDiff, Int.reduceToNat, Int.reduceAdd, Int.reduceSub, Int.reduceLT, Int.reduceLE, Nat.reduceSub, Nat.reduceMul, Nat.reduceEqDiff, k1] <;> try rfl)), by (first | with_reducible rfl | assumption | (simp (disch := first | exact qD16 | fail) only [qG5, Nat.reduceAdd, Nat.reduceLeDiff, Int.reduceToNat, Int.reduceAdd, Int.reduceSub, Int.reduceLT, Int.reduceLE, Nat.reduceSub, Nat.reduceMul, Nat.reduceEqDiff, k2] <;> try rfl)), by first | exact (upd_ne (by omega)).trans k8 | (first | with_reducible rfl | assumption | (simp (disch := first | exact qD16 | fail) only [qG5, Nat.reduceAdd, Nat.reduceLeDiff, Int.reduceToNat, Int.reduceAdd, Int.reduceSub, Int.reduceLT, Int.reduceLE, Nat.reduceSub, Nat.reduceMul, Nat.reduceEqDiff, k8] <;> try rfl)), h3.ext hxu ?_, fun b hb => .inr (hne b hb), fun _ => ⟨?_, hd3, hne⟩, ?_⟩, by first | omega | (simp <;> omega)⟩
  ·intro b hb hm
   have := hne b hb
   simp at hm
   omega
  ·refine Exists.elim ht3 fun T hT => ⟨T, (hT.1.ext hxu ?_).low (by omega), by omega⟩
   intro b hb hm
   have := hne b (.inr (.inr hb))
   simp at hm
   omega
  ·have hx4 := hx.trans hx3 (by simp)
   exact qX
 ·obtain rfl : k = 16 := by omega
  obtain ⟨⟨T, hT, hTl⟩, hdj, hfr⟩ := hbf (by omega)
  simp (disch := first | exact qD16 | fail) only [qG5]
  refine joinL.intro fun J4 hJ4 => ?_
  have hend : ∀ (v3 : Value) (T3 : List Int) (w4 : World), (∃ a n c, v3 = .slice a n c) -> w4.heap[w.heap.size]? = some (.cells (dC n (.slice a1 n1 c1) (.slice a2 n2 c2) v3).toArray 35 (0, 0)) -> w4.heap[w.heap.size + 2]? = some (.cells [.int .i64 0, .slice none 0 0, .slice none 0 0, .slice none 0 0].toArray 35 (0, 0)) -> DZ w4 (c + 17) n (.slice a1 n1 c1) (.slice a2 n2 c2) v3 -> (∀ b, blockOf v3 = some b -> b8 < b) -> Ext [] w w4 -> J4 [] w4 := by
   intro v3 T3 w4 hf k0 k2 hd hb3 hx4
   obtain ⟨a6, n6, c6, rfl⟩ := hf
   apply hJ4
   intro _
   have lk0 := lt_of_at k0
   have lk2 := lt_of_at k2
   rw [ez]
   simp (disch := first | exact qD16 | fail) only [qG5, k0, k2, dC_sub, dC_over0, dC_put]
   have hxu : Ext [w.heap.size + 2] w4 (World.upd w4 (w.heap.size + 2) (dC n (.slice a1 n1 c1) (.slice a2 n2 c2) (.slice a6 n6 c6))) := qX
   have hne : ∀ b, blockOf (.slice a1 n1 c1) = some b ∨ blockOf (.slice a2 n2 c2) = some b ∨ blockOf (.slice a6 n6 c6) = some b -> b8 < b := fun b hb => by
    rcases hb with hb | hb | hb
    ·exact hfr b (.inl hb)
    ·exact hfr b (.inr (.inl hb))
    ·exact hb3 b hb
   refine hK _ _ _ _ (hd.ext hxu ?_) (fun b hb => ?_) qX
   ·intro b hb hm
    have := hne b hb
    simp at hm
    omega
   ·have := hne b hb
    omega
  have ct : (cq y)[0]? = some (.bool y.t) := rfl
  simp (disch := first | exact qD16 | fail) only [qG5, h1, ct]
  cases y.t with
  | false =>
   simp (disch := first | exact qD16 | fail) only [qG5]
   exact hend _ T w' ⟨_, _, _, rfl⟩ h0 h2 (hr.le (by omega)) (fun b hb => hfr b (.inr (.inr hb))) hx
  | true =>
   simp (disch := first | exact qD16 | fail) only [qG5, h0, dC_3]
   refine appW (rows2 := [wC a]) (base := b8 + 1) (hT.ext (Ext.alloc (S := []) Ext.refl _ _) (by simp)) (RowsAt.one (l := wC a) (by first | with_reducible rfl | assumption | (simp (disch := first | exact qD16 | fail) only [qG5] <;> rfl)) rfl) (wC_all [(a : Int)]) (by simp; omega) (by simp only [szR]; omega) fun v2 w4 ho2 hp2 => ?_
   obtain ⟨a6, c6, e6⟩ := ho2.rows.len
   have hne0 : ∀ b, b < b8 + 1 -> b ∉ (blockOf (.slice a3 n3 c3)).toList := fun b hb hm => by
    have := hfr b (.inr (.inr (by simpa using hm)))
    omega
   have hxal : Ext [] w' (w'.alloc (.cells (wC a).toArray 22)) := Ext.alloc Ext.refl _ _
   have k0 := hp2.step.at (hxal.at h0 (by simp)) (hne0 _ (by omega))
   have k1 := hp2.step.at (hxal.at h1 (by simp)) (hne0 _ (by omega))
   have k2 := hp2.step.at (hxal.at h2 (by simp)) (hne0 _ (by omega))
   have hx4 : Ext [] w w4 := hp2.ext w [] (by omega) (hx.alloc _ _)
   have l4 := lt_of_at k0
   rw [show T.map wC ++ [wC (a : Int)] = (T ++ [(a : Int)]).map wC by simp] at ho2 e6
   have hb2 : ∀ b, blockOf v2 = some b -> b8 < b := fun b hb => ho2.block b hb
   have hd4 : DZ w4 (c + 17) n (.slice a1 n1 c1) (.slice a2 n2 c2) v2 := by
    obtain ⟨⟨R1, hA, q1, r1⟩, ⟨R2, hB, q2, r2⟩, -, hlt2⟩ := hr
    have hs4 := hp2.step.size
    have hs5 := hxal.size
    have hs6 : w'.heap.size <= w4.heap.size := Nat.le_trans hs5 hs4
    clear hs4 hs5
    refine ⟨⟨R1, (hA.ext hxal (by simp)).at hp2.step fun b hb hm => ?_, q1, by omega⟩, ⟨R2, (hB.ext hxal (by simp)).at hp2.step fun b hb hm => ?_, q2, by omega⟩, ⟨T ++ [(a : Int)], ho2.rows, by simp; omega⟩, fun b hb => ?_⟩
    ·have := hdj b b (.inl hb) (by simpa using hm)
     omega
    ·have := hdj b b (.inr hb) (by simpa using hm)
     omega
    ·rcases hb with hb | hb | hb
     ·have := hlt2 b (.inl hb)
      omega
     ·have := hlt2 b (.inr (.inl hb))
      omega
     ·exact ho2.blt b hb
   subst e6
   simp (disch := first | exact qD16 | fail) only [qG5, k0, dC_set3]
   refine hend _ (T ++ [(a : Int)]) _ ⟨_, _, _, rfl⟩ (upd_at k0) ((upd_ne (by omega)).trans k2) (hd4.ext (S := [w.heap.size]) qX ?_) hb2 qX
   intro b hb hm
   simp at hm
   rcases hb with hb | hb | hb
   ·have := hfr b (.inl hb)
    omega
   ·have := hfr b (.inr (.inl hb))
    omega
   ·have := hb2 b hb
    omega
open Go.Fx
set_option maxRecDepth 100000
section
variable (P : Program) (w : World) (K : Value -> World -> Prop)
def G7 (t0 : Value) : Prop :=
 kV P (Instr.box 45 t0) w fun v1 w =>
 kV P (Instr.alloc 35 true (.tuple #[])) w fun v3 w =>
 kN P (callN (.func (.func 21) #[] #[]) #[(.int .i64 3)]) w fun v12 w =>
 kV P (Instr.extract v12 0) w fun v13 w =>
 kV P (Instr.extract v12 1) w fun v14 w =>
 kN P (callN (.func (.func 22) #[] #[]) #[(.int .i64 3)]) w fun v16 w =>
 kV P (Instr.extract v16 0) w fun v17 w =>
 kV P (Instr.extract v16 1) w fun v18 w =>
 kV P (Instr.alloc 35 true (.tuple #[])) w fun v7 w =>
 kU P (Instr.storeAt 35 v7 v17) w fun _ w =>
 kV P (Instr.fieldAt 45 v1 0) w fun v19 w =>
 kV P (Instr.loadAt 39 v19) w fun v20 w =>
 kV P (Builtin.len_ #[39] 3 #[v20]) w fun v21 w =>
 kV P (binV .gtr 3 (.tmp 21) (.const (.int .i64 40)) v21 (.int .i64 40)) w fun v22 w =>
 joinK (fun J0 : Value -> World -> Prop => gdK (yb v22) false (fun k => kV P (Instr.fieldAt 45 v1 2) w k) w fun v24 w =>
 gdK (yb v22) false (fun k => kV P (Instr.loadAt 43 v24) w k) w fun v25 w =>
 gdK (yb v22) false (fun k => kV P (Builtin.len_ #[43] 3 #[v25]) w k) w fun v26 w =>
 gdK (yb v22) false (fun k => kV P (binV .gtr 3 (.tmp 26) (.const (.int .i64 20)) v26 (.int .i64 20)) w k) w fun v27 w =>
 kN P (pickN v22 (.bool true) v27) w fun v28_1 w =>
 J0 v28_1 w) fun v28 w =>
 joinK (fun J1 : Value -> World -> Prop => gdK (yb v28) false (fun k => k v14 w) w fun v30 w =>
 gdK (yb v28) false (fun k => kV P (binV .neq 75 (.tmp 30) (.const (.int .i64 0)) v30 (.int .i64 0)) w k) w fun v31 w =>
 kN P (pickN v28 (.bool true) v31) w fun v32_1 w =>
 J1 v32_1 w) fun v32 w =>
 joinK (fun J2 : Value -> World -> Prop => gdK (yb v32) false (fun k => k v13 w) w fun v34 w =>
 gdK (yb v32) false (fun k => kV P (binV .eql 31 (.tmp 34) (.const (.pointer none)) v34 (.pointer none)) w k) w fun v35 w =>
 kN P (pickN v32 (.bool true) v35) w fun v36_1 w =>
 J2 v36_1 w) fun v36 w =>
 condK v36
 (drewK (fun w =>
 sV P (Instr.loadAt 35 v7) w fun v38 =>
 kU P (Instr.storeAt 35 v3 v38) w fun _ w =>
 retV P 35 v3 w fun r3 =>
 K (.tuple #[v13, r3, (.int .i64 0)]) w) w)
 (loopT (fun R4 s4 w => ∀ _ : Nat -> Value,
 kV P (Instr.fieldAt 45 v1 0) w fun v40 w =>
 kV P (Instr.loadAt 39 v40) w fun v41 w =>
 kV P (Builtin.len_ #[39] 3 #[v41]) w fun v42 w =>
 kV P (binV .lss 3 (.tmp 39) (.tmp 42) (s4.getD 0 undef) v42) w fun v43 w =>
 condK v43
 (joinL (fun J6 =>
 kV P (binV .mul 3 (.const (.int .i64 4)) (.tmp 47) (.int .i64 4) (s4.getD 0 undef)) w fun v48 w =>
 kV P (convert 3 22 v48) w fun v49 w =>
 kV P (Instr.fieldAt 45 v1 0) w fun v50 w =>
 kV P (Instr.loadAt 39 v50) w fun v51 w =>
 kV P (Instr.indexAt 39 v51 (s4.getD 0 undef)) w fun v53 w =>
 kV P (Instr.loadAt 38 v53) w fun v54 w =>
 kV P (convert 38 22 v54) w fun v55 w =>
 kN P (callN (.func (.func 23) #[] #[]) #[v13, v49, (.int .i64 4), v55]) w fun v56 w =>
 drewK (fun w =>
 pV P (binV .mul 3 (.const (.int .i64 4)) (.tmp 59) (.int .i64 4) (s4.getD 0 undef)) fun v60 =>
 pV P (convert 3 22 v60) fun v61 =>
 pV P (Instr.fieldAt 45 v1 0) fun v62 =>
 (kV P (Instr.loadAt 35 v7) w fun v58 w =>
 kV P (Instr.loadAt 39 v62) w fun v63 w =>
 pV P (Instr.indexAt 39 v63 (s4.getD 0 undef)) fun v65 =>
 kV P (Instr.loadAt 38 v65) w fun v66 w =>
 pV P (convert 38 22 v66) fun v67 =>
 kN P (callN (.func (.func 24) #[] #[]) #[v58, v61, (.int .i64 4), v67]) w fun v68 w =>
 pV P (Instr.extract v68 0) fun v69 =>
 pV P (Instr.extract v68 1) fun v70 =>
 kU P (Instr.storeAt 35 v7 v69) w fun _ w =>
 J6 [] w) /\
 (kV P (Instr.loadAt 39 v62) w fun v63_1 w =>
 pV P (Instr.indexAt 39 v63_1 (s4.getD 0 undef)) fun v65_1 =>
 (kV P (Instr.loadAt 35 v7) w fun v58_1 w =>
 kV P (Instr.loadAt 38 v65_1) w fun v66_1 w =>
 pV P (convert 38 22 v66_1) fun v67_1 =>
 kN P (callN (.func (.func 24) #[] #[]) #[v58_1, v61, (.int .i64 4), v67_1]) w fun v68_1 w =>
 pV P (Instr.extract v68_1 0) fun v69_1 =>
 pV P (Instr.extract v68_1 1) fun v70_1 =>
 kU P (Instr.storeAt 35 v7 v69_1) w fun _ w =>
 J6 [] w) /\
 (kV P (Instr.loadAt 38 v65_1) w fun v66_2 w =>
 pV P (convert 38 22 v66_2) fun v67_2 =>
 kV P (Instr.loadAt 35 v7) w fun v58_2 w =>
 kN P (callN (.func (.func 24) #[] #[]) #[v58_2, v61, (.int .i64 4), v67_2]) w fun v68_2 w =>
 pV P (Instr.extract v68_2 0) fun v69_2 =>
 pV P (Instr.extract v68_2 1) fun v70_2 =>
 kU P (Instr.storeAt 35 v7 v69_2) w fun _ w =>
 J6 [] w))) w) fun s6 w => ∀ _ : Nat -> Value,
 kV P (binV .add 3 (.tmp 44) (.const (.int .i64 1)) (s4.getD 0 undef) (.int .i64 1)) w fun v45 w =>
 R4 [v45] w)
 (loopT (fun R8 s8 w => ∀ _ : Nat -> Value,
 kV P (Instr.fieldAt 45 v1 2) w fun v72 w =>
 kV P (Instr.loadAt 43 v72) w fun v73 w =>
 kV P (Builtin.len_ #[43] 3 #[v73]) w fun v74 w =>
 kV P (binV .lss 3 (.tmp 71) (.tmp 74) (s8.getD 0 undef) v74) w fun v75 w =>
 condK v75
 (joinL (fun J10 =>
 kV P (binV .mul 3 (.const (.int .i64 16)) (.tmp 79) (.int .i64 16) (s8.getD 0 undef)) w fun v80 w =>
 kV P (convert 3 22 v80) w fun v81 w =>
 kV P (binV .add 22 (.const (.int .u64 4096)) (.tmp 81) (.int .u64 4096) v81) w fun v82 w =>
 kV P (Instr.fieldAt 45 v1 2) w fun v83 w =>
 kV P (Instr.loadAt 43 v83) w fun v84 w =>
 kV P (Instr.indexAt 43 v84 (s8.getD 0 undef)) w fun v86 w =>
 kV P (Instr.loadAt 24 v86) w fun v87 w =>
 kN P (callN (.func (.func 25) #[] #[]) #[v13, v82, v87]) w fun v88 w =>
 drewK (fun w =>
 pV P (binV .mul 3 (.const (.int .i64 16)) (.tmp 91) (.int .i64 16) (s8.getD 0 undef)) fun v92 =>
 pV P (convert 3 22 v92) fun v93 =>
 pV P (binV .add 22 (.const (.int .u64 4096)) (.tmp 93) (.int .u64 4096) v93) fun v94 =>
 pV P (Instr.fieldAt 45 v1 2) fun v95 =>
 (kV P (Instr.loadAt 35 v7) w fun v90 w =>
 kV P (Instr.loadAt 43 v95) w fun v96 w =>
 pV P (Instr.indexAt 43 v96 (s8.getD 0 undef)) fun v98 =>
 kV P (Instr.loadAt 24 v98) w fun v99 w =>
 kN P (callN (.func (.func 26) #[] #[]) #[v90, v94, v99]) w fun v100 w =>
 pV P (Instr.extract v100 0) fun v101 =>
 pV P (Instr.extract v100 1) fun v102 =>
 kU P (Instr.storeAt 35 v7 v101) w fun _ w =>
 J10 [] w) /\
 (kV P (Instr.loadAt 43 v95) w fun v96_1 w =>
 pV P (Instr.indexAt 43 v96_1 (s8.getD 0 undef)) fun v98_1 =>
 (kV P (Instr.loadAt 35 v7) w fun v90_1 w =>
 kV P (Instr.loadAt 24 v98_1) w fun v99_1 w =>
 kN P (callN (.func (.func 26) #[] #[]) #[v90_1, v94, v99_1]) w fun v100_1 w =>
 pV P (Instr.extract v100_1 0) fun v101_1 =>
 pV P (Instr.extract v100_1 1) fun v102_1 =>
 kU P (Instr.storeAt 35 v7 v101_1) w fun _ w =>
 J10 [] w) /\
 (kV P (Instr.loadAt 24 v98_1) w fun v99_2 w =>
 kV P (Instr.loadAt 35 v7) w fun v90_2 w =>
 kN P (callN (.func (.func 26) #[] #[]) #[v90_2, v94, v99_2]) w fun v100_2 w =>
 pV P (Instr.extract v100_2 0) fun v101_2 =>
 pV P (Instr.extract v100_2 1) fun v102_2 =>
 kU P (Instr.storeAt 35 v7 v101_2) w fun _ w =>
 J10 [] w))) w) fun s10 w => ∀ _ : Nat -> Value,
 kV P (binV .add 3 (.tmp 76) (.const (.int .i64 1)) (s8.getD 0 undef) (.int .i64 1)) w fun v77 w =>
 R8 [v77] w)
 (drewK (fun w =>
 sV P (Instr.loadAt 35 v7) w fun v104 =>
 kU P (Instr.storeAt 35 v3 v104) w fun _ w =>
 retV P 35 v3 w fun r12 =>
 K (.tuple #[v13, r12, (.int .i64 1)]) w) w)) [(.int .i64 0)] w)) [(.int .i64 0)] w)
theorem G7_eq (t0 : Value) : funE P ⟨[(15, 3), (14, 999), (9, 999), (4, 3)], [(6, [9]), (11, [10])], [(12, []), (7, [])]⟩ Tryz.f7 [t0] w K = G7 P w K t0 := by kernel_rfl
theorem G7_ok (t0 : Value) (h : G7 Tryz.prog w K t0) : callsK Tryz.prog 7 #[t0] w K := calls_of_eq mixedX Tryz.func7 (G7_eq _ w K t0) h
end
open Go.Fx
set_option maxRecDepth 100000
theorem leN_storedX (m : Nat -> Int) (a s : Nat) (v : Int) : ∀ k, k <= s -> leN (stored m a s v) a k = v.toNat % 2 ^ (8 * k)
 | 0, _ => by simp [leN]; omega
 | k + 1, h => by
  have ih := leN_storedX m a s v k (by omega)
  show leN (stored m a s v) a k + (stored m a s v (a + k)).toNat * 2 ^ (8 * k) = _
  rw [ih]
  have e : stored m a s v (a + k) = ((v.toNat / 2 ^ (8 * k) % 256 : Nat) : Int) := by
   unfold stored
   rw [if_pos (by omega), Nat.add_sub_cancel_left]
  rw [e, Int.toNat_natCast, show 8 * (k + 1) = 8 * k + 8 by omega, Nat.pow_add, Nat.mod_mul, Nat.mul_comm (2 ^ (8 * k))]
theorem leN_congrX {m m' : Nat -> Int} {a : Nat} : ∀ {k : Nat}, (∀ j, j < k -> m (a + j) = m' (a + j)) -> leN m a k = leN m' a k
 | 0, _ => rfl
 | k + 1, h => by
  unfold leN
  rw [leN_congrX fun j hj => h j (by omega), h k (by omega)]
theorem leN_storedO {m : Nat -> Int} {a s b k : Nat} {v : Int} (h : b + k <= a ∨ a + s <= b) : leN (stored m a s v) b k = leN m b k := leN_congrX fun j hj => by
 unfold stored
 rw [if_neg (by omega)]
def u4C (x : Nat) : List Value := [.int .u32 (x : Nat)]
def plC (v : Value) (c : Nat -> Cq) (k : Value) : List Value := v :: (cxC c ++ [k])
theorem plC_len (v : Value) (c : Nat -> Cq) (k : Value) : (plC v c k).length = 101 := by simp [plC, cxC_len]
theorem plC_all {a a2 : Option Addr} {n n2 l l2 : Nat} (c : Nat -> Cq) : (plC (.slice a n l) c (.slice a2 n2 l2)).all (fun v => v.oneCell') = true := by
 unfold plC
 rw [List.all_cons, List.all_append, cxC_all]
 rfl
theorem plC_sub (v : Value) (c : Nat -> Cq) (k : Value) : sub (plC v c k) 0 101 = plC v c k := sub_whole (by rw [plC_len])
theorem plC_0 (v : Value) (c : Nat -> Cq) (k : Value) : (plC v c k)[0]? = some v := rfl
theorem plC_k (v : Value) (c : Nat -> Cq) (k : Value) : (plC v c k)[100]? = some k := by
 unfold plC
 rw [List.getElem?_cons_succ, List.getElem?_append_right (by rw [cxC_len]; omega), cxC_len]
 rfl
/-- what a memory tells of words. -/
def Wds (m : Nat -> Int) (ws : List Nat) (k : Nat) : Prop := ∀ i x, i < k -> ws[i]? = some x -> leN m (4 * i) 4 = x
theorem Wds.step {m : Nat -> Int} {ws : List Nat} {k x : Nat} (h : Wds m ws k) (hx : ws[k]? = some x) (h32 : x < 4294967296) : Wds (stored m (4 * k) 4 x) ws (k + 1) := by
 intro i y hi hy
 by_cases h1 : i = k
 ·subst h1
  rw [hx] at hy
  obtain rfl := Option.some.inj hy
  rw [leN_storedX _ _ _ _ 4 (Nat.le_refl _)]
  show x % 4294967296 = x
  omega
 ·rw [leN_storedO (by omega)]
  exact h i y (by omega) hy
theorem qZ17 : type_of% (And.intro @szR (And.intro @cq_len (And.intro @cq_all (And.intro @cxC_len (And.intro @cxC_all (And.intro @plC_len (@plC_all))))))) := ⟨@szR, @cq_len, @cq_all, @cxC_len, @cxC_all, @plC_len, @plC_all⟩
theorem qD17 {p : Prop} (h : p := by first | assumption | omega | (simp only [qZ17] <;> omega) | rfl | decide) : p := h
set_option maxHeartbeats 2000000 in
theorem built_spec {w : World} {ws : List Nat} {v : Value} {c : Nat -> Cq} (hv : RowsAt w v 1 (ws.map u4C)) (hl : ws.length <= 40) (h32 : ∀ x ∈ ws, x < 4294967296) {K : Value -> World -> Prop}
  (hK : ∀ (rb pb : Nat) (L : List Value) (m g : Nat -> Int) (w' : World), Mem w' rb pb 3 m g -> Wds m ws ws.length -> L.length = 4 -> L.all (fun v => v.oneCell') = true -> sub L 0 4 = L -> Ext [] w w' -> w.heap.size <= rb -> w.heap.size <= pb -> K (.tuple #[.pointer (some ⟨rb, 0, none⟩), .agg L.toArray, .int .i64 1]) w') :
  callsK Tryz.prog 7 #[.agg (plC v c (.slice none 0 0)).toArray] w K := by
 obtain ⟨a0, c0, rfl⟩ := hv.len
 apply G7_ok
 unfold G7
 simp (disch := first | exact qD17 | fail) only [qG3, plC_sub]
 refine New_spec (n := 3) (by omega) fun w1 hM1 hx1 => ?_
 have e0 : ((w.alloc (.cells (plC (.slice a0 (List.map u4C ws).length c0) c (.slice none 0 0)).toArray 45)).alloc (.cells [.int .i64 0, .slice none 0 0, .slice none 0 0, .slice none 0 0].toArray 35)).heap.size = w.heap.size + 2 := by simp only [szR]
 rw [e0] at hM1 ⊢
 have hx0 : Ext [] w w1 := Ext.trans (S := []) qX hx1 (by simp)
 have g0 : w1.heap[w.heap.size]? = some (.cells (plC (.slice a0 (List.map u4C ws).length c0) c (.slice none 0 0)).toArray 45 (0, 0)) := hx1.at ((alloc_ne (by simp only [szR]; omega)).trans (alloc_at rfl)) (by simp)
 have g1 : w1.heap[w.heap.size + 1]? = some (.cells [.int .i64 0, .slice none 0 0, .slice none 0 0, .slice none 0 0].toArray 35 (0, 0)) := hx1.at (alloc_at (by simp only [szR])) (by simp)
 have hs1 := hM1.lt
 obtain ⟨rb, hrb⟩ : ∃ rb, rb = w.heap.size + 2 + 1 := ⟨_, rfl⟩
 obtain ⟨pb, hpb⟩ : ∃ pb, pb = w.heap.size + 2 := ⟨_, rfl⟩
 rw [<- hrb, <- hpb] at hM1 hs1
 rw [<- hrb]
 clear hx1 e0
 simp (disch := first | exact qD17 | fail) only [qG3]
 refine rNew_spec (n := 3) (by omega) fun w2 hD2 hx2 => ?_
 have hM2 := hM1.ext hx2 (by simp) (by simp)
 replace g0 := hx2.at g0 (by simp)
 replace g1 := hx2.at g1 (by simp)
 replace hx0 := hx0.trans hx2 (by simp)
 have lg0 := lt_of_at g0
 have lg1 := lt_of_at g1
 have lM2 := hM2.lt
 have hv2 := hv.ext hx0 (by simp)
 have e1 := hv2.lenR (P := Tryz.prog) (t := 39) (ty := 3) Tryz.underlying39
 rw [List.length_map] at e1 g0 hv2
 have hl2 : ¬ ((ws.length : Nat) : Int) > 40 := by omega
 have hnil : ∀ (x y : Operand) w, (binV .eql 31 x y (.pointer (some ⟨rb, 0, none⟩)) (.pointer none)).run Tryz.prog w = .ok (.bool false) w := fun x y w => by kernel_rfl
 have hner : ∀ (x y : Operand) w, (binV .neq 75 x y (.int .i64 0) (.int .i64 0)).run Tryz.prog w = .ok (.bool false) w := fun x y w => by kernel_rfl
 have hrs : ∀ a b, sub (rmC 3 a b) 0 4 = rmC 3 a b := fun a b => by simp [rmC, sub]
 have hrl : ∀ a b, (rmC 3 a b).length = 4 := fun a b => by simp [rmC]
 obtain ⟨b7, hb7⟩ : ∃ b7, b7 = w2.heap.size := ⟨_, rfl⟩
 obtain ⟨L0, hL0⟩ : ∃ L0, L0 = rmC 3 (.slice none 0 0) (.slice none 0 0) := ⟨_, rfl⟩
 have hL0l : L0.length = 4 := by rw [hL0]; rfl
 have hL0a : L0.all (fun v => v.oneCell') = true := by rw [hL0]; rfl
 rw [<- hL0] at hD2 ⊢
 have hsp := splice_all (l := [.int .i64 0, .slice none 0 0, .slice none 0 0, .slice none 0 0]) (vs := L0) (by rw [hL0l]; rfl)
 have hdr := drop_all (l := [.int .i64 0, .slice none 0 0, .slice none 0 0, .slice none 0 0]) (vs := L0) (by rw [hL0l]; rfl)
 simp (disch := first | exact qD17 | fail) only [qG3, Int.reduceLT, joinBR, hL0l, hL0a, hsp, hdr, g0, plC_0, plC_k, hnil, hner]
 have hx3 : Ext [] w2 (w2.alloc (.cells L0.toArray 35)) := Ext.alloc Ext.refl _ _
 have m7 : (w2.alloc (.cells L0.toArray 35)).heap[b7]? = some (.cells L0.toArray 35 (0, 0)) := alloc_at hb7
 rw [<- hb7]
 have n0 := hx3.at g0 (by simp)
 have n1 := hx3.at g1 (by simp)
 have nM := hM2.ext hx3 (by simp) (by simp)
 have nD := (hD2 (b7 + 1)).ext hx3 (by simp)
 have hx4 := hx0.trans hx3 (by simp)
 have hs3 : b7 + 1 <= (w2.alloc (.cells L0.toArray 35)).heap.size := by rw [hb7]; simp only [szR]; omega
 have hpw : w.heap.size <= pb /\ w.heap.size <= rb /\ w.heap.size <= b7 /\ w.heap.size ≠ b7 /\ w.heap.size + 1 ≠ b7 /\ w.heap.size ≠ pb /\ w.heap.size + 1 ≠ pb /\ rb ≠ b7 /\ pb ≠ b7 := by omega
 obtain ⟨hw1, hw2, hw3, hw4, hw5, hw6, hw7, hw8, hw9⟩ := hpw
 clear hx3 hb7 hD2 hL0a hsp hdr hL0l g0 g1 hM2 hx0
 generalize w2.alloc (.cells L0.toArray 35) = w3 at *
 refine loopT.intro (fun st w' => ∃ (k : Nat) (z : Int) (L : List Value) (P : List (Nat × Int)) (va vb : Value) (m g md : Nat -> Int), k <= ws.length /\ st = [.int .i64 z] /\ z = k /\ Mem w' rb pb 3 m g /\ Wds m ws k /\ w'.heap[b7]? = some (.cells L.toArray 35 (0, 0)) /\ RMem w' (b7 + 1) L 3 md (4 * k) P va vb /\ Ext [pb, b7] w3 w')
  (fun st _ => match st with
   | [.int _ z] => ws.length - z.toNat
   | _ => 0) ⟨0, 0, L0, [], _, _, _, _, _, by omega, rfl, rfl, nM, fun i x hi => absurd hi (Nat.not_lt_zero _), m7, nD, Ext.refl⟩ ?_
 rintro st w4 ⟨k, z, L, P, va, vb, m, g, md, hk, rfl, rfl, hM, hW, h7, hD, hx⟩ _
 have hxw : Ext [] w w4 := hx4.trans hx (by simp; omega)
 have k0 := hx.at n0 (by simp; omega)
 have k1 := hx.at n1 (by simp; omega)
 have hsz := hx.size
 obtain ⟨hLl, hLa, hLs⟩ := hD.cells
 simp (disch := first | exact qD17 | fail) only [qG3, k0, plC_0]
 by_cases hkl : k < ws.length
 ·obtain ⟨x, hxk⟩ : ∃ x, ws[k]? = some x := ⟨ws[k], List.getElem?_eq_getElem hkl⟩
  have hx32 := h32 x (List.mem_of_getElem? hxk)
  have hr : (ws.map u4C)[k]? = some (u4C x) := by rw [List.getElem?_map, hxk]; rfl
  rw [List.length_map] at hv
  obtain ⟨b, o, l, E, f, hix, hb, hfit, hlt, hblk, hsub, hget⟩ := RowsAt.ixR (P := Tryz.prog) (t := 39) Tryz.underlying39 Tryz.sizeOf38 hv hr
  have gx := hget o 0 rfl (by omega)
  have ex : (u4C x)[0]? = some (.int .u32 (x : Nat)) := rfl
  rw [ex] at gx
  have hb4 := hxw.at hb (by simp)
  have e4 : (4 : Int) * k = ((4 * k : Nat) : Int) := by omega
  refine condK_bool (fun _ => ?_) (fun h => absurd h (by simp; omega))
  refine joinL.intro fun J6 hJ6 => ?_
  simp (disch := first | exact qD17 | fail) only [qG3, k0, plC_0, hix, hb4, gx, e4]
  refine Store_spec (n := 3) (a := 4 * k) (s := 4) (v := (x : Int)) hM (by omega) (by omega) (.inr (.inr (.inl rfl))) (by omega) (by omega) fun g' w5 hM5 hg hx5 => ?_
  have q0 := hx5.at k0 (by simp; omega)
  have q7 := hx5.at h7 (by simp; omega)
  have qb := hx5.at hb4 (by simp; omega)
  have hD5 := hD.ext hx5 (by simp; omega)
  simp (disch := first | exact qD17 | fail) only [qG3, hLl, hLs, q7, q0, plC_0, hix, qb, gx, e4, and_self]
  have hxdr : Ext [] w5 w5.drew := qX
  refine rStore_spec (n := 3) (hD5.ext hxdr (by simp)) (by have := hx5.size; have := hxdr.size; omega) (by omega) (by omega) (by omega) (by omega) (by omega) fun L' P' va' vb' w7 hD7 hx7 => ?_
  have hx57 := hxdr.trans hx7 (by simp)
  replace q0 := hx57.at q0 (by simp)
  replace q7 := hx57.at q7 (by simp)
  have l7 := lt_of_at q7
  obtain ⟨hLl', hLa', hLs'⟩ := hD7.cells
  have hsp := splice_all (l := L) (vs := L') (by omega)
  have hdr := drop_all (l := L) (vs := L') (by omega)
  simp (disch := first | exact qD17 | fail) only [qG3, q7, hLl', hLa', hsp]
  apply hJ6
  intro _
  simp (disch := first | exact qD17 | fail) only [qG3]
  have hxu : Ext [b7] w7 (World.upd w7 b7 L') := qX
  have hxv : Ext [pb, b7] w4 (World.upd w7 b7 L') := ((hx5.mono (by simp)).step (hx57.mono (by simp))).step (hxu.mono (by simp))
  refine ⟨⟨k + 1, (k : Int) + 1, L', P', va', vb', _, g', _, by omega, rfl, by omega, (hM5.ext hx57 (by simp) (by simp)).ext hxu (by simp; omega) (by simp; omega), hW.step hxk hx32, by first | exact upd_at q7 | (rw [q7]; rfl), hD7.ext hxu (by simp), hx.step hxv⟩, by omega⟩
 ·obtain rfl : k = ws.length := by omega
  refine condK_bool (fun h => absurd h (by simp)) (fun _ => ?_)
  refine loopT.intro (fun st w' => st = [.int .i64 0] /\ w' = w4) (fun _ _ => 0) ⟨rfl, rfl⟩ ?_
  rintro st w5 ⟨rfl, rfl⟩ _
  have l0 := lt_of_at k0
  have l1 := lt_of_at k1
  have hsp := splice_all (l := [.int .i64 0, .slice none 0 0, .slice none 0 0, .slice none 0 0]) (vs := L) (by rw [hLl]; rfl)
  have hdr := drop_all (l := [.int .i64 0, .slice none 0 0, .slice none 0 0, .slice none 0 0]) (vs := L) (by rw [hLl]; rfl)
  simp (disch := first | exact qD17 | fail) only [qG3, Int.reduceLT, k0, plC_k, h7, hLl, hLs, hLa, k1, hsp, hdr]
  have hxz : Ext [w.heap.size + 1] w5 (World.upd w5.drew (w.heap.size + 1) L) := qX
  exact hK rb pb L m g _ (hM.ext hxz (by simp; omega) (by simp; omega)) hW hLl hLa hLs (hxw.trans hxz (by simp)) hw2 hw1
end Go.Proofs.YtplfniijbeinmaaGreat
