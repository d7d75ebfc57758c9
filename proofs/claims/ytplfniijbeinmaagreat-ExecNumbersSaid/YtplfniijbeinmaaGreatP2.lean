/- Part 2 of what the law ExecNumbers stands on: formulas of the functions that it reaches, and what each of them does; conditions: those of each theorem. -/
import Derived.Test.YtplfniijbeinmaaGreatP1
set_option linter.unusedVariables false
set_option linter.unusedSimpArgs false
namespace Go.Proofs.YtplfniijbeinmaaGreat
open Go.Fx
set_option maxRecDepth 100000
set_option maxHeartbeats 4000000
theorem RX_call_3 : type_of% (Fx.kN_callf Tryz.call3) := Fx.kN_callf Tryz.call3
theorem RX_bl_28_1 : ∀ (a1x0 : Int) (w : World), (Instr.build 28 [(1, .int .u64 a1x0)].toArray).run Tryz.prog w = .ok (.agg [(.int .u64 0), (.int .u64 0), .int .u64 a1x0, (.int .u64 0)].toArray) w := fun a1x0 w => run_build w 28 _ _ (by kernel_rfl)
theorem RX_fld_28_0 : ∀ (b o : Nat) (w : World), (Instr.fieldAt 28 (.pointer (some ⟨b, o, none⟩)) 0).run Tryz.prog w = .ok (.pointer (some ⟨b, o, none⟩)) w := Fx.run_fieldO 0 0 2 Tryz.underlying28 rfl Tryz.sizeOf26 (by decide)
theorem RX_fld_26_0 : ∀ (b o : Nat) (w : World), (Instr.fieldAt 26 (.pointer (some ⟨b, o, none⟩)) 0).run Tryz.prog w = .ok (.pointer (some ⟨b, o, none⟩)) w := Fx.run_fieldO 0 0 1 Tryz.underlying26 rfl Tryz.sizeOf22 (by decide)
theorem RX_fld_26_1 : ∀ (b o : Nat) (w : World), (Instr.fieldAt 26 (.pointer (some ⟨b, o, none⟩)) 1).run Tryz.prog w = .ok (.pointer (some ⟨b, o + 1, none⟩)) w := Fx.run_fieldO 1 1 1 Tryz.underlying26 rfl Tryz.sizeOf22 (by decide)
theorem RX_call_6 : type_of% (Fx.kN_callf Tryz.call6) := Fx.kN_callf Tryz.call6
theorem RX_al_24 : type_of% (Fx.run_alloc Tryz.zeroValue24) := Fx.run_alloc Tryz.zeroValue24
theorem RX_st_24 : type_of% (Fx.run_storeN' Tryz.sizeOf24) := Fx.run_storeN' Tryz.sizeOf24
theorem RX_fld_24_0 : ∀ (b o : Nat) (w : World), (Instr.fieldAt 24 (.pointer (some ⟨b, o, none⟩)) 0).run Tryz.prog w = .ok (.pointer (some ⟨b, o, none⟩)) w := Fx.run_fieldO 0 0 1 Tryz.underlying24 rfl Tryz.sizeOf4 (by decide)
theorem RX_st_4 : type_of% (Fx.run_store1' Tryz.sizeOf4) := Fx.run_store1' Tryz.sizeOf4
theorem RX_cv_3_22 : type_of% (Fx.run_convert_int Tryz.underlying3 Tryz.underlying22) := Fx.run_convert_int Tryz.underlying3 Tryz.underlying22
theorem RX_bs_39_2 : ∀ (v0 v1 : Value) (w : World), [v0, v1].all (fun v => v.oneCell') = true -> (Instr.buildSlice 39 2 [(0, v0), (1, v1)].toArray).run Tryz.prog w = .ok (.slice (some ⟨w.heap.size, 0, none⟩) 2 2) (w.alloc (.cells [v0, v1].toArray 38)) := fun v0 v1 w h => Fx.run_bsS Tryz.underlying39 (by kernel_rfl) [v0, v1] (List.all_eq_true.1 h) (by simp) w
theorem RX_call_7 : type_of% (Fx.kN_callf Tryz.call7) := Fx.kN_callf Tryz.call7
theorem RX_al_35 : type_of% (Fx.run_alloc Tryz.zeroValue35) := Fx.run_alloc Tryz.zeroValue35
theorem RX_st_35 : type_of% (Fx.run_storeN' Tryz.sizeOf35) := Fx.run_storeN' Tryz.sizeOf35
theorem RX_bl_24_0_1 : ∀ (a0x0 : Bool) (a1x0 : Int) (w : World), (Instr.build 24 [(0, .bool a0x0), (1, .int .u64 a1x0)].toArray).run Tryz.prog w = .ok (.agg [.bool a0x0, .int .u64 a1x0, (.int .u64 0)].toArray) w := fun a0x0 a1x0 w => run_build w 24 _ _ (by kernel_rfl)
theorem RX_call_8 : type_of% (Fx.kN_callf Tryz.call8) := Fx.kN_callf Tryz.call8
theorem RX_al_42 : type_of% (Fx.run_alloc Tryz.zeroValue42) := Fx.run_alloc Tryz.zeroValue42
theorem RX_st_42 : type_of% (Fx.run_storeN' Tryz.sizeOf42) := Fx.run_storeN' Tryz.sizeOf42
theorem RX_ld_42 : type_of% (Fx.run_loadN' Tryz.isAgg42 Tryz.sizeOf42) := Fx.run_loadN' Tryz.isAgg42 Tryz.sizeOf42
theorem RX_ld_24 : type_of% (Fx.run_loadN' Tryz.isAgg24 Tryz.sizeOf24) := Fx.run_loadN' Tryz.isAgg24 Tryz.sizeOf24
theorem RX_call_9 : type_of% (Fx.kN_callf Tryz.call9) := Fx.kN_callf Tryz.call9
theorem RX_bl_55_0 : ∀ (a0x0 : Option Addr) (w : World), (Instr.build 55 [(0, .pointer a0x0)].toArray).run Tryz.prog w = .ok (.agg [.pointer a0x0].toArray) w := fun a0x0 w => run_build w 55 _ _ (by kernel_rfl)
theorem RX_call_10 : type_of% (Fx.kN_callf Tryz.call10) := Fx.kN_callf Tryz.call10
theorem RX_al_51 : type_of% (Fx.run_alloc Tryz.zeroValue51) := Fx.run_alloc Tryz.zeroValue51
theorem RX_st_51 : type_of% (Fx.run_storeN' Tryz.sizeOf51) := Fx.run_storeN' Tryz.sizeOf51
theorem RX_fld_28_1 : ∀ (b o : Nat) (w : World), (Instr.fieldAt 28 (.pointer (some ⟨b, o, none⟩)) 1).run Tryz.prog w = .ok (.pointer (some ⟨b, o + 2, none⟩)) w := Fx.run_fieldO 1 2 1 Tryz.underlying28 rfl Tryz.sizeOf22 (by decide)
theorem RX_ld_4 : type_of% (Fx.run_load1' Tryz.isAgg4) := Fx.run_load1' Tryz.isAgg4
theorem RX_fld_51_0 : ∀ (b o : Nat) (w : World), (Instr.fieldAt 51 (.pointer (some ⟨b, o, none⟩)) 0).run Tryz.prog w = .ok (.pointer (some ⟨b, o, none⟩)) w := Fx.run_fieldO 0 0 1 Tryz.underlying51 rfl Tryz.sizeOf3 (by decide)
theorem RX_ld_3 : type_of% (Fx.run_load1' Tryz.isAgg3) := Fx.run_load1' Tryz.isAgg3
theorem RX_eql_4 : type_of% (Fx.run_eqlB Tryz.underlying4) := Fx.run_eqlB Tryz.underlying4
theorem RX_call_11 : type_of% (Fx.kN_callf Tryz.call11) := Fx.kN_callf Tryz.call11
theorem RX_eql_24 : ∀ (a0 b0 : Bool) (a1 b1 : Int) (a2 b2 : Int) (x y : Operand) (w : World), (binV .eql 24 x y (.agg [.bool a0, .int .u64 a1, .int .u64 a2].toArray) (.agg [.bool b0, .int .u64 b1, .int .u64 b2].toArray)).run Tryz.prog w = .ok (.bool (((a0 == b0) && ((a1 == b1) && ((a2 == b2) && true))))) w := fun a0 b0 a1 b1 a2 b2 x y w => Fx.eql_agg (by kernel_rfl) _ _ _ x y w (Fx.equalIn_struct (d := 9999) (by kernel_rfl) (by kernel_rfl) (q := [(4, 0), (22, 1), (22, 2)]) (by kernel_rfl) (by kernel_rfl) (Fx.eqQ_cons (Fx.part1 Tryz.isAgg4 rfl) (Fx.part1 Tryz.isAgg4 rfl) (run_equalIn_bool _ 9998 4 _ _ Tryz.underlying4) (Fx.eqQ_cons (Fx.part1 Tryz.isAgg22 rfl) (Fx.part1 Tryz.isAgg22 rfl) (run_equalIn_int _ 9998 22 .u64 .u64 _ _ Tryz.underlying22) (Fx.eqQ_cons (Fx.part1 Tryz.isAgg22 rfl) (Fx.part1 Tryz.isAgg22 rfl) (run_equalIn_int _ 9998 22 .u64 .u64 _ _ Tryz.underlying22) (Fx.eqQ_nil)))))
theorem RX_call_12 : type_of% (Fx.kN_callf Tryz.call12) := Fx.kN_callf Tryz.call12
theorem RX_call_18 : type_of% (Fx.kN_callf Tryz.call18) := Fx.kN_callf Tryz.call18
theorem RX_neq_26 : ∀ (a0 b0 : Int) (a1 b1 : Int) (x y : Operand) (w : World), (binV .neq 26 x y (.agg [.int .u64 a0, .int .u64 a1].toArray) (.agg [.int .u64 b0, .int .u64 b1].toArray)).run Tryz.prog w = .ok (.bool (!((a0 == b0) && ((a1 == b1) && true)))) w := fun a0 b0 a1 b1 x y w => Fx.neq_agg (by kernel_rfl) _ _ _ x y w (Fx.equalIn_struct (d := 9999) (by kernel_rfl) (by kernel_rfl) (q := [(22, 0), (22, 1)]) (by kernel_rfl) (by kernel_rfl) (Fx.eqQ_cons (Fx.part1 Tryz.isAgg22 rfl) (Fx.part1 Tryz.isAgg22 rfl) (run_equalIn_int _ 9998 22 .u64 .u64 _ _ Tryz.underlying22) (Fx.eqQ_cons (Fx.part1 Tryz.isAgg22 rfl) (Fx.part1 Tryz.isAgg22 rfl) (run_equalIn_int _ 9998 22 .u64 .u64 _ _ Tryz.underlying22) (Fx.eqQ_nil))))
theorem RX_fld_28_2 : ∀ (b o : Nat) (w : World), (Instr.fieldAt 28 (.pointer (some ⟨b, o, none⟩)) 2).run Tryz.prog w = .ok (.pointer (some ⟨b, o + 3, none⟩)) w := Fx.run_fieldO 2 3 1 Tryz.underlying28 rfl Tryz.sizeOf22 (by decide)
theorem RX_bl_24_ : ∀  (w : World), (Instr.build 24 [].toArray).run Tryz.prog w = .ok (.agg [(.bool false), (.int .u64 0), (.int .u64 0)].toArray) w := fun w => run_build w 24 _ _ (by kernel_rfl)
theorem RX_call_20 : type_of% (Fx.kN_callf Tryz.call20) := Fx.kN_callf Tryz.call20
theorem RX_bl_24_1_2 : ∀ (a1x0 : Int) (a2x0 : Int) (w : World), (Instr.build 24 [(1, .int .u64 a1x0), (2, .int .u64 a2x0)].toArray).run Tryz.prog w = .ok (.agg [(.bool false), .int .u64 a1x0, .int .u64 a2x0].toArray) w := fun a1x0 a2x0 w => run_build w 24 _ _ (by kernel_rfl)
theorem RX_call_21 : type_of% (Fx.kN_callf Tryz.call21) := Fx.kN_callf Tryz.call21
theorem RX_call_22 : type_of% (Fx.kN_callf Tryz.call22) := Fx.kN_callf Tryz.call22
theorem RX_fld_45_0 : ∀ (b o : Nat) (w : World), (Instr.fieldAt 45 (.pointer (some ⟨b, o, none⟩)) 0).run Tryz.prog w = .ok (.pointer (some ⟨b, o, none⟩)) w := Fx.run_fieldO 0 0 1 Tryz.underlying45 rfl Tryz.sizeOf39 (by decide)
theorem RX_ld_39 : type_of% (Fx.run_load1' Tryz.isAgg39) := Fx.run_load1' Tryz.isAgg39
theorem RX_len_39 : ∀ (a : Option Addr) (len cap : Nat) (w : World), (Builtin.len_ #[39] 3 #[.slice a len cap]).run Tryz.prog w = .ok (.int .i64 len) w := Fx.run_len_slice Tryz.underlying39
theorem RX_fld_45_2 : ∀ (b o : Nat) (w : World), (Instr.fieldAt 45 (.pointer (some ⟨b, o, none⟩)) 2).run Tryz.prog w = .ok (.pointer (some ⟨b, o + 100, none⟩)) w := Fx.run_fieldO 2 100 1 Tryz.underlying45 rfl Tryz.sizeOf43 (by decide)
theorem RX_ld_43 : type_of% (Fx.run_load1' Tryz.isAgg43) := Fx.run_load1' Tryz.isAgg43
theorem RX_len_43 : ∀ (a : Option Addr) (len cap : Nat) (w : World), (Builtin.len_ #[43] 3 #[.slice a len cap]).run Tryz.prog w = .ok (.int .i64 len) w := Fx.run_len_slice Tryz.underlying43
theorem RX_eql_31 : type_of% (Fx.run_eqlP Tryz.underlying31) := Fx.run_eqlP Tryz.underlying31
theorem RX_ld_35 : type_of% (Fx.run_loadN' Tryz.isAgg35 Tryz.sizeOf35) := Fx.run_loadN' Tryz.isAgg35 Tryz.sizeOf35
theorem RX_ix_39 : type_of% (Fx.run_index_slice Tryz.underlying39 Tryz.sizeOf38) := Fx.run_index_slice Tryz.underlying39 Tryz.sizeOf38
theorem RX_ld_38 : type_of% (Fx.run_load1' Tryz.isAgg38) := Fx.run_load1' Tryz.isAgg38
theorem RX_cv_38_22 : type_of% (Fx.run_convert_int Tryz.underlying38 Tryz.underlying22) := Fx.run_convert_int Tryz.underlying38 Tryz.underlying22
theorem RX_call_23 : type_of% (Fx.kN_callf Tryz.call23) := Fx.kN_callf Tryz.call23
theorem RX_call_24 : type_of% (Fx.kN_callf Tryz.call24) := Fx.kN_callf Tryz.call24
theorem RX_ix_43 : type_of% (Fx.run_index_slice Tryz.underlying43 Tryz.sizeOf24) := Fx.run_index_slice Tryz.underlying43 Tryz.sizeOf24
theorem RX_call_25 : type_of% (Fx.kN_callf Tryz.call25) := Fx.kN_callf Tryz.call25
theorem RX_call_26 : type_of% (Fx.kN_callf Tryz.call26) := Fx.kN_callf Tryz.call26
theorem RX_call_27 : type_of% (Fx.kN_callf Tryz.call27) := Fx.kN_callf Tryz.call27
theorem RX_scall_27 : type_of% (Fx.sN_callf Tryz.call27) := Fx.sN_callf Tryz.call27
theorem RX_fld_42_0 : ∀ (b o : Nat) (w : World), (Instr.fieldAt 42 (.pointer (some ⟨b, o, none⟩)) 0).run Tryz.prog w = .ok (.pointer (some ⟨b, o, none⟩)) w := Fx.run_fieldO 0 0 96 Tryz.underlying42 rfl Tryz.sizeOf40 (by decide)
theorem RX_ix_40 : type_of% (Fx.run_index_array Tryz.underlying40 Tryz.sizeOf24) := Fx.run_index_array Tryz.underlying40 Tryz.sizeOf24
theorem RX_fld_42_1 : ∀ (b o : Nat) (w : World), (Instr.fieldAt 42 (.pointer (some ⟨b, o, none⟩)) 1).run Tryz.prog w = .ok (.pointer (some ⟨b, o + 96, none⟩)) w := Fx.run_fieldO 1 96 3 Tryz.underlying42 rfl Tryz.sizeOf24 (by decide)
theorem RX_call_28 : type_of% (Fx.kN_callf Tryz.call28) := Fx.kN_callf Tryz.call28
theorem RX_call_29 : type_of% (Fx.kN_callf Tryz.call29) := Fx.kN_callf Tryz.call29
theorem RX_call_30 : type_of% (Fx.kN_callf Tryz.call30) := Fx.kN_callf Tryz.call30
theorem RX_call_31 : type_of% (Fx.kN_callf Tryz.call31) := Fx.kN_callf Tryz.call31
theorem RX_al_49 : type_of% (Fx.run_alloc Tryz.zeroValue49) := Fx.run_alloc Tryz.zeroValue49
theorem RX_st_49 : type_of% (Fx.run_storeN' Tryz.sizeOf49) := Fx.run_storeN' Tryz.sizeOf49
theorem RX_ld_49 : type_of% (Fx.run_loadN' Tryz.isAgg49 Tryz.sizeOf49) := Fx.run_loadN' Tryz.isAgg49 Tryz.sizeOf49
theorem RX_fld_49_2 : ∀ (b o : Nat) (w : World), (Instr.fieldAt 49 (.pointer (some ⟨b, o, none⟩)) 2).run Tryz.prog w = .ok (.pointer (some ⟨b, o + 2, none⟩)) w := Fx.run_fieldO 2 2 1 Tryz.underlying49 rfl Tryz.sizeOf3 (by decide)
theorem RX_fld_49_3 : ∀ (b o : Nat) (w : World), (Instr.fieldAt 49 (.pointer (some ⟨b, o, none⟩)) 3).run Tryz.prog w = .ok (.pointer (some ⟨b, o + 3, none⟩)) w := Fx.run_fieldO 3 3 1 Tryz.underlying49 rfl Tryz.sizeOf3 (by decide)
theorem RX_fld_91_3 : ∀ (b o : Nat) (w : World), (Instr.fieldAt 91 (.pointer (some ⟨b, o, none⟩)) 3).run Tryz.prog w = .ok (.pointer (some ⟨b, o + 199, none⟩)) w := Fx.run_fieldO 3 199 5 Tryz.underlying91 rfl Tryz.sizeOf49 (by decide)
theorem RX_fld_91_4 : ∀ (b o : Nat) (w : World), (Instr.fieldAt 91 (.pointer (some ⟨b, o, none⟩)) 4).run Tryz.prog w = .ok (.pointer (some ⟨b, o + 204, none⟩)) w := Fx.run_fieldO 4 204 3 Tryz.underlying91 rfl Tryz.sizeOf24 (by decide)
theorem RX_fld_91_5 : ∀ (b o : Nat) (w : World), (Instr.fieldAt 91 (.pointer (some ⟨b, o, none⟩)) 5).run Tryz.prog w = .ok (.pointer (some ⟨b, o + 207, none⟩)) w := Fx.run_fieldO 5 207 3 Tryz.underlying91 rfl Tryz.sizeOf24 (by decide)
theorem RX_call_32 : type_of% (Fx.kN_callf Tryz.call32) := Fx.kN_callf Tryz.call32
theorem RX_ld_51 : type_of% (Fx.run_loadN' Tryz.isAgg51 Tryz.sizeOf51) := Fx.run_loadN' Tryz.isAgg51 Tryz.sizeOf51
theorem RX_bs_39_1 : ∀ (v0 : Value) (w : World), [v0].all (fun v => v.oneCell') = true -> (Instr.buildSlice 39 1 [(0, v0)].toArray).run Tryz.prog w = .ok (.slice (some ⟨w.heap.size, 0, none⟩) 1 1) (w.alloc (.cells [v0].toArray 38)) := fun v0 w h => Fx.run_bsS Tryz.underlying39 (by kernel_rfl) [v0] (List.all_eq_true.1 h) (by simp) w
theorem RX_fld_51_3 : ∀ (b o : Nat) (w : World), (Instr.fieldAt 51 (.pointer (some ⟨b, o, none⟩)) 3).run Tryz.prog w = .ok (.pointer (some ⟨b, o + 3, none⟩)) w := Fx.run_fieldO 3 3 5 Tryz.underlying51 rfl Tryz.sizeOf49 (by decide)
theorem RX_fld_49_0 : ∀ (b o : Nat) (w : World), (Instr.fieldAt 49 (.pointer (some ⟨b, o, none⟩)) 0).run Tryz.prog w = .ok (.pointer (some ⟨b, o, none⟩)) w := Fx.run_fieldO 0 0 1 Tryz.underlying49 rfl Tryz.sizeOf3 (by decide)
theorem RX_call_33 : type_of% (Fx.kN_callf Tryz.call33) := Fx.kN_callf Tryz.call33
theorem RX_call_16 : type_of% (Fx.kN_callf Tryz.call16) := Fx.kN_callf Tryz.call16
theorem RX_call_44 : type_of% (Fx.kN_callf Tryz.call44) := Fx.kN_callf Tryz.call44
theorem RX_call_47 : type_of% (Fx.kN_callf Tryz.call47) := Fx.kN_callf Tryz.call47
theorem RX_bl_69_ : ∀  (w : World), (Instr.build 69 [].toArray).run Tryz.prog w = .ok (.agg [(.int .u64 0), (.int .u64 0), (.int .u64 0)].toArray) w := fun w => run_build w 69 _ _ (by kernel_rfl)
theorem RX_call_48 : type_of% (Fx.kN_callf Tryz.call48) := Fx.kN_callf Tryz.call48
theorem RX_scall_49 : type_of% (Fx.sN_callf Tryz.call49) := Fx.sN_callf Tryz.call49
theorem RX_eql_26 : ∀ (a0 b0 : Int) (a1 b1 : Int) (x y : Operand) (w : World), (binV .eql 26 x y (.agg [.int .u64 a0, .int .u64 a1].toArray) (.agg [.int .u64 b0, .int .u64 b1].toArray)).run Tryz.prog w = .ok (.bool (((a0 == b0) && ((a1 == b1) && true)))) w := fun a0 b0 a1 b1 x y w => Fx.eql_agg (by kernel_rfl) _ _ _ x y w (Fx.equalIn_struct (d := 9999) (by kernel_rfl) (by kernel_rfl) (q := [(22, 0), (22, 1)]) (by kernel_rfl) (by kernel_rfl) (Fx.eqQ_cons (Fx.part1 Tryz.isAgg22 rfl) (Fx.part1 Tryz.isAgg22 rfl) (run_equalIn_int _ 9998 22 .u64 .u64 _ _ Tryz.underlying22) (Fx.eqQ_cons (Fx.part1 Tryz.isAgg22 rfl) (Fx.part1 Tryz.isAgg22 rfl) (run_equalIn_int _ 9998 22 .u64 .u64 _ _ Tryz.underlying22) (Fx.eqQ_nil))))
theorem RX_bl_131_1_2 : ∀ (a1x0 : Int) (a2x0 : Int) (w : World), (Instr.build 131 [(1, .int .i64 a1x0), (2, .int .u64 a2x0)].toArray).run Tryz.prog w = .ok (.agg [(.int .i64 0), .int .i64 a1x0, .int .u64 a2x0].toArray) w := fun a1x0 a2x0 w => run_build w 131 _ _ (by kernel_rfl)
theorem RX_bl_131_0_1_2 : ∀ (a0x0 : Int) (a1x0 : Int) (a2x0 : Int) (w : World), (Instr.build 131 [(0, .int .i64 a0x0), (1, .int .i64 a1x0), (2, .int .u64 a2x0)].toArray).run Tryz.prog w = .ok (.agg [.int .i64 a0x0, .int .i64 a1x0, .int .u64 a2x0].toArray) w := fun a0x0 a1x0 a2x0 w => run_build w 131 _ _ (by kernel_rfl)
theorem RX_call_51 : type_of% (Fx.kN_callf Tryz.call51) := Fx.kN_callf Tryz.call51
theorem RX_bl_35_ : ∀  (w : World), (Instr.build 35 [].toArray).run Tryz.prog w = .ok (.agg [(.int .i64 0), (.slice none 0 0), (.slice none 0 0), (.slice none 0 0)].toArray) w := fun w => run_build w 35 _ _ (by kernel_rfl)
theorem RX_bl_35_0 : ∀ (a0x0 : Int) (w : World), (Instr.build 35 [(0, .int .i64 a0x0)].toArray).run Tryz.prog w = .ok (.agg [.int .i64 a0x0, (.slice none 0 0), (.slice none 0 0), (.slice none 0 0)].toArray) w := fun a0x0 w => run_build w 35 _ _ (by kernel_rfl)
theorem RX_call_58 : type_of% (Fx.kN_callf Tryz.call58) := Fx.kN_callf Tryz.call58
theorem RX_cv_3_151 : type_of% (Fx.run_convert_int Tryz.underlying3 Tryz.underlying151) := Fx.run_convert_int Tryz.underlying3 Tryz.underlying151
theorem RX_cv_22_5 : type_of% (Fx.run_convert_int Tryz.underlying22 Tryz.underlying5) := Fx.run_convert_int Tryz.underlying22 Tryz.underlying5
theorem RX_call_59 : type_of% (Fx.kN_callf Tryz.call59) := Fx.kN_callf Tryz.call59
theorem RX_call_45 : type_of% (Fx.kN_callf Tryz.call45) := Fx.kN_callf Tryz.call45
theorem RX_al_121 : type_of% (Fx.run_alloc Tryz.zeroValue121) := Fx.run_alloc Tryz.zeroValue121
theorem RX_st_121 : type_of% (Fx.run_storeN' Tryz.sizeOf121) := Fx.run_storeN' Tryz.sizeOf121
theorem RX_fld_121_2 : ∀ (b o : Nat) (w : World), (Instr.fieldAt 121 (.pointer (some ⟨b, o, none⟩)) 2).run Tryz.prog w = .ok (.pointer (some ⟨b, o + 7, none⟩)) w := Fx.run_fieldO 2 7 1 Tryz.underlying121 rfl Tryz.sizeOf4 (by decide)
theorem RX_ld_121 : type_of% (Fx.run_loadN' Tryz.isAgg121 Tryz.sizeOf121) := Fx.run_loadN' Tryz.isAgg121 Tryz.sizeOf121
theorem RX_call_64 : type_of% (Fx.kN_callf Tryz.call64) := Fx.kN_callf Tryz.call64
theorem RX_call_66 : type_of% (Fx.kN_callf Tryz.call66) := Fx.kN_callf Tryz.call66
theorem RX_scall_66 : type_of% (Fx.sN_callf Tryz.call66) := Fx.sN_callf Tryz.call66
theorem RX_fld_121_1 : ∀ (b o : Nat) (w : World), (Instr.fieldAt 121 (.pointer (some ⟨b, o, none⟩)) 1).run Tryz.prog w = .ok (.pointer (some ⟨b, o + 3, none⟩)) w := Fx.run_fieldO 1 3 4 Tryz.underlying121 rfl Tryz.sizeOf28 (by decide)
theorem RX_call_65 : type_of% (Fx.kN_callf Tryz.call65) := Fx.kN_callf Tryz.call65
theorem RX_scall_65 : type_of% (Fx.sN_callf Tryz.call65) := Fx.sN_callf Tryz.call65
theorem RX_call_67 : type_of% (Fx.kN_callf Tryz.call67) := Fx.kN_callf Tryz.call67
theorem RX_fld_91_1 : ∀ (b o : Nat) (w : World), (Instr.fieldAt 91 (.pointer (some ⟨b, o, none⟩)) 1).run Tryz.prog w = .ok (.pointer (some ⟨b, o + 99, none⟩)) w := Fx.run_fieldO 1 99 99 Tryz.underlying91 rfl Tryz.sizeOf42 (by decide)
theorem RX_bl_51_0_1_2_3 : ∀ (a0x0 : Int) (a1x0 : Int) (a2x0 : Int) (a3x0 : Int) (a3x1 : Int) (a3x2 : Int) (a3x3 : Int) (a3x4 : Int) (w : World), (Instr.build 51 [(0, .int .i64 a0x0), (1, .int .i64 a1x0), (2, .int .u64 a2x0), (3, .agg [.int .i64 a3x0, .int .i64 a3x1, .int .i64 a3x2, .int .i64 a3x3, .int .i64 a3x4].toArray)].toArray).run Tryz.prog w = .ok (.agg [.int .i64 a0x0, .int .i64 a1x0, .int .u64 a2x0, .int .i64 a3x0, .int .i64 a3x1, .int .i64 a3x2, .int .i64 a3x3, .int .i64 a3x4].toArray) w := fun a0x0 a1x0 a2x0 a3x0 a3x1 a3x2 a3x3 a3x4 w => run_build w 51 _ _ (by kernel_rfl)
theorem RX_call_68 : type_of% (Fx.kN_callf Tryz.call68) := Fx.kN_callf Tryz.call68
theorem RX_al_101 : type_of% (Fx.run_alloc Tryz.zeroValue101) := Fx.run_alloc Tryz.zeroValue101
theorem RX_st_101 : type_of% (Fx.run_storeN' Tryz.sizeOf101) := Fx.run_storeN' Tryz.sizeOf101
theorem RX_ld_101 : type_of% (Fx.run_loadN' Tryz.isAgg101 Tryz.sizeOf101) := Fx.run_loadN' Tryz.isAgg101 Tryz.sizeOf101
theorem RX_call_37 : type_of% (Fx.kN_callf Tryz.call37) := Fx.kN_callf Tryz.call37
theorem RX_fld_101_1 : ∀ (b o : Nat) (w : World), (Instr.fieldAt 101 (.pointer (some ⟨b, o, none⟩)) 1).run Tryz.prog w = .ok (.pointer (some ⟨b, o + 1, none⟩)) w := Fx.run_fieldO 1 1 1 Tryz.underlying101 rfl Tryz.sizeOf5 (by decide)
theorem RX_ld_5 : type_of% (Fx.run_load1' Tryz.isAgg5) := Fx.run_load1' Tryz.isAgg5
theorem RX_call_35 : type_of% (Fx.kN_callf Tryz.call35) := Fx.kN_callf Tryz.call35
theorem RX_call_69 : type_of% (Fx.kN_callf Tryz.call69) := Fx.kN_callf Tryz.call69
theorem RX_bl_49_0_4 : ∀ (a0x0 : Int) (a4x0 : Int) (w : World), (Instr.build 49 [(0, .int .i64 a0x0), (4, .int .i64 a4x0)].toArray).run Tryz.prog w = .ok (.agg [.int .i64 a0x0, (.int .i64 0), (.int .i64 0), (.int .i64 0), .int .i64 a4x0].toArray) w := fun a0x0 a4x0 w => run_build w 49 _ _ (by kernel_rfl)
theorem RX_call_38 : type_of% (Fx.kN_callf Tryz.call38) := Fx.kN_callf Tryz.call38
theorem RX_scall_38 : type_of% (Fx.sN_callf Tryz.call38) := Fx.sN_callf Tryz.call38
theorem RX_fld_49_1 : ∀ (b o : Nat) (w : World), (Instr.fieldAt 49 (.pointer (some ⟨b, o, none⟩)) 1).run Tryz.prog w = .ok (.pointer (some ⟨b, o + 1, none⟩)) w := Fx.run_fieldO 1 1 1 Tryz.underlying49 rfl Tryz.sizeOf3 (by decide)
theorem RX_st_3 : type_of% (Fx.run_store1' Tryz.sizeOf3) := Fx.run_store1' Tryz.sizeOf3
theorem RX_bl_49_ : ∀  (w : World), (Instr.build 49 [].toArray).run Tryz.prog w = .ok (.agg [(.int .i64 0), (.int .i64 0), (.int .i64 0), (.int .i64 0), (.int .i64 0)].toArray) w := fun w => run_build w 49 _ _ (by kernel_rfl)
theorem RX_call_70 : type_of% (Fx.kN_callf Tryz.call70) := Fx.kN_callf Tryz.call70
theorem RX_scall_70 : type_of% (Fx.sN_callf Tryz.call70) := Fx.sN_callf Tryz.call70
theorem RX_call_71 : type_of% (Fx.kN_callf Tryz.call71) := Fx.kN_callf Tryz.call71
theorem RX_call_72 : type_of% (Fx.kN_callf Tryz.call72) := Fx.kN_callf Tryz.call72
theorem RX_call_73 : type_of% (Fx.kN_callf Tryz.call73) := Fx.kN_callf Tryz.call73
theorem RX_fld_49_4 : ∀ (b o : Nat) (w : World), (Instr.fieldAt 49 (.pointer (some ⟨b, o, none⟩)) 4).run Tryz.prog w = .ok (.pointer (some ⟨b, o + 4, none⟩)) w := Fx.run_fieldO 4 4 1 Tryz.underlying49 rfl Tryz.sizeOf2 (by decide)
theorem RX_ld_2 : type_of% (Fx.run_load1' Tryz.isAgg2) := Fx.run_load1' Tryz.isAgg2
theorem RX_cv_2_22 : type_of% (Fx.run_convert_int Tryz.underlying2 Tryz.underlying22) := Fx.run_convert_int Tryz.underlying2 Tryz.underlying22
theorem RX_fld_91_0 : ∀ (b o : Nat) (w : World), (Instr.fieldAt 91 (.pointer (some ⟨b, o, none⟩)) 0).run Tryz.prog w = .ok (.pointer (some ⟨b, o, none⟩)) w := Fx.run_fieldO 0 0 99 Tryz.underlying91 rfl Tryz.sizeOf42 (by decide)
theorem RX_call_75 : type_of% (Fx.kN_callf Tryz.call75) := Fx.kN_callf Tryz.call75
theorem RX_call_74 : type_of% (Fx.kN_callf Tryz.call74) := Fx.kN_callf Tryz.call74
theorem RX_call_76 : type_of% (Fx.kN_callf Tryz.call76) := Fx.kN_callf Tryz.call76
theorem RX_call_77 : type_of% (Fx.kN_callf Tryz.call77) := Fx.kN_callf Tryz.call77
theorem RX_call_78 : type_of% (Fx.kN_callf Tryz.call78) := Fx.kN_callf Tryz.call78
theorem RX_scall_78 : type_of% (Fx.sN_callf Tryz.call78) := Fx.sN_callf Tryz.call78
theorem RX_call_79 : type_of% (Fx.kN_callf Tryz.call79) := Fx.kN_callf Tryz.call79
theorem RX_scall_79 : type_of% (Fx.sN_callf Tryz.call79) := Fx.sN_callf Tryz.call79
theorem RX_call_80 : type_of% (Fx.kN_callf Tryz.call80) := Fx.kN_callf Tryz.call80
theorem RX_bl_24_2 : ∀ (a2x0 : Int) (w : World), (Instr.build 24 [(2, .int .u64 a2x0)].toArray).run Tryz.prog w = .ok (.agg [(.bool false), (.int .u64 0), .int .u64 a2x0].toArray) w := fun a2x0 w => run_build w 24 _ _ (by kernel_rfl)
theorem RX_al_106 : type_of% (Fx.run_alloc Tryz.zeroValue106) := Fx.run_alloc Tryz.zeroValue106
theorem RX_bl_169_0_1_2 : ∀ (a0x0 : Int) (a1x0 : Int) (a2x0 : Int) (w : World), (Instr.build 169 [(0, .int .i64 a0x0), (1, .int .i64 a1x0), (2, .int .i64 a2x0)].toArray).run Tryz.prog w = .ok (.agg [.int .i64 a0x0, .int .i64 a1x0, .int .i64 a2x0].toArray) w := fun a0x0 a1x0 a2x0 w => run_build w 169 _ _ (by kernel_rfl)
theorem RX_bs_104_1 : ∀ (vs : List Value) (w : World), vs.length = 3 -> (Instr.buildSlice 104 1 [(0, .agg vs.toArray)].toArray).run Tryz.prog w = .ok (.slice (some ⟨w.heap.size, 0, none⟩) 1 1) (w.alloc (.cells vs.toArray 169)) := fun vs w h => Fx.run_bs1 Tryz.underlying104 (by kernel_rfl) (by decide) vs h w
theorem RX_bl_106_0_1_2_3 : ∀ (a0x0 : Option Addr) (a0x0n a0x0c : Nat) (a1x0 : Int) (a2x0 : Bool) (a3x0 : Int) (w : World), (Instr.build 106 [(0, .slice a0x0 a0x0n a0x0c), (1, .int .i64 a1x0), (2, .bool a2x0), (3, .int .i64 a3x0)].toArray).run Tryz.prog w = .ok (.agg [.slice a0x0 a0x0n a0x0c, .int .i64 a1x0, .bool a2x0, .int .i64 a3x0].toArray) w := fun a0x0 a0x0n a0x0c a1x0 a2x0 a3x0 w => run_build w 106 _ _ (by kernel_rfl)
theorem RX_st_106 : type_of% (Fx.run_storeN' Tryz.sizeOf106) := Fx.run_storeN' Tryz.sizeOf106
theorem RX_bl_106_ : ∀  (w : World), (Instr.build 106 [].toArray).run Tryz.prog w = .ok (.agg [(.slice none 0 0), (.int .i64 0), (.bool false), (.int .i64 0)].toArray) w := fun w => run_build w 106 _ _ (by kernel_rfl)
theorem RX_ld_106 : type_of% (Fx.run_loadN' Tryz.isAgg106 Tryz.sizeOf106) := Fx.run_loadN' Tryz.isAgg106 Tryz.sizeOf106
theorem RX_al_22 : type_of% (Fx.run_alloc Tryz.zeroValue22) := Fx.run_alloc Tryz.zeroValue22
theorem RX_call_82 : type_of% (Fx.kN_callf Tryz.call82) := Fx.kN_callf Tryz.call82
theorem RX_fld_101_2 : ∀ (b o : Nat) (w : World), (Instr.fieldAt 101 (.pointer (some ⟨b, o, none⟩)) 2).run Tryz.prog w = .ok (.pointer (some ⟨b, o + 2, none⟩)) w := Fx.run_fieldO 2 2 1 Tryz.underlying101 rfl Tryz.sizeOf22 (by decide)
theorem RX_fld_101_4 : ∀ (b o : Nat) (w : World), (Instr.fieldAt 101 (.pointer (some ⟨b, o, none⟩)) 4).run Tryz.prog w = .ok (.pointer (some ⟨b, o + 4, none⟩)) w := Fx.run_fieldO 4 4 1 Tryz.underlying101 rfl Tryz.sizeOf22 (by decide)
theorem RX_fld_101_3 : ∀ (b o : Nat) (w : World), (Instr.fieldAt 101 (.pointer (some ⟨b, o, none⟩)) 3).run Tryz.prog w = .ok (.pointer (some ⟨b, o + 3, none⟩)) w := Fx.run_fieldO 3 3 1 Tryz.underlying101 rfl Tryz.sizeOf22 (by decide)
theorem RX_call_86 : type_of% (Fx.kN_callf Tryz.call86) := Fx.kN_callf Tryz.call86
theorem RX_bl_121_0_1_2 : ∀ (a0x0 : Bool) (a0x1 : Int) (a0x2 : Int) (a1x0 : Int) (a1x1 : Int) (a1x2 : Int) (a1x3 : Int) (a2x0 : Bool) (w : World), (Instr.build 121 [(0, .agg [.bool a0x0, .int .u64 a0x1, .int .u64 a0x2].toArray), (1, .agg [.int .u64 a1x0, .int .u64 a1x1, .int .u64 a1x2, .int .u64 a1x3].toArray), (2, .bool a2x0)].toArray).run Tryz.prog w = .ok (.agg [.bool a0x0, .int .u64 a0x1, .int .u64 a0x2, .int .u64 a1x0, .int .u64 a1x1, .int .u64 a1x2, .int .u64 a1x3, .bool a2x0].toArray) w := fun a0x0 a0x1 a0x2 a1x0 a1x1 a1x2 a1x3 a2x0 w => run_build w 121 _ _ (by kernel_rfl)
theorem RX_call_88 : type_of% (Fx.kN_callf Tryz.call88) := Fx.kN_callf Tryz.call88
theorem RX_scall_88 : type_of% (Fx.sN_callf Tryz.call88) := Fx.sN_callf Tryz.call88
theorem RX_call_89 : type_of% (Fx.kN_callf Tryz.call89) := Fx.kN_callf Tryz.call89
theorem RX_call_90 : type_of% (Fx.kN_callf Tryz.call90) := Fx.kN_callf Tryz.call90
theorem RX_len_179 : ∀ (a : Option Addr) (len cap : Nat) (w : World), (Builtin.len_ #[179] 3 #[.slice a len cap]).run Tryz.prog w = .ok (.int .i64 len) w := Fx.run_len_slice Tryz.underlying179
theorem RX_ix_179 : type_of% (Fx.run_index_slice Tryz.underlying179 Tryz.sizeOf131) := Fx.run_index_slice Tryz.underlying179 Tryz.sizeOf131
theorem RX_ld_131 : type_of% (Fx.run_loadN' Tryz.isAgg131 Tryz.sizeOf131) := Fx.run_loadN' Tryz.isAgg131 Tryz.sizeOf131
theorem RX_al_131 : type_of% (Fx.run_alloc Tryz.zeroValue131) := Fx.run_alloc Tryz.zeroValue131
theorem RX_st_131 : type_of% (Fx.run_storeN' Tryz.sizeOf131) := Fx.run_storeN' Tryz.sizeOf131
theorem RX_call_62 : type_of% (Fx.kN_callf Tryz.call62) := Fx.kN_callf Tryz.call62
theorem RX_bs_32_0 : ∀ (w : World), (Instr.buildSlice 32 0 #[]).run Tryz.prog w = .ok (.slice (some ⟨w.heap.size, 0, none⟩) 0 0) (w.alloc (.cells [].toArray 22)) := Fx.run_bs0 Tryz.underlying32 (size := 1) (by kernel_rfl)
theorem RX_fld_35_1 : ∀ (b o : Nat) (w : World), (Instr.fieldAt 35 (.pointer (some ⟨b, o, none⟩)) 1).run Tryz.prog w = .ok (.pointer (some ⟨b, o + 1, none⟩)) w := Fx.run_fieldO 1 1 1 Tryz.underlying35 rfl Tryz.sizeOf32 (by decide)
theorem RX_ld_32 : type_of% (Fx.run_load1' Tryz.isAgg32) := Fx.run_load1' Tryz.isAgg32
theorem RX_bs_32_1 : ∀ (v0 : Value) (w : World), [v0].all (fun v => v.oneCell') = true -> (Instr.buildSlice 32 1 [(0, v0)].toArray).run Tryz.prog w = .ok (.slice (some ⟨w.heap.size, 0, none⟩) 1 1) (w.alloc (.cells [v0].toArray 22)) := fun v0 w h => Fx.run_bsS Tryz.underlying32 (by kernel_rfl) [v0] (List.all_eq_true.1 h) (by simp) w
theorem RX_st_32 : type_of% (Fx.run_store1' Tryz.sizeOf32) := Fx.run_store1' Tryz.sizeOf32
theorem RX_bs_33_0 : ∀ (w : World), (Instr.buildSlice 33 0 #[]).run Tryz.prog w = .ok (.slice (some ⟨w.heap.size, 0, none⟩) 0 0) (w.alloc (.cells [].toArray 5)) := Fx.run_bs0 Tryz.underlying33 (size := 1) (by kernel_rfl)
theorem RX_fld_35_2 : ∀ (b o : Nat) (w : World), (Instr.fieldAt 35 (.pointer (some ⟨b, o, none⟩)) 2).run Tryz.prog w = .ok (.pointer (some ⟨b, o + 2, none⟩)) w := Fx.run_fieldO 2 2 1 Tryz.underlying35 rfl Tryz.sizeOf33 (by decide)
theorem RX_ld_33 : type_of% (Fx.run_load1' Tryz.isAgg33) := Fx.run_load1' Tryz.isAgg33
theorem RX_bs_33_1 : ∀ (v0 : Value) (w : World), [v0].all (fun v => v.oneCell') = true -> (Instr.buildSlice 33 1 [(0, v0)].toArray).run Tryz.prog w = .ok (.slice (some ⟨w.heap.size, 0, none⟩) 1 1) (w.alloc (.cells [v0].toArray 5)) := fun v0 w h => Fx.run_bsS Tryz.underlying33 (by kernel_rfl) [v0] (List.all_eq_true.1 h) (by simp) w
theorem RX_st_33 : type_of% (Fx.run_store1' Tryz.sizeOf33) := Fx.run_store1' Tryz.sizeOf33
theorem RX_call_92 : type_of% (Fx.kN_callf Tryz.call92) := Fx.kN_callf Tryz.call92
theorem RX_fld_35_0 : ∀ (b o : Nat) (w : World), (Instr.fieldAt 35 (.pointer (some ⟨b, o, none⟩)) 0).run Tryz.prog w = .ok (.pointer (some ⟨b, o, none⟩)) w := Fx.run_fieldO 0 0 1 Tryz.underlying35 rfl Tryz.sizeOf3 (by decide)
theorem RX_call_94 : type_of% (Fx.kN_callf Tryz.call94) := Fx.kN_callf Tryz.call94
theorem RX_al_160 : type_of% (Fx.run_alloc Tryz.zeroValue160) := Fx.run_alloc Tryz.zeroValue160
theorem RX_bl_101_0_1_2_3_4 : ∀ (a0x0 : ByteArray) (a1x0 : Int) (a2x0 : Int) (a3x0 : Int) (a4x0 : Int) (w : World), (Instr.build 101 [(0, .string a0x0), (1, .int .u8 a1x0), (2, .int .u64 a2x0), (3, .int .u64 a3x0), (4, .int .u64 a4x0)].toArray).run Tryz.prog w = .ok (.agg [.string a0x0, .int .u8 a1x0, .int .u64 a2x0, .int .u64 a3x0, .int .u64 a4x0].toArray) w := fun a0x0 a1x0 a2x0 a3x0 a4x0 w => run_build w 101 _ _ (by kernel_rfl)
theorem RX_st_160 : type_of% (Fx.run_storeN' Tryz.sizeOf160) := Fx.run_storeN' Tryz.sizeOf160
theorem RX_ld_160 : type_of% (Fx.run_loadN' Tryz.isAgg160 Tryz.sizeOf160) := Fx.run_loadN' Tryz.isAgg160 Tryz.sizeOf160
theorem RX_fld_106_0 : ∀ (b o : Nat) (w : World), (Instr.fieldAt 106 (.pointer (some ⟨b, o, none⟩)) 0).run Tryz.prog w = .ok (.pointer (some ⟨b, o, none⟩)) w := Fx.run_fieldO 0 0 1 Tryz.underlying106 rfl Tryz.sizeOf104 (by decide)
theorem RX_ld_104 : type_of% (Fx.run_load1' Tryz.isAgg104) := Fx.run_load1' Tryz.isAgg104
theorem RX_len_104 : ∀ (a : Option Addr) (len cap : Nat) (w : World), (Builtin.len_ #[104] 3 #[.slice a len cap]).run Tryz.prog w = .ok (.int .i64 len) w := Fx.run_len_slice Tryz.underlying104
theorem RX_ix_104 : type_of% (Fx.run_index_slice Tryz.underlying104 Tryz.sizeOf169) := Fx.run_index_slice Tryz.underlying104 Tryz.sizeOf169
theorem RX_ld_169 : type_of% (Fx.run_loadN' Tryz.isAgg169 Tryz.sizeOf169) := Fx.run_loadN' Tryz.isAgg169 Tryz.sizeOf169
theorem RX_al_169 : type_of% (Fx.run_alloc Tryz.zeroValue169) := Fx.run_alloc Tryz.zeroValue169
theorem RX_st_169 : type_of% (Fx.run_storeN' Tryz.sizeOf169) := Fx.run_storeN' Tryz.sizeOf169
theorem RX_fld_169_0 : ∀ (b o : Nat) (w : World), (Instr.fieldAt 169 (.pointer (some ⟨b, o, none⟩)) 0).run Tryz.prog w = .ok (.pointer (some ⟨b, o, none⟩)) w := Fx.run_fieldO 0 0 1 Tryz.underlying169 rfl Tryz.sizeOf3 (by decide)
theorem RX_fld_169_1 : ∀ (b o : Nat) (w : World), (Instr.fieldAt 169 (.pointer (some ⟨b, o, none⟩)) 1).run Tryz.prog w = .ok (.pointer (some ⟨b, o + 1, none⟩)) w := Fx.run_fieldO 1 1 1 Tryz.underlying169 rfl Tryz.sizeOf3 (by decide)
theorem RX_fld_169_2 : ∀ (b o : Nat) (w : World), (Instr.fieldAt 169 (.pointer (some ⟨b, o, none⟩)) 2).run Tryz.prog w = .ok (.pointer (some ⟨b, o + 2, none⟩)) w := Fx.run_fieldO 2 2 1 Tryz.underlying169 rfl Tryz.sizeOf3 (by decide)
theorem RX_fld_106_2 : ∀ (b o : Nat) (w : World), (Instr.fieldAt 106 (.pointer (some ⟨b, o, none⟩)) 2).run Tryz.prog w = .ok (.pointer (some ⟨b, o + 2, none⟩)) w := Fx.run_fieldO 2 2 1 Tryz.underlying106 rfl Tryz.sizeOf4 (by decide)
theorem RX_fld_106_1 : ∀ (b o : Nat) (w : World), (Instr.fieldAt 106 (.pointer (some ⟨b, o, none⟩)) 1).run Tryz.prog w = .ok (.pointer (some ⟨b, o + 1, none⟩)) w := Fx.run_fieldO 1 1 1 Tryz.underlying106 rfl Tryz.sizeOf3 (by decide)
theorem RX_call_83 : type_of% (Fx.kN_callf Tryz.call83) := Fx.kN_callf Tryz.call83
theorem RX_scall_83 : type_of% (Fx.sN_callf Tryz.call83) := Fx.sN_callf Tryz.call83
theorem RX_cv_22_2 : type_of% (Fx.run_convert_int Tryz.underlying22 Tryz.underlying2) := Fx.run_convert_int Tryz.underlying22 Tryz.underlying2
theorem RX_bl_185 : ∀ (a0 : Int) (a1 : Int) (a2 : Int) (a3 : Int) (w : World), (Instr.build 185 [(0, .int .i64 a0), (1, .int .i64 a1), (2, .int .i64 a2), (3, .int .i64 a3)].toArray).run Tryz.prog w = .ok (.agg [.int .i64 a0, .int .i64 a1, .int .i64 a2, .int .i64 a3].toArray) w := fun a0 a1 a2 a3 w => run_build w 185 _ _ (by kernel_rfl)
theorem RX_al_185 : type_of% (Fx.run_alloc Tryz.zeroValue185) := Fx.run_alloc Tryz.zeroValue185
theorem RX_st_185 : type_of% (Fx.run_storeN' Tryz.sizeOf185) := Fx.run_storeN' Tryz.sizeOf185
theorem RX_bl_186 : ∀ (a0 : Int) (a1 : Int) (a2 : Int) (a3 : Int) (a4 : Int) (a5 : Int) (a6 : Int) (w : World), (Instr.build 186 [(0, .int .i64 a0), (1, .int .i64 a1), (2, .int .i64 a2), (3, .int .i64 a3), (4, .int .i64 a4), (5, .int .i64 a5), (6, .int .i64 a6)].toArray).run Tryz.prog w = .ok (.agg [.int .i64 a0, .int .i64 a1, .int .i64 a2, .int .i64 a3, .int .i64 a4, .int .i64 a5, .int .i64 a6].toArray) w := fun a0 a1 a2 a3 a4 a5 a6 w => run_build w 186 _ _ (by kernel_rfl)
theorem RX_al_186 : type_of% (Fx.run_alloc Tryz.zeroValue186) := Fx.run_alloc Tryz.zeroValue186
theorem RX_st_186 : type_of% (Fx.run_storeN' Tryz.sizeOf186) := Fx.run_storeN' Tryz.sizeOf186
theorem RX_call_97 : type_of% (Fx.kN_callf Tryz.call97) := Fx.kN_callf Tryz.call97
theorem RX_scall_97 : type_of% (Fx.sN_callf Tryz.call97) := Fx.sN_callf Tryz.call97
theorem RX_ix_186 : type_of% (Fx.run_index_array Tryz.underlying186 Tryz.sizeOf3) := Fx.run_index_array Tryz.underlying186 Tryz.sizeOf3
theorem RX_call_98 : type_of% (Fx.kN_callf Tryz.call98) := Fx.kN_callf Tryz.call98
theorem RX_scall_98 : type_of% (Fx.sN_callf Tryz.call98) := Fx.sN_callf Tryz.call98
theorem RX_ix_185 : type_of% (Fx.run_index_array Tryz.underlying185 Tryz.sizeOf3) := Fx.run_index_array Tryz.underlying185 Tryz.sizeOf3
theorem RX_call_99 : type_of% (Fx.kN_callf Tryz.call99) := Fx.kN_callf Tryz.call99
theorem RX_scall_99 : type_of% (Fx.sN_callf Tryz.call99) := Fx.sN_callf Tryz.call99
theorem RX_fld_91_2 : ∀ (b o : Nat) (w : World), (Instr.fieldAt 91 (.pointer (some ⟨b, o, none⟩)) 2).run Tryz.prog w = .ok (.pointer (some ⟨b, o + 198, none⟩)) w := Fx.run_fieldO 2 198 1 Tryz.underlying91 rfl Tryz.sizeOf87 (by decide)
theorem RX_ld_87 : type_of% (Fx.run_load1' Tryz.isAgg87) := Fx.run_load1' Tryz.isAgg87
theorem RX_call_87 : type_of% (Fx.kN_callf Tryz.call87) := Fx.kN_callf Tryz.call87
theorem RX_call_101 : type_of% (Fx.kN_callf Tryz.call101) := Fx.kN_callf Tryz.call101
theorem RX_call_100 : type_of% (Fx.kN_callf Tryz.call100) := Fx.kN_callf Tryz.call100
theorem RX_call_96 : type_of% (Fx.kN_callf Tryz.call96) := Fx.kN_callf Tryz.call96
theorem RX_call_102 : type_of% (Fx.kN_callf Tryz.call102) := Fx.kN_callf Tryz.call102
theorem RX_scall_102 : type_of% (Fx.sN_callf Tryz.call102) := Fx.sN_callf Tryz.call102
theorem RX_call_109 : type_of% (Fx.kN_callf Tryz.call109) := Fx.kN_callf Tryz.call109
theorem RX_scall_109 : type_of% (Fx.sN_callf Tryz.call109) := Fx.sN_callf Tryz.call109
theorem RX_call_110 : type_of% (Fx.kN_callf Tryz.call110) := Fx.kN_callf Tryz.call110
theorem RX_call_111 : type_of% (Fx.kN_callf Tryz.call111) := Fx.kN_callf Tryz.call111
theorem RX_scall_111 : type_of% (Fx.sN_callf Tryz.call111) := Fx.sN_callf Tryz.call111
theorem RX_fld_131_0 : ∀ (b o : Nat) (w : World), (Instr.fieldAt 131 (.pointer (some ⟨b, o, none⟩)) 0).run Tryz.prog w = .ok (.pointer (some ⟨b, o, none⟩)) w := Fx.run_fieldO 0 0 1 Tryz.underlying131 rfl Tryz.sizeOf3 (by decide)
theorem RX_fld_131_1 : ∀ (b o : Nat) (w : World), (Instr.fieldAt 131 (.pointer (some ⟨b, o, none⟩)) 1).run Tryz.prog w = .ok (.pointer (some ⟨b, o + 1, none⟩)) w := Fx.run_fieldO 1 1 1 Tryz.underlying131 rfl Tryz.sizeOf3 (by decide)
theorem RX_fld_131_2 : ∀ (b o : Nat) (w : World), (Instr.fieldAt 131 (.pointer (some ⟨b, o, none⟩)) 2).run Tryz.prog w = .ok (.pointer (some ⟨b, o + 2, none⟩)) w := Fx.run_fieldO 2 2 1 Tryz.underlying131 rfl Tryz.sizeOf22 (by decide)
theorem RX_fld_35_3 : ∀ (b o : Nat) (w : World), (Instr.fieldAt 35 (.pointer (some ⟨b, o, none⟩)) 3).run Tryz.prog w = .ok (.pointer (some ⟨b, o + 3, none⟩)) w := Fx.run_fieldO 3 3 1 Tryz.underlying35 rfl Tryz.sizeOf32 (by decide)
theorem RX_len_32 : ∀ (a : Option Addr) (len cap : Nat) (w : World), (Builtin.len_ #[32] 3 #[.slice a len cap]).run Tryz.prog w = .ok (.int .i64 len) w := Fx.run_len_slice Tryz.underlying32
theorem RX_ix_32 : type_of% (Fx.run_index_slice Tryz.underlying32 Tryz.sizeOf22) := Fx.run_index_slice Tryz.underlying32 Tryz.sizeOf22
theorem RX_bl_51_3 : ∀ (a3x0 : Int) (a3x1 : Int) (a3x2 : Int) (a3x3 : Int) (a3x4 : Int) (w : World), (Instr.build 51 [(3, .agg [.int .i64 a3x0, .int .i64 a3x1, .int .i64 a3x2, .int .i64 a3x3, .int .i64 a3x4].toArray)].toArray).run Tryz.prog w = .ok (.agg [(.int .i64 0), (.int .i64 0), (.int .u64 0), .int .i64 a3x0, .int .i64 a3x1, .int .i64 a3x2, .int .i64 a3x3, .int .i64 a3x4].toArray) w := fun a3x0 a3x1 a3x2 a3x3 a3x4 w => run_build w 51 _ _ (by kernel_rfl)
theorem RX_cv_5_3 : type_of% (Fx.run_convert_int Tryz.underlying5 Tryz.underlying3) := Fx.run_convert_int Tryz.underlying5 Tryz.underlying3
theorem RX_call_124 : type_of% (Fx.kN_callf Tryz.call124) := Fx.kN_callf Tryz.call124
theorem RX_scall_124 : type_of% (Fx.sN_callf Tryz.call124) := Fx.sN_callf Tryz.call124
theorem RX_call_158 : type_of% (Fx.kN_callf Tryz.call158) := Fx.kN_callf Tryz.call158
theorem RX_fld_55_0 : ∀ (b o : Nat) (w : World), (Instr.fieldAt 55 (.pointer (some ⟨b, o, none⟩)) 0).run Tryz.prog w = .ok (.pointer (some ⟨b, o, none⟩)) w := Fx.run_fieldO 0 0 1 Tryz.underlying55 rfl Tryz.sizeOf31 (by decide)
theorem RX_ld_31 : type_of% (Fx.run_load1' Tryz.isAgg31) := Fx.run_load1' Tryz.isAgg31
theorem RX_call_147 : type_of% (Fx.kN_callf Tryz.call147) := Fx.kN_callf Tryz.call147
theorem RX_cv_22_38 : type_of% (Fx.run_convert_int Tryz.underlying22 Tryz.underlying38) := Fx.run_convert_int Tryz.underlying22 Tryz.underlying38
theorem RX_call_163 : type_of% (Fx.kN_callf Tryz.call163) := Fx.kN_callf Tryz.call163
theorem RX_scall_163 : type_of% (Fx.sN_callf Tryz.call163) := Fx.sN_callf Tryz.call163
theorem RX_call_159 : type_of% (Fx.kN_callf Tryz.call159) := Fx.kN_callf Tryz.call159
theorem RX_call_160 : type_of% (Fx.kN_callf Tryz.call160) := Fx.kN_callf Tryz.call160
theorem RX_call_148 : type_of% (Fx.kN_callf Tryz.call148) := Fx.kN_callf Tryz.call148
theorem RX_call_161 : type_of% (Fx.kN_callf Tryz.call161) := Fx.kN_callf Tryz.call161
theorem RX_call_162 : type_of% (Fx.kN_callf Tryz.call162) := Fx.kN_callf Tryz.call162
theorem rulesX : type_of% (And.intro @RX_call_3 (And.intro @RX_bl_28_1 (And.intro @RC_al_28 (And.intro @RC_st_28 (And.intro @RX_fld_28_0 (And.intro @RX_fld_26_0 (And.intro @RC_st_22 (And.intro @RX_fld_26_1 (And.intro @RC_ld_28 (And.intro @RX_call_6 (And.intro @RX_al_24 (And.intro @RX_st_24 (And.intro @RX_fld_24_0 (And.intro @RX_st_4 (And.intro @RX_cv_3_22 (And.intro @RC_fld_24_2 (And.intro @RX_bs_39_2 (And.intro @RX_call_7 (And.intro @RX_al_35 (And.intro @RX_st_35 (And.intro @RX_bl_24_0_1 (And.intro @RX_call_8 (And.intro @RX_al_42 (And.intro @RX_st_42 (And.intro @RX_ld_42 (And.intro @RX_ld_24 (And.intro @RX_call_9 (And.intro @RX_bl_55_0 (And.intro @RX_call_10 (And.intro @RX_al_51 (And.intro @RX_st_51 (And.intro @RX_fld_28_1 (And.intro @RC_ld_22 (And.intro @RX_ld_4 (And.intro @RX_fld_51_0 (And.intro @RX_ld_3 (And.intro @RX_eql_4 (And.intro @RX_call_11 (And.intro @RX_eql_24 (And.intro @RX_call_12 (And.intro @RC_ld_26 (And.intro @RX_call_18 (And.intro @RC_al_69 (And.intro @RC_st_69 (And.intro @RC_ld_69 (And.intro @RC_call_19 (And.intro @RC_al_26 (And.intro @RC_st_26 (And.intro @RX_neq_26 (And.intro @RX_fld_28_2 (And.intro @RX_bl_24_ (And.intro @RX_call_20 (And.intro @RX_bl_24_1_2 (And.intro @RX_call_21 (And.intro @RX_call_22 (And.intro @RX_fld_45_0 (And.intro @RX_ld_39 (And.intro @RX_len_39 (And.intro @RX_fld_45_2 (And.intro @RX_ld_43 (And.intro @RX_len_43 (And.intro @RX_eql_31 (And.intro @RX_ld_35 (And.intro @RX_ix_39 (And.intro @RX_ld_38 (And.intro @RX_cv_38_22 (And.intro @RX_call_23 (And.intro @RX_call_24 (And.intro @RX_ix_43 (And.intro @RX_call_25 (And.intro @RX_call_26 (And.intro @RX_call_27 (And.intro @RX_scall_27 (And.intro @RX_fld_42_0 (And.intro @RX_ix_40 (And.intro @RX_fld_42_1 (And.intro @RX_call_28 (And.intro @RX_call_29 (And.intro @RX_call_30 (And.intro @RX_call_31 (And.intro @RX_al_49 (And.intro @RX_st_49 (And.intro @RX_ld_49 (And.intro @RX_fld_49_2 (And.intro @RX_fld_49_3 (And.intro @RX_fld_91_3 (And.intro @RX_fld_91_4 (And.intro @RX_fld_91_5 (And.intro @RX_call_32 (And.intro @RX_ld_51 (And.intro @RX_bs_39_1 (And.intro @RX_fld_51_3 (And.intro @RX_fld_49_0 (And.intro @RX_call_33 (And.intro @RX_call_16 (And.intro @RX_call_44 (And.intro @RX_call_47 (And.intro @RX_bl_69_ (And.intro @RX_call_48 (And.intro @RC_call_49 (And.intro @RX_scall_49 (And.intro @RC_bl_69_0_1_2 (And.intro @RX_eql_26 (And.intro @RC_call_50 (And.intro @RX_bl_131_1_2 (And.intro @RX_bl_131_0_1_2 (And.intro @RX_call_51 (And.intro @RX_bl_35_ (And.intro @RX_bl_35_0 (And.intro @RX_call_58 (And.intro @RX_cv_3_151 (And.intro @RX_cv_22_5 (And.intro @RX_call_59 (And.intro @RX_call_45 (And.intro @RX_al_121 (And.intro @RX_st_121 (And.intro @RX_fld_121_2 (And.intro @RX_ld_121 (And.intro @RX_call_64 (And.intro @RX_call_66 (And.intro @RX_scall_66 (And.intro @RX_fld_121_1 (And.intro @RX_call_65 (And.intro @RX_scall_65 (And.intro @RX_call_67 (And.intro @RX_fld_91_1 (And.intro @RX_bl_51_0_1_2_3 (And.intro @RX_call_68 (And.intro @RX_al_101 (And.intro @RX_st_101 (And.intro @RX_ld_101 (And.intro @RX_call_37 (And.intro @RX_fld_101_1 (And.intro @RX_ld_5 (And.intro @RX_call_35 (And.intro @RX_call_69 (And.intro @RX_bl_49_0_4 (And.intro @RX_call_38 (And.intro @RX_scall_38 (And.intro @RC_call_43 (And.intro @RC_cv_22_3 (And.intro @RX_fld_49_1 (And.intro @RX_st_3 (And.intro @RX_bl_49_ (And.intro @RX_call_70 (And.intro @RX_scall_70 (And.intro @RX_call_71 (And.intro @RX_call_72 (And.intro @RX_call_73 (And.intro @RX_fld_49_4 (And.intro @RX_ld_2 (And.intro @RX_cv_2_22 (And.intro @RX_fld_91_0 (And.intro @RX_call_75 (And.intro @RX_call_74 (And.intro @RX_call_76 (And.intro @RX_call_77 (And.intro @RX_call_78 (And.intro @RX_scall_78 (And.intro @RX_call_79 (And.intro @RX_scall_79 (And.intro @RX_call_80 (And.intro @RX_bl_24_2 (And.intro @RX_al_106 (And.intro @RX_bl_169_0_1_2 (And.intro @RX_bs_104_1 (And.intro @RX_bl_106_0_1_2_3 (And.intro @RX_st_106 (And.intro @RX_bl_106_ (And.intro @RX_ld_106 (And.intro @RX_al_22 (And.intro @RX_call_82 (And.intro @RX_fld_101_2 (And.intro @RX_fld_101_4 (And.intro @RX_fld_101_3 (And.intro @RC_call_15 (And.intro @RX_call_86 (And.intro @RX_bl_121_0_1_2 (And.intro @RX_call_88 (And.intro @RX_scall_88 (And.intro @RX_call_89 (And.intro @RX_call_90 (And.intro @RX_len_179 (And.intro @RX_ix_179 (And.intro @RX_ld_131 (And.intro @RX_al_131 (And.intro @RX_st_131 (And.intro @RX_call_62 (And.intro @RX_bs_32_0 (And.intro @RX_fld_35_1 (And.intro @RX_ld_32 (And.intro @RX_bs_32_1 (And.intro @RX_st_32 (And.intro @RX_bs_33_0 (And.intro @RX_fld_35_2 (And.intro @RX_ld_33 (And.intro @RX_bs_33_1 (And.intro @RX_st_33 (And.intro @RX_call_92 (And.intro @RX_fld_35_0 (And.intro @RX_call_94 (And.intro @RX_al_160 (And.intro @RX_bl_101_0_1_2_3_4 (And.intro @RX_st_160 (And.intro @RX_ld_160 (And.intro @RX_fld_106_0 (And.intro @RX_ld_104 (And.intro @RX_len_104 (And.intro @RX_ix_104 (And.intro @RX_ld_169 (And.intro @RX_al_169 (And.intro @RX_st_169 (And.intro @RX_fld_169_0 (And.intro @RX_fld_169_1 (And.intro @RX_fld_169_2 (And.intro @RC_call_41 (And.intro @RX_fld_106_2 (And.intro @RX_fld_106_1 (And.intro @RX_call_83 (And.intro @RX_scall_83 (And.intro @RX_cv_22_2 (And.intro @RX_bl_185 (And.intro @RX_al_185 (And.intro @RX_st_185 (And.intro @RX_bl_186 (And.intro @RX_al_186 (And.intro @RX_st_186 (And.intro @RX_call_97 (And.intro @RX_scall_97 (And.intro @RX_ix_186 (And.intro @RX_call_98 (And.intro @RX_scall_98 (And.intro @RX_ix_185 (And.intro @RX_call_99 (And.intro @RX_scall_99 (And.intro @RX_fld_91_2 (And.intro @RX_ld_87 (And.intro @RX_call_87 (And.intro @RX_call_101 (And.intro @RX_call_100 (And.intro @RX_call_96 (And.intro @RX_call_102 (And.intro @RX_scall_102 (And.intro @RC_fld_24_1 (And.intro @RC_call_42 (And.intro @RX_call_109 (And.intro @RX_scall_109 (And.intro @RX_call_110 (And.intro @RX_call_111 (And.intro @RX_scall_111 (And.intro @RC_bl_26_0_1 (And.intro @RX_fld_131_0 (And.intro @RX_fld_131_1 (And.intro @RX_fld_131_2 (And.intro @RX_fld_35_3 (And.intro @RX_len_32 (And.intro @RX_ix_32 (And.intro @RX_bl_51_3 (And.intro @RX_cv_5_3 (And.intro @RX_call_124 (And.intro @RX_scall_124 (And.intro @RX_call_158 (And.intro @RX_fld_55_0 (And.intro @RX_ld_31 (And.intro @RX_call_147 (And.intro @RX_cv_22_38 (And.intro @RX_call_163 (And.intro @RX_scall_163 (And.intro @RX_call_159 (And.intro @RX_call_160 (And.intro @RX_call_148 (And.intro @RX_call_161 (@RX_call_162))))))))))))))))))))))))))))))))))))))))))))))))))))))))))))))))))))))))))))))))))))))))))))))))))))))))))))))))))))))))))))))))))))))))))))))))))))))))))))))))))))))))))))))))))))))))))))))))))))))))))))))))))))))))))))))))))))))))))))))))))))))))))))))))))))))))))))))))) := ⟨@RX_call_3, @RX_bl_28_1, @RC_al_28, @RC_st_28, @RX_fld_28_0, @RX_fld_26_0, @RC_st_22, @RX_fld_26_1, @RC_ld_28, @RX_call_6, @RX_al_24, @RX_st_24, @RX_fld_24_0, @RX_st_4, @RX_cv_3_22, @RC_fld_24_2, @RX_bs_39_2, @RX_call_7, @RX_al_35, @RX_st_35, @RX_bl_24_0_1, @RX_call_8, @RX_al_42, @RX_st_42, @RX_ld_42, @RX_ld_24, @RX_call_9, @RX_bl_55_0, @RX_call_10, @RX_al_51, @RX_st_51, @RX_fld_28_1, @RC_ld_22, @RX_ld_4, @RX_fld_51_0, @RX_ld_3, @RX_eql_4, @RX_call_11, @RX_eql_24, @RX_call_12, @RC_ld_26, @RX_call_18, @RC_al_69, @RC_st_69, @RC_ld_69, @RC_call_19, @RC_al_26, @RC_st_26, @RX_neq_26, @RX_fld_28_2, @RX_bl_24_, @RX_call_20, @RX_bl_24_1_2, @RX_call_21, @RX_call_22, @RX_fld_45_0, @RX_ld_39, @RX_len_39, @RX_fld_45_2, @RX_ld_43, @RX_len_43, @RX_eql_31, @RX_ld_35, @RX_ix_39, @RX_ld_38, @RX_cv_38_22, @RX_call_23, @RX_call_24, @RX_ix_43, @RX_call_25, @RX_call_26, @RX_call_27, @RX_scall_27, @RX_fld_42_0, @RX_ix_40, @RX_fld_42_1, @RX_call_28, @RX_call_29, @RX_call_30, @RX_call_31, @RX_al_49, @RX_st_49, @RX_ld_49, @RX_fld_49_2, @RX_fld_49_3, @RX_fld_91_3, @RX_fld_91_4, @RX_fld_91_5, @RX_call_32, @RX_ld_51, @RX_bs_39_1, @RX_fld_51_3, @RX_fld_49_0, @RX_call_33, @RX_call_16, @RX_call_44, @RX_call_47, @RX_bl_69_, @RX_call_48, @RC_call_49, @RX_scall_49, @RC_bl_69_0_1_2, @RX_eql_26, @RC_call_50, @RX_bl_131_1_2, @RX_bl_131_0_1_2, @RX_call_51, @RX_bl_35_, @RX_bl_35_0, @RX_call_58, @RX_cv_3_151, @RX_cv_22_5, @RX_call_59, @RX_call_45, @RX_al_121, @RX_st_121, @RX_fld_121_2, @RX_ld_121, @RX_call_64, @RX_call_66, @RX_scall_66, @RX_fld_121_1, @RX_call_65, @RX_scall_65, @RX_call_67, @RX_fld_91_1, @RX_bl_51_0_1_2_3, @RX_call_68, @RX_al_101, @RX_st_101, @RX_ld_101, @RX_call_37, @RX_fld_101_1, @RX_ld_5, @RX_call_35, @RX_call_69, @RX_bl_49_0_4, @RX_call_38, @RX_scall_38, @RC_call_43, @RC_cv_22_3, @RX_fld_49_1, @RX_st_3, @RX_bl_49_, @RX_call_70, @RX_scall_70, @RX_call_71, @RX_call_72, @RX_call_73, @RX_fld_49_4, @RX_ld_2, @RX_cv_2_22, @RX_fld_91_0, @RX_call_75, @RX_call_74, @RX_call_76, @RX_call_77, @RX_call_78, @RX_scall_78, @RX_call_79, @RX_scall_79, @RX_call_80, @RX_bl_24_2, @RX_al_106, @RX_bl_169_0_1_2, @RX_bs_104_1, @RX_bl_106_0_1_2_3, @RX_st_106, @RX_bl_106_, @RX_ld_106, @RX_al_22, @RX_call_82, @RX_fld_101_2, @RX_fld_101_4, @RX_fld_101_3, @RC_call_15, @RX_call_86, @RX_bl_121_0_1_2, @RX_call_88, @RX_scall_88, @RX_call_89, @RX_call_90, @RX_len_179, @RX_ix_179, @RX_ld_131, @RX_al_131, @RX_st_131, @RX_call_62, @RX_bs_32_0, @RX_fld_35_1, @RX_ld_32, @RX_bs_32_1, @RX_st_32, @RX_bs_33_0, @RX_fld_35_2, @RX_ld_33, @RX_bs_33_1, @RX_st_33, @RX_call_92, @RX_fld_35_0, @RX_call_94, @RX_al_160, @RX_bl_101_0_1_2_3_4, @RX_st_160, @RX_ld_160, @RX_fld_106_0, @RX_ld_104, @RX_len_104, @RX_ix_104, @RX_ld_169, @RX_al_169, @RX_st_169, @RX_fld_169_0, @RX_fld_169_1, @RX_fld_169_2, @RC_call_41, @RX_fld_106_2, @RX_fld_106_1, @RX_call_83, @RX_scall_83, @RX_cv_22_2, @RX_bl_185, @RX_al_185, @RX_st_185, @RX_bl_186, @RX_al_186, @RX_st_186, @RX_call_97, @RX_scall_97, @RX_ix_186, @RX_call_98, @RX_scall_98, @RX_ix_185, @RX_call_99, @RX_scall_99, @RX_fld_91_2, @RX_ld_87, @RX_call_87, @RX_call_101, @RX_call_100, @RX_call_96, @RX_call_102, @RX_scall_102, @RC_fld_24_1, @RC_call_42, @RX_call_109, @RX_scall_109, @RX_call_110, @RX_call_111, @RX_scall_111, @RC_bl_26_0_1, @RX_fld_131_0, @RX_fld_131_1, @RX_fld_131_2, @RX_fld_35_3, @RX_len_32, @RX_ix_32, @RX_bl_51_3, @RX_cv_5_3, @RX_call_124, @RX_scall_124, @RX_call_158, @RX_fld_55_0, @RX_ld_31, @RX_call_147, @RX_cv_22_38, @RX_call_163, @RX_scall_163, @RX_call_159, @RX_call_160, @RX_call_148, @RX_call_161, @RX_call_162⟩
end Go.Proofs.YtplfniijbeinmaaGreat
namespace Go.Fx
theorem Ext.step {S : List Nat} {a b c : World} (h1 : Ext S a b) (h2 : Ext S b c) : Ext S a c := h1.trans h2 fun _ h => .inl h
theorem relX.ext (S : List Nat) {G : (World -> World -> Prop) -> Prop} (h : G (Ext S)) : relX G := ⟨Ext S, fun _ => Ext.refl, fun _ _ _ h1 h2 => h1.step h2, fun _ _ h => h.size, h⟩
theorem postX.is {R : World -> World -> Prop} {G rest : (Value -> World -> Prop) -> Prop} (c : Value) (h1 : G fun v _ => v = c) (h2 : rest fun v _ => v = c) : postX R G rest := ⟨_, fun _ _ _ _ h => h, h1, h2⟩
theorem okX.mk {R : World -> World -> Prop} {w w' : World} {p : Value -> World -> Prop} {v : Value} (h1 : R w w') (h2 : p v w') : okX R w p v w' := ⟨h1, h2⟩
theorem okX.is {S : List Nat} {w : World} {v : Value} : okX (Ext S) w (fun u _ => u = v) v w := ⟨Ext.refl, rfl⟩
/-- .. where one block, that may be written, keeps what it holds. -/
theorem relX.keep (S : List Nat) (b : Nat) (o : Obj) {G : (World -> World -> Prop) -> Prop} (h : G fun w w' => Ext S w w' /\ (w.heap[b]? = some o -> w'.heap[b]? = some o)) : relX G :=
  ⟨_, fun _ => ⟨Ext.refl, id⟩, fun _ _ _ h1 h2 => ⟨h1.1.step h2.1, fun hb => h2.2 (h1.2 hb)⟩, fun _ _ h => h.1.size, h⟩
end Go.Fx
namespace Go.Proofs.YtplfniijbeinmaaGreat
open Go.Fx
theorem qG1 : type_of% (And.intro @gen0 (And.intro (@gen1 Tryz.prog) (And.intro @gen2 (And.intro @rulesC (And.intro @rulesX (And.intro @litR (And.intro @bolR (And.intro (@numR Tryz.prog) (And.intro (@memR Tryz.prog) (And.intro @valR (And.intro @heapR (And.intro @updR (And.intro @intR (And.intro @decR (And.intro (@extR Tryz.prog) (And.intro (@slR Tryz.prog) (And.intro @segR (And.intro @thenR ((@pnR Tryz.prog)))))))))))))))))))) := ⟨@gen0, (@gen1 Tryz.prog), @gen2, @rulesC, @rulesX, @litR, @bolR, (@numR Tryz.prog), (@memR Tryz.prog), @valR, @heapR, @updR, @intR, @decR, (@extR Tryz.prog), (@slR Tryz.prog), @segR, @thenR, (@pnR Tryz.prog)⟩
set_option maxRecDepth 100000
theorem cpC_len (t : Bool) (m a : Nat) : (cpC t m a).length = 3 := by simp [cpC]
theorem cpC_all (t : Bool) (m a : Nat) : (cpC t m a).all (fun v => v.oneCell') = true := by simp [cpC]; exact ⟨rfl, rfl, rfl⟩
theorem vwC_len (m a : Nat) : (vwC m a).length = 4 := by simp [vwC]
theorem vwC_all (m a : Nat) : (vwC m a).all (fun v => v.oneCell') = true := by simp [vwC]; exact ⟨rfl, rfl, rfl, rfl⟩
theorem cpC_sub (t : Bool) (m a : Nat) : sub (cpC t m a) 0 3 = cpC t m a := rfl
theorem vwC_sub (m a : Nat) : sub (vwC m a) 0 4 = vwC m a := rfl
/-- a part: where it begins, its width, its number. -/
def ptC (p : Nat × Nat × Nat) : List Value := [.int .i64 (p.1 : Nat), .int .i64 (p.2.1 : Nat), .int .u64 (p.2.2 : Nat)]
theorem ptC_len (p : Nat × Nat × Nat) : (ptC p).length = 3 := by simp [ptC]
theorem ptC_all (p : Nat × Nat × Nat) : (ptC p).all (fun v => v.oneCell') = true := by simp [ptC]; exact ⟨rfl, rfl, rfl⟩
theorem ptC_sub (p : Nat × Nat × Nat) : sub (ptC p) 0 3 = ptC p := rfl
theorem ptC_over (p : Nat × Nat × Nat) : splice [.int .i64 0, .int .i64 0, .int .u64 0] 0 (ptC p) = ptC p := rfl
theorem ptC_over2 (p : Nat × Nat × Nat) : ptC p ++ List.drop (ptC p).length [.int .i64 0, .int .i64 0, .int .u64 0] = ptC p := by simp [ptC]
def ptOk (p : Nat × Nat × Nat) : Prop := 0 < p.2.1 /\ p.2.1 < 64 /\ p.1 + p.2.1 <= 64 /\ p.2.2 < 18446744073709551616
def putN (x : Nat) (p : Nat × Nat × Nat) : Nat := x + p.2.2 % 2 ^ p.2.1 * 2 ^ p.1
theorem qZ2 : type_of% (And.intro @szR (And.intro @fdsC_len (And.intro @fdsC_all (And.intro @spC_len (And.intro @spC_all (And.intro @cpC_len (And.intro @vwC_len (And.intro @cpC_all (And.intro @vwC_all (And.intro @ptC_len (@ptC_all))))))))))) := ⟨@szR, @fdsC_len, @fdsC_all, @spC_len, @spC_all, @cpC_len, @vwC_len, @cpC_all, @vwC_all, @ptC_len, @ptC_all⟩
theorem qD2 {p : Prop} (h : p := by first | assumption | omega | (simp only [qZ2] <;> omega) | rfl | decide) : p := h
theorem LayF_spec {w : World} {x b : Nat} {p : Nat × Nat × Nat} {t : TypeId} (hp : ptOk p) (hx : x < 2 ^ p.1) (hb : w.heap[b]? = some (.cells [.int .u64 (x : Nat)].toArray t (0, 0))) {K : Value -> World -> Prop}
  (hK : ∀ w', w'.heap[b]? = some (.cells [.int .u64 (putN x p : Nat)].toArray t (0, 0)) -> Ext [b] w w' -> K (.tuple #[]) w') : callsK Tryz.prog 90 #[.agg (ptC p).toArray, .pointer (some ⟨b, 0, none⟩)] w K := by
 obtain ⟨h1, h2, h3, h4⟩ := hp
 have hlt := lt_of_at hb
 apply F90_ok
 unfold F90
 have g : ∀ k, (ptC p)[k]? = if k = 0 then some (.int .i64 (p.1 : Nat)) else if k = 1 then some (.int .i64 (p.2.1 : Nat)) else if k = 2 then some (.int .u64 (p.2.2 : Nat)) else none := by
  intro k
  match k with
  | 0 => rfl
  | 1 => rfl
  | 2 => rfl
  | k + 3 => simp [ptC]
 have g0 := g 0
 have g1 := g 1
 have g2 := g 2
 simp only [if_true, if_neg (show ¬ (1 : Nat) = 0 by omega), if_neg (show ¬ (2 : Nat) = 0 by omega), if_neg (show ¬ (2 : Nat) = 1 by omega)] at g0 g1 g2
 simp (disch := first | exact qD2 | fail) only [qG1, hb, g0, g1, g2]
 refine fPut_spec (by omega) (by omega) (by omega) (by simpa using hx) h4 fun w' hx' => ?_
 have hx2 : Ext [] w w' := Ext.trans qX hx' (by simp)
 have hb' := hx2.at hb (by simp)
 simp (disch := first | exact qD2 | fail) only [qG1, hb', List.set_cons_zero]
 have hx3 : Ext [b] w w' := hx2.mono nofun
 have hx4 : Ext [b] w (World.upd w' b [.int .u64 (putN x p : Nat)]) := qX
 have := hK _ (upd_at (l := [.int .u64 (putN x p : Nat)]) hb') hx4
 exact this
theorem Lay_spec {w : World} {v : Value} {ps : List (Nat × Nat × Nat)} (hv : RowsAt w v 3 (ps.map ptC)) (hp : ∀ p ∈ ps, ptOk p) (hx : ∀ k p, ps[k]? = some p -> (ps.take k).foldl putN 0 < 2 ^ p.1) {K : Value -> World -> Prop}
  (hK : ∀ w', Ext [] w w' -> K (.int .u64 (ps.foldl putN 0 : Nat)) w') : callsK Tryz.prog 51 #[v] w K := by
 apply F51_ok
 unfold F51
 have hcap : ps.length <= maxLen := by
  obtain ⟨_, _, _, ⟨hc1, hc2⟩, _⟩ := id hv
  rw [List.length_map] at hc1
  omega
 simp only [maxLen] at hcap
 have hlen : (ps.map ptC).length = ps.length := by simp
 obtain ⟨a, cap, rfl⟩ := hv.len
 simp (disch := first | exact qD2 | fail) only [qG1]
 refine loopT.intro (fun st w' => ∃ (k : Nat), k <= ps.length /\ st = [.int .i64 (k : Nat)] /\ w'.heap[w.heap.size]? = some (.cells [.int .u64 ((ps.take k).foldl putN 0 : Nat)].toArray 22 (0, 0)) /\ Ext [] w w')
  (fun st _ => match st with
   | [.int _ z] => ps.length - z.toNat
   | _ => 0) ⟨0, Nat.zero_le _, rfl, by simp (disch := first | exact qD2 | fail) only [qG1]; rfl, qX⟩ ?_
 rintro st w' ⟨k, hk, rfl, h1, hx'⟩ _
 have l1 := lt_of_at h1
 by_cases h4 : k < ps.length
 ·obtain ⟨p, hpk⟩ : ∃ p, ps[k]? = some p := ⟨_, List.getElem?_eq_getElem h4⟩
  have hrow : (ps.map ptC)[k]? = some (ptC p) := by rw [List.getElem?_map, hpk]; rfl
  obtain ⟨b0, o0, lb, E0, f0, hix, hb0, hfit, hblt, hbk, hsub, hget⟩ := RowsAt.ixR Tryz.underlying179 Tryz.sizeOf131 hv hrow
  have hb3 := hx'.at hb0 (by simp)
  have hs := hsub o0 rfl
  simp (disch := first | exact qD2 | fail) only [qG1, hix, hb3, hs, ptC_over, ptC_over2, ptC_sub]
  have hx2 : Ext [] w' (w'.alloc (.cells (ptC p).toArray 131)) := qX
  refine LayF_spec (hp p (List.mem_of_getElem? hpk)) (hx k p hpk) (hx2.at h1 (by simp)) fun w2 h2 hx3 => ?_
  simp (disch := first | exact qD2 | fail) only [qG1]
  have htk : (ps.take (k + 1)).foldl putN 0 = putN ((ps.take k).foldl putN 0) p := by
   rw [List.take_add_one, hpk, List.foldl_append]
   rfl
  exact ⟨⟨k + 1, by omega, rfl, by rw [htk]; exact h2, (hx'.trans hx2 (by simp)).trans hx3 (by simp)⟩, by first | omega | (simp <;> omega)⟩
 ·obtain rfl : k = ps.length := by omega
  rw [List.take_length] at h1
  simp (disch := first | exact qD2 | fail) only [qG1, h1]
  exact hK _ hx'
theorem bs3 (a b c : List Value) (h1 : a.length = 3) (h2 : b.length = 3) (h3 : c.length = 3) (w : World) : (Instr.buildSlice 179 3 #[(0, .agg a.toArray), (1, .agg b.toArray), (2, .agg c.toArray)]).run Tryz.prog w = .ok (.slice (some ⟨w.heap.size, 0, none⟩) 3 3) (w.alloc (.cells (a ++ (b ++ c)).toArray 131)) := by
 have := run_bs Tryz.underlying179 (e := 131) (size := 3) (by kernel_rfl) [.agg a.toArray, .agg b.toArray, .agg c.toArray] (by simp [Value.cells, h1, h2, h3]) (by simp) w
 simpa [Value.cells, partsFrom] using this
theorem rows3 {w : World} {E : TypeId} {f : Nat × Nat} {g : Nat} {p q r : Nat × Nat × Nat} (h : w.heap[g]? = some (.cells (ptC p ++ (ptC q ++ ptC r)).toArray E f)) : RowsAt w (.slice (some ⟨g, 0, none⟩) 3 3) 3 ([p, q, r].map ptC) :=
 ⟨_, 3, rfl, ⟨Nat.le_refl _, by simp [maxLen]⟩, .inr ⟨g, 0, _, E, f, rfl, h, by simp [ptC_len], fun i r hi => by
  match i, hi with
  | 0, hi => simp at hi; subst hi; simp [sub, ptC]
  | 1, hi => simp at hi; subst hi; simp [sub, ptC]
  | 2, hi => simp at hi; subst hi; simp [sub, ptC]⟩⟩
theorem putN_eq (x a k v : Nat) : putN x (a, k, v) = x + v % 2 ^ k * 2 ^ a := rfl
/-- a word, permissions, and a type, as they are kept. -/
def mtN (x p t : Nat) : Nat := putN (putN (putN 0 (0, 32, x)) (32, 9, p)) (48, 12, t)
theorem put_one (x : Nat) : putN 0 (0, 32, x) < 2 ^ 32 := by
 have p32 : (2 : Nat) ^ 32 = 4294967296 := by decide
 rw [putN_eq, p32, Nat.pow_zero, Nat.mul_one, Nat.zero_add]
 exact Nat.mod_lt _ (by decide)
theorem put_two (x p : Nat) : putN (putN 0 (0, 32, x)) (32, 9, p) < 2 ^ 48 := by
 have p32 : (2 : Nat) ^ 32 = 4294967296 := by decide
 have p48 : (2 : Nat) ^ 48 = 281474976710656 := by decide
 have p9 : (2 : Nat) ^ 9 = 512 := by decide
 rw [putN_eq, putN_eq, p32, p48, p9, Nat.pow_zero, Nat.mul_one, Nat.zero_add]
 omega
theorem fold3 (x p t : Nat) : [((0 : Nat), (32 : Nat), x), (32, 9, p), (48, 12, t)].foldl putN 0 = mtN x p t := by
 unfold mtN
 rw [List.foldl_cons, List.foldl_cons, List.foldl_cons, List.foldl_nil]
theorem fold3_lt (x p t : Nat) : ∀ k q, [((0 : Nat), (32 : Nat), x), (32, 9, p), (48, 12, t)][k]? = some q -> (([((0 : Nat), (32 : Nat), x), (32, 9, p), (48, 12, t)].take k).foldl putN 0) < 2 ^ q.1 := by
 intro k q hq
 match k, hq with
 | 0, hq => exact Nat.two_pow_pos _
 | 1, hq =>
  simp only [List.getElem?_cons_succ, List.getElem?_cons_zero, Option.some.injEq] at hq
  rw [<- hq, List.take_succ_cons, List.take_zero, List.foldl_cons, List.foldl_nil]
  exact put_one x
 | 2, hq =>
  simp only [List.getElem?_cons_succ, List.getElem?_cons_zero, Option.some.injEq] at hq
  rw [<- hq, List.take_succ_cons, List.take_succ_cons, List.take_zero, List.foldl_cons, List.foldl_cons, List.foldl_nil]
  exact put_two x p
 | k + 3, hq => simp at hq
theorem pts3 {x p t : Nat} (hw : x < 18446744073709551616) (hp : p < 18446744073709551616) (ht : t < 18446744073709551616) : ∀ q ∈ [((0 : Nat), (32 : Nat), x), (32, 9, p), (48, 12, t)], ptOk q := by
 intro q hq
 simp only [List.mem_cons, List.not_mem_nil, or_false] at hq
 rcases hq with rfl | rfl | rfl
 ·exact ⟨by simp, by simp, by simp, hw⟩
 ·exact ⟨by simp, by simp, by simp, hp⟩
 ·exact ⟨by simp, by simp, by simp, ht⟩
theorem meta_spec {w : World} {B T E : Nat} {b0 b1 : Value} {p t : Nat} (hB : B < 18446744073709551616) (hT : T < 18446744073709551616) (hE : E < 18446744073709551616) (hw : wordF B T E 3 < 18446744073709551616) (hp : p < 18446744073709551616) (ht : t < 18446744073709551616) {K : Value -> World -> Prop}
  (hK : ∀ w', Ext [] w w' -> K (.int .u64 (mtN (wordF B T E 3) p t : Nat)) w') : callsK Tryz.prog 20 #[.agg (fdsC B T E).toArray, .agg [b0, b1, .int .u64 (p : Nat), .int .u64 (t : Nat)].toArray] w K := by
 apply F20_ok
 unfold F20
 simp (disch := first | exact qD2 | fail) only [qG1]
 have hd0 : Ext [] w ((w.alloc (.cells (fdsC B T E).toArray 69)).alloc (.cells [b0, b1, .int .u64 (p : Nat), .int .u64 (t : Nat)].toArray 28)).drew := qX
 have h2 : ((w.alloc (.cells (fdsC B T E).toArray 69)).alloc (.cells [b0, b1, .int .u64 (p : Nat), .int .u64 (t : Nat)].toArray 28)).drew.heap[w.heap.size]? = some (.cells (fdsC B T E).toArray 69 (0, 0)) := (by first | with_reducible rfl | assumption | (simp (disch := first | exact qD2 | fail) only [qG1] <;> rfl))
 have h3 : ((w.alloc (.cells (fdsC B T E).toArray 69)).alloc (.cells [b0, b1, .int .u64 (p : Nat), .int .u64 (t : Nat)].toArray 28)).drew.heap[w.heap.size + 1]? = some (.cells [b0, b1, .int .u64 (p : Nat), .int .u64 (t : Nat)].toArray 28 (0, 0)) := (by first | with_reducible rfl | assumption | (simp (disch := first | exact qD2 | fail) only [qG1] <;> rfl))
 generalize ((w.alloc (.cells (fdsC B T E).toArray 69)).alloc (.cells [b0, b1, .int .u64 (p : Nat), .int .u64 (t : Nat)].toArray 28)).drew = w1 at *
 have e1 : sub (fdsC B T E) 0 3 = fdsC B T E := rfl
 refine relX.ext [] ?_
 refine postX.is (.agg (fdsC B T E).toArray) (fun v w' hR _ => by
  have e := hR.at h2 (by simp)
  simp (disch := first | exact qD2 | fail) only [qG1, e, e1]
  exact okX.is) ?_
 refine postX.is (.int .u64 (wordF B T E 3 : Nat)) (fun v w' hR hd => by
  obtain ⟨d1, -⟩ := hd
  simp (disch := first | exact qD2 | fail) only [qG1, d1]
  exact BWord_spec hB hT hE fun w'' hx => okX.mk hx rfl) ?_
 refine postX.is (.agg (ptC (0, 32, wordF B T E 3)).toArray) (fun v w' hR hd => by
  obtain ⟨d1, -⟩ := hd
  simp (disch := first | exact qD2 | fail) only [qG1, d1]
  exact okX.is) ?_
 refine postX.is (.pointer (some ⟨w.heap.size + 1, 2, none⟩)) (fun v w' hR _ => by simp (disch := first | exact qD2 | fail) only [qG1]; exact okX.is) ?_
 refine postX.is (.int .u64 (p : Nat)) (fun v w' hR hd => by
  obtain ⟨d1, -⟩ := hd
  have e := hR.at h3 (by simp)
  simp (disch := first | exact qD2 | fail) only [qG1, d1, e]
  exact okX.is) ?_
 refine postX.is (.agg (ptC (32, 9, p)).toArray) (fun v w' hR hd => by
  obtain ⟨d1, -⟩ := hd
  simp (disch := first | exact qD2 | fail) only [qG1, d1]
  exact okX.is) ?_
 refine postX.is (.pointer (some ⟨w.heap.size + 1, 3, none⟩)) (fun v w' hR _ => by simp (disch := first | exact qD2 | fail) only [qG1]; exact okX.is) ?_
 refine postX.is (.int .u64 (t : Nat)) (fun v w' hR hd => by
  obtain ⟨d1, -⟩ := hd
  have e := hR.at h3 (by simp)
  simp (disch := first | exact qD2 | fail) only [qG1, d1, e]
  exact okX.is) ?_
 refine postX.is (.agg (ptC (48, 12, t)).toArray) (fun v w' hR hd => by
  obtain ⟨d1, -⟩ := hd
  simp (disch := first | exact qD2 | fail) only [qG1, d1]
  exact okX.is) ?_
 intro v w2 hR hd _
 obtain ⟨-, -, d7, -, -, d10, -, -, d13, -⟩ := hd
 rw [d7, d10, d13]
 have hbs := bs3 (ptC (0, 32, wordF B T E 3)) (ptC (32, 9, p)) (ptC (48, 12, t)) rfl rfl rfl
 simp (disch := first | exact qD2 | fail) only [qG1, hbs]
 have hx3 : Ext [] w2 (w2.alloc (.cells (ptC (0, 32, wordF B T E 3) ++ (ptC (32, 9, p) ++ ptC (48, 12, t))).toArray 131)) := qX
 have hrow : RowsAt (w2.alloc (.cells (ptC (0, 32, wordF B T E 3) ++ (ptC (32, 9, p) ++ ptC (48, 12, t))).toArray 131)) (.slice (some ⟨w2.heap.size, 0, none⟩) 3 3) 3 ([(0, 32, wordF B T E 3), (32, 9, p), (48, 12, t)].map ptC) := rows3 (E := 131) (f := (0, 0)) (by first | with_reducible rfl | assumption | (simp (disch := first | exact qD2 | fail) only [qG1] <;> rfl))
 refine Lay_spec hrow (pts3 hw hp ht) (fold3_lt _ _ _) fun w3 hx4 => ?_
 rw [fold3]
 exact hK w3 (hd0.trans (hR.trans (hx3.trans hx4 (by simp)) (by simp)) (by simp))
open Go.Fx
set_option maxRecDepth 100000
/-- may it have a tag? -/
def rightM (m a : Nat) : Bool := (spM m a).isSome && decide (mtN (m % 4294967296) (m / 4294967296 % 512) (m / 281474976710656 % 4096) = m)
theorem vw_over (m a : Nat) : splice [.int .u64 0, .int .u64 0, .int .u64 0, .int .u64 0] 0 (vwC m a) = vwC m a := rfl
theorem vw_over2 (m a : Nat) : vwC m a ++ List.drop (vwC m a).length [.int .u64 0, .int .u64 0, .int .u64 0, .int .u64 0] = vwC m a := by simp [vwC]
theorem wordM (m : Nat) : wordF (m % 16384) (m / 16384 % 4096) (m / 67108864 % 64) 3 = m % 4294967296 := by
 rw [wordF_val (Nat.mod_lt _ (by decide)) (Nat.mod_lt _ (by decide)) (Nat.mod_lt _ (by decide))]
 omega
theorem qZ3 : type_of% (And.intro @szR (And.intro @fdsC_len (And.intro @fdsC_all (And.intro @spC_len (And.intro @spC_all (And.intro @cpC_len (And.intro @vwC_len (And.intro @cpC_all (@vwC_all))))))))) := ⟨@szR, @fdsC_len, @fdsC_all, @spC_len, @spC_all, @cpC_len, @vwC_len, @cpC_all, @vwC_all⟩
theorem qD3 {p : Prop} (h : p := by first | assumption | omega | (simp only [qZ3] <;> omega) | rfl | decide) : p := h
theorem Right_spec {w : World} {t : Bool} {m a : Nat} (hm : m < 18446744073709551616) (ha : a < 18446744073709551616) {K : Value -> World -> Prop} (hK : ∀ w', Ext [] w w' -> K (.bool (rightM m a)) w') : callsK Tryz.prog 86 #[.agg (cpC t m a).toArray] w K := by
 apply F86_ok
 unfold F86
 simp (disch := first | exact qD3 | fail) only [qG1, cpC_sub]
 refine Look_spec hm ha fun w1 hx1 => ?_
 have hxa : Ext [] w w1 := Ext.trans qX hx1 (by simp)
 have h1 := hx1.at (b := w.heap.size) (o := .cells (cpC t m a).toArray 24 (0, 0)) (by first | with_reducible rfl | assumption | (simp (disch := first | exact qD3 | fail) only [qG1] <;> rfl)) (by simp)
 have l1 := lt_of_at h1
 simp (disch := first | exact qD3 | fail) only [qG1, vw_over, vw_over2]
 have hxb : Ext [] w (w1.alloc (.cells (vwC m a).toArray 28)).drew := qX
 have h2 : (w1.alloc (.cells (vwC m a).toArray 28)).drew.heap[w.heap.size]? = some (.cells (cpC t m a).toArray 24 (0, 0)) := (by first | with_reducible rfl | assumption | (simp (disch := first | exact qD3 | fail) only [qG1, h1] <;> rfl))
 have h3 : (w1.alloc (.cells (vwC m a).toArray 28)).drew.heap[w1.heap.size]? = some (.cells (vwC m a).toArray 28 (0, 0)) := (by first | with_reducible rfl | assumption | (simp (disch := first | exact qD3 | fail) only [qG1] <;> rfl))
 generalize (w1.alloc (.cells (vwC m a).toArray 28)).drew = w2 at *
 have g1 : (cpC t m a)[1]? = some (.int .u64 (m : Nat)) := rfl
 have hR' : rightM m a = ((spM m a).isSome && decide (mtN (m % 4294967296) (m / 4294967296 % 512) (m / 281474976710656 % 4096) = m)) := rfl
 rw [hR'] at hK
 have hw := wordM m
 obtain ⟨X, hX⟩ : ∃ X, X = (spM m a).isSome := ⟨_, rfl⟩
 obtain ⟨q, hq⟩ : ∃ q, q = mtN (m % 4294967296) (m / 4294967296 % 512) (m / 281474976710656 % 4096) := ⟨_, rfl⟩
 rw [<- hX, <- hq] at hK
 rw [<- hX]
 refine relX.ext [] ?_
 refine postX.is (.bool X) (fun v w' hR _ => okX.is) ?_
 refine postX.is (.bool X) (fun v w' hR hd => by
  obtain ⟨d1, -⟩ := hd
  rw [d1]
  exact okX.is) ?_
 refine postX.is (bif X then .pointer (some ⟨w.heap.size, 1, none⟩) else undef) (fun v w' hR hd => by
  obtain ⟨d1, -⟩ := hd
  cases X <;> simp (disch := first | exact qD3 | fail) only [qG1, d1, cond_true, cond_false] <;> exact okX.is) ?_
 refine postX.is (bif X then .int .u64 (m : Nat) else undef) (fun v w' hR hd => by
  obtain ⟨d1, d2, -⟩ := hd
  have e := hR.at h2 (by simp)
  cases X <;> simp (disch := first | exact qD3 | fail) only [qG1, d1, d2, e, g1, cond_true, cond_false] <;> exact okX.is) ?_
 refine postX.is (bif X then .agg (fdsC (m % 16384) (m / 16384 % 4096) (m / 67108864 % 64)).toArray else undef) (fun v w' hR hd => by
  obtain ⟨d1, d2, -⟩ := hd
  cases X <;> simp (disch := first | exact qD3 | fail) only [qG1, d1, d2, cond_true, cond_false]
  ·exact okX.is
  ·exact BOf_spec hm fun w'' hx => okX.mk hx rfl) ?_
 refine postX.is (bif X then .agg (vwC m a).toArray else undef) (fun v w' hR hd => by
  obtain ⟨d1, -⟩ := hd
  have e := hR.at h3 (by simp)
  cases X <;> simp (disch := first | exact qD3 | fail) only [qG1, d1, e, vwC_sub, cond_true, cond_false] <;> exact okX.is) ?_
 refine postX.is (bif X then .int .u64 (q : Nat) else undef) (fun v w' hR hd => by
  obtain ⟨d1, d2, d3, -⟩ := hd
  cases X <;> simp (disch := first | exact qD3 | fail) only [qG1, d1, d2, d3, cond_true, cond_false]
  ·exact okX.is
  ·refine meta_spec (b0 := .int .u64 (spB (spM m a) : Nat)) (b1 := .int .u64 (spT (spM m a) : Nat)) (by omega) (by omega) (by omega) (by rw [hw]; omega) (by omega) (by omega) fun w'' hx => okX.mk hx ?_
   rw [hw, <- hq]) ?_
 refine postX.is (bif X then .pointer (some ⟨w.heap.size, 1, none⟩) else undef) (fun v w' hR hd => by
  obtain ⟨d1, -⟩ := hd
  cases X <;> simp (disch := first | exact qD3 | fail) only [qG1, d1, cond_true, cond_false] <;> exact okX.is) ?_
 refine postX.is (bif X then .int .u64 (m : Nat) else undef) (fun v w' hR hd => by
  obtain ⟨d1, d2, -⟩ := hd
  have e := hR.at h2 (by simp)
  cases X <;> simp (disch := first | exact qD3 | fail) only [qG1, d1, d2, e, g1, cond_true, cond_false] <;> exact okX.is) ?_
 refine postX.is (bif X then .bool (decide (q = m)) else undef) (fun v w' hR hd => by
  obtain ⟨d1, d2, d3, -⟩ := hd
  have he : ((q : Int) == (m : Int)) = decide (q = m) := by
   rw [Bool.eq_iff_iff, beq_iff_eq, decide_eq_true_eq]
   omega
  cases X
  ·simp (disch := first | exact qD3 | fail) only [qG1, d1, cond_false]
   exact okX.is
  ·by_cases hqm : q = m
   ·simp (disch := first | exact qD3 | fail) only [qG1, d1, d2, d3, cond_true, decide_eq_true hqm]
    exact okX.is
   ·simp (disch := first | exact qD3 | fail) only [qG1, d1, d2, d3, cond_true, decide_eq_false hqm]
    exact okX.is) ?_
 refine postX.is (.bool (X && decide (q = m))) (fun v w' hR hd => by
  obtain ⟨d1, d2, -⟩ := hd
  cases X <;> simp (disch := first | exact qD3 | fail) only [qG1, d1, d2, cond_true, cond_false, Bool.true_and, Bool.false_and] <;> exact okX.is) ?_
 intro v w3 hR hd _
 obtain ⟨-, -, -, -, -, -, -, -, -, -, d20, -⟩ := hd
 rw [d20]
 exact hK w3 (hxb.trans hR (by simp))
open Go.Fx
set_option maxRecDepth 100000
/-- a capability, and what it tells. -/
def lvC (t : Bool) (m a : Nat) : List Value := cpC t m a ++ (vwC m a ++ [.bool (t && rightM m a)])
theorem lvC_len (t : Bool) (m a : Nat) : (lvC t m a).length = 8 := by simp [lvC, cpC, vwC]
theorem lvC_all (t : Bool) (m a : Nat) : (lvC t m a).all (fun v => v.oneCell') = true := by simp [lvC, cpC, vwC]; exact ⟨rfl, rfl, rfl, rfl, rfl, rfl, rfl, rfl⟩
theorem lvC_sub (t : Bool) (m a : Nat) : sub (lvC t m a) 0 8 = lvC t m a := rfl
theorem lv_over (t : Bool) (m a : Nat) : splice [.bool false, .int .u64 0, .int .u64 0, .int .u64 0, .int .u64 0, .int .u64 0, .int .u64 0, .bool false] 0 (lvC t m a) = lvC t m a := rfl
theorem lv_over2 (t : Bool) (m a : Nat) : lvC t m a ++ List.drop (lvC t m a).length [.bool false, .int .u64 0, .int .u64 0, .int .u64 0, .int .u64 0, .int .u64 0, .int .u64 0, .bool false] = lvC t m a := by simp [lvC, cpC, vwC]
theorem qZ4 : type_of% (And.intro @szR (And.intro @fdsC_len (And.intro @fdsC_all (And.intro @spC_len (And.intro @spC_all (And.intro @cpC_len (And.intro @vwC_len (And.intro @cpC_all (And.intro @vwC_all (And.intro @lvC_len (@lvC_all))))))))))) := ⟨@szR, @fdsC_len, @fdsC_all, @spC_len, @spC_all, @cpC_len, @vwC_len, @cpC_all, @vwC_all, @lvC_len, @lvC_all⟩
theorem qD4 {p : Prop} (h : p := by first | assumption | omega | (simp only [qZ4] <;> omega) | rfl | decide) : p := h
theorem of_spec {w : World} {t : Bool} {m a : Nat} (hm : m < 18446744073709551616) (ha : a < 18446744073709551616) {K : Value -> World -> Prop} (hK : ∀ w', Ext [] w w' -> K (.agg (lvC t m a).toArray) w') : callsK Tryz.prog 45 #[.agg (cpC t m a).toArray] w K := by
 apply F45_ok
 unfold F45
 simp (disch := first | exact qD4 | fail) only [qG1, cpC_sub]
 refine Look_spec hm ha fun w1 hx1 => ?_
 have hxa : Ext [] w w1 := Ext.trans qX hx1 (by simp)
 have h1 := hx1.at (b := w.heap.size) (o := .cells (cpC t m a).toArray 24 (0, 0)) (by first | with_reducible rfl | assumption | (simp (disch := first | exact qD4 | fail) only [qG1] <;> rfl)) (by simp)
 have h2 := hx1.at (b := w.heap.size + 1) (o := .cells [.bool false, .int .u64 0, .int .u64 0, .int .u64 0, .int .u64 0, .int .u64 0, .int .u64 0, .bool false].toArray 121 (0, 0)) (by first | with_reducible rfl | assumption | (simp (disch := first | exact qD4 | fail) only [qG1] <;> rfl)) (by simp)
 have l1 := lt_of_at h1
 have l2 := lt_of_at h2
 simp (disch := first | exact qD4 | fail) only [qG1, vw_over, vw_over2]
 have hxb : Ext [] w (w1.alloc (.cells (vwC m a).toArray 28)).drew := qX
 have g1 : (w1.alloc (.cells (vwC m a).toArray 28)).drew.heap[w.heap.size]? = some (.cells (cpC t m a).toArray 24 (0, 0)) := (by first | with_reducible rfl | assumption | (simp (disch := first | exact qD4 | fail) only [qG1, h1] <;> rfl))
 have g2 : (w1.alloc (.cells (vwC m a).toArray 28)).drew.heap[w.heap.size + 1]? = some (.cells [.bool false, .int .u64 0, .int .u64 0, .int .u64 0, .int .u64 0, .int .u64 0, .int .u64 0, .bool false].toArray 121 (0, 0)) := (by first | with_reducible rfl | assumption | (simp (disch := first | exact qD4 | fail) only [qG1, h2] <;> rfl))
 have g3 : (w1.alloc (.cells (vwC m a).toArray 28)).drew.heap[w1.heap.size]? = some (.cells (vwC m a).toArray 28 (0, 0)) := (by first | with_reducible rfl | assumption | (simp (disch := first | exact qD4 | fail) only [qG1] <;> rfl))
 generalize (w1.alloc (.cells (vwC m a).toArray 28)).drew = w2 at *
 have q0 : (cpC t m a)[0]? = some (.bool t) := rfl
 refine relX.ext [] ?_
 refine postX.is (.agg (cpC t m a).toArray) (fun v w' hR _ => by
  have e := hR.at g1 (by simp)
  simp (disch := first | exact qD4 | fail) only [qG1, e, cpC_sub]
  exact okX.is) ?_
 refine postX.is (.agg (vwC m a).toArray) (fun v w' hR _ => by
  have e := hR.at g3 (by simp)
  simp (disch := first | exact qD4 | fail) only [qG1, e, vwC_sub]
  exact okX.is) ?_
 refine postX.is (.pointer (some ⟨w.heap.size, 0, none⟩)) (fun v w' hR _ => by simp (disch := first | exact qD4 | fail) only [qG1]; exact okX.is) ?_
 refine postX.is (.bool t) (fun v w' hR hd => by
  obtain ⟨d1, -⟩ := hd
  have e := hR.at g1 (by simp)
  simp (disch := first | exact qD4 | fail) only [qG1, d1, e, q0]
  exact okX.is) ?_
 refine postX.is (.bool t) (fun v w' hR hd => by
  obtain ⟨d1, -⟩ := hd
  rw [d1]
  exact okX.is) ?_
 refine postX.is (bif t then .agg (cpC t m a).toArray else undef) (fun v w' hR hd => by
  obtain ⟨d1, -⟩ := hd
  have e := hR.at g1 (by simp)
  cases t <;> simp (disch := first | exact qD4 | fail) only [qG1, d1, e, cpC_sub, cond_true, cond_false] <;> exact okX.is) ?_
 refine postX.is (bif t then .bool (rightM m a) else undef) (fun v w' hR hd => by
  obtain ⟨d1, d2, -⟩ := hd
  cases t <;> simp (disch := first | exact qD4 | fail) only [qG1, d1, d2, cond_true, cond_false]
  ·exact okX.is
  ·exact Right_spec hm ha fun w'' hx => okX.mk hx rfl) ?_
 refine postX.is (.bool (t && rightM m a)) (fun v w' hR hd => by
  obtain ⟨d1, d2, -⟩ := hd
  cases t <;> simp (disch := first | exact qD4 | fail) only [qG1, d1, d2, cond_true, cond_false, Bool.true_and, Bool.false_and] <;> exact okX.is) ?_
 intro v w3 hR hd _
 obtain ⟨d10, d11, -, -, -, -, -, d17, -⟩ := hd
 rw [d10, d11, d17]
 have k2 := hR.at g2 (by simp)
 have l3 := lt_of_at k2
 have hb : ∀ (x0 : Bool) (x1 x2 y0 y1 y2 y3 : Int) (z : Bool) (w : World), (Instr.build 121 #[(0, .agg [.bool x0, .int .u64 x1, .int .u64 x2].toArray), (1, .agg [.int .u64 y0, .int .u64 y1, .int .u64 y2, .int .u64 y3].toArray), (2, .bool z)]).run Tryz.prog w = .ok (.agg [.bool x0, .int .u64 x1, .int .u64 x2, .int .u64 y0, .int .u64 y1, .int .u64 y2, .int .u64 y3, .bool z].toArray) w := fun x0 x1 x2 y0 y1 y2 y3 z w => run_build w 121 _ _ (by kernel_rfl)
 have hb2 : ∀ w, (Instr.build 121 #[(0, .agg (cpC t m a).toArray), (1, .agg (vwC m a).toArray), (2, .bool (t && rightM m a))]).run Tryz.prog w = .ok (.agg (lvC t m a).toArray) w := fun w => hb _ _ _ _ _ _ _ _ w
 have hxc : Ext [] w (World.upd w3 (w.heap.size + 1) (lvC t m a)) := by
  have := hxb.trans hR (by simp)
  exact qX
 simp (disch := first | exact qD4 | fail) only [qG1, hb2, k2, lv_over, lv_over2, lvC_sub]
 exact hK _ hxc
/-- is it open? -/
def openM (t : Bool) (m a : Nat) : Bool := t && rightM m a && decide (m / 281474976710656 % 4096 = 0)
theorem open_spec {w : World} {t : Bool} {m a : Nat} {K : Value -> World -> Prop} (hK : ∀ w', Ext [] w w' -> K (.bool (openM t m a)) w') : callsK Tryz.prog 64 #[.agg (lvC t m a).toArray] w K := by
 apply F64_ok
 unfold F64
 have q7 : (lvC t m a)[7]? = some (.bool (t && rightM m a)) := rfl
 have q6 : (lvC t m a)[6]? = some (.int .u64 (m / 281474976710656 % 4096 : Nat)) := rfl
 have hO : openM t m a = (t && rightM m a && decide (m / 281474976710656 % 4096 = 0)) := rfl
 rw [hO] at hK
 obtain ⟨X, hX⟩ : ∃ X, X = (t && rightM m a) := ⟨_, rfl⟩
 rw [<- hX] at hK q7
 have hlt : m / 281474976710656 % 4096 < 4096 := Nat.mod_lt _ (by decide)
 generalize m / 281474976710656 % 4096 = y at *
 cases X with
 | false =>
  simp (disch := first | exact qD4 | fail) only [qG1, joinBR, q7]
  exact hK _ qX
 | true =>
  by_cases hy : y = 0
  ·rw [decide_eq_true hy] at hK
   simp (disch := first | exact qD4 | fail) only [qG1, Nat.reduceAdd, joinBR, q7, q6]
   exact hK _ qX
  ·rw [decide_eq_false hy] at hK
   simp (disch := first | exact qD4 | fail) only [qG1, Nat.reduceAdd, joinBR, q7, q6]
   exact hK _ qX
/-- permissions among others. -/
def pwN (p q : Nat) : Bool := (List.range 64).all fun i => !p.testBit i || q.testBit i
theorem pw_spec {w : World} {p q : Nat} (hp : p < 18446744073709551616) (hq : q < 18446744073709551616) {K : Value -> World -> Prop} (hK : K (.bool (pwN p q)) w) : callsK Tryz.prog 65 #[.int .u64 (p : Nat), .int .u64 (q : Nat)] w K := by
 apply F65_ok
 unfold F65
 obtain ⟨r, hr, hr2, hr3⟩ := andNot_u64 (a := (p : Int)) (b := (q : Int)) (by omega) (by omega)
 have hz : pwN p q = decide (r = 0) := by
  rw [Bool.eq_iff_iff, decide_eq_true_eq]
  unfold pwN
  rw [List.all_eq_true]
  constructor
  ·intro h
   apply Nat.eq_of_testBit_eq
   intro i
   rw [Nat.zero_testBit]
   by_cases hi : i < 64
   ·have := h i (List.mem_range.2 hi)
    rw [hr3 i hi]
    simp only [Int.toNat_natCast]
    revert this
    cases p.testBit i <;> cases q.testBit i <;> simp
   ·have p1 : (2 : Nat) ^ 64 <= 2 ^ i := Nat.pow_le_pow_right (by omega) (by omega)
    have p2 : (2 : Nat) ^ 64 = 18446744073709551616 := by decide
    exact Nat.testBit_lt_two_pow (by omega)
  ·intro h i hi
   have := hr3 i (List.mem_range.1 hi)
   rw [h, Nat.zero_testBit] at this
   simp only [Int.toNat_natCast] at this
   revert this
   cases p.testBit i <;> cases q.testBit i <;> simp
 rw [hz] at hK
 by_cases h0 : r = 0
 ·rw [decide_eq_true h0] at hK
  simp (disch := first | exact qD4 | fail) only [qG1, joinBR, hr]
  exact hK
 ·rw [decide_eq_false h0] at hK
  simp (disch := first | exact qD4 | fail) only [qG1, joinBR, hr]
  exact hK
theorem pw_still {w : World} {p q : Nat} (hp : p < 18446744073709551616) (hq : q < 18446744073709551616) {K : Value -> Prop} (hK : K (.bool (pwN p q))) : callsS Tryz.prog 65 #[.int .u64 (p : Nat), .int .u64 (q : Nat)] w K := callsS.of _ (pw_spec hp hq ⟨rfl, rfl⟩) hK
def needN (k : Nat) : Nat := if k = 0 then 4 else if k = 1 then 1 else if k = 2 then 2 else if k = 3 then 9 else if k = 4 then 18 else 511
theorem need_spec {w : World} {k : Nat} (hk : k < 5) {K : Value -> World -> Prop} (hK : K (.int .u64 (needN k : Nat)) w) : callsK Tryz.prog 66 #[.int .i64 (k : Nat)] w K := by
 apply F66_ok
 unfold F66
 match k, hk with
 | 0, _ => simp (disch := first | exact qD4 | fail) only [qG1, joinBR]; exact hK
 | 1, _ => simp (disch := first | exact qD4 | fail) only [qG1, joinBR]; exact hK
 | 2, _ => simp (disch := first | exact qD4 | fail) only [qG1, joinBR]; exact hK
 | 3, _ => simp (disch := first | exact qD4 | fail) only [qG1, joinBR]; exact hK
 | 4, _ => simp (disch := first | exact qD4 | fail) only [qG1, joinBR]; exact hK
theorem need_still {w : World} {k : Nat} (hk : k < 5) {K : Value -> Prop} (hK : K (.int .u64 (needN k : Nat))) : callsS Tryz.prog 66 #[.int .i64 (k : Nat)] w K := callsS.of _ (need_spec hk ⟨rfl, rfl⟩) hK
open Go.Fx
set_option maxRecDepth 100000
theorem Add64_spec {w : World} {x y : Nat} (h : x + y < 18446744073709551616) {K : Value -> World -> Prop} (hK : K (.tuple #[.int .u64 ((x + y : Nat) : Int), .int .u64 0]) w) :
  kN Tryz.prog (callN (.func (.func 112) #[] #[]) #[.int .u64 (x : Nat), .int .u64 (y : Nat), .int .u64 0]) w K := by
 have e := Fx.kN_call (P := Tryz.prog) (f := 112) (first := #[]) (cap := #[]) (args := #[.int .u64 (x : Nat), .int .u64 (y : Nat), .int .u64 0]) (w := w) (K := K)
 rw [e]
 have e2 := run_callFunc_extern Tryz.func112 (by kernel_rfl) (by kernel_rfl) (by kernel_rfl) (e := (Extern.MathBitsCarry.rows[0]'(by decide)).2) (by kernel_rfl) #[.int .u64 (x : Nat), .int .u64 (y : Nat), .int .u64 0] w
 have e3 : (#[] ++ #[Value.int .u64 (x : Nat), .int .u64 (y : Nat), .int .u64 0] ++ #[] : Array Value) = #[.int .u64 (x : Nat), .int .u64 (y : Nat), .int .u64 0] := rfl
 rw [e3, e2]
 have e4 : (((Extern.MathBitsCarry.rows[0]'(by decide)).2) #[.int .u64 (x : Nat), .int .u64 (y : Nat), .int .u64 0]).run Tryz.prog w = .ok (.tuple #[.int .u64 ((x + y : Nat) : Int), .int .u64 0]) w := by
  have h1 : (x + y) % Extern.MathBitsCarry.m64 = x + y := Nat.mod_eq_of_lt h
  have h2 : (x + y) / Extern.MathBitsCarry.m64 = 0 := Nat.div_eq_of_lt h
  have h3 : (((Extern.MathBitsCarry.rows[0]'(by decide)).2) #[.int .u64 (x : Nat), .int .u64 (y : Nat), .int .u64 0]).run Tryz.prog w = .ok (Extern.MathBitsCarry.pair ((x + y + 0) % Extern.MathBitsCarry.m64) ((x + y + 0) / Extern.MathBitsCarry.m64)) w := rfl
  rw [h3, Nat.add_zero, h1, h2]
  rfl
 rw [e4]
 exact hK
theorem sAdd_spec {w : World} {x y : Nat} (h : x + y < 18446744073709551616) {K : Value -> World -> Prop} (hK : K (.tuple #[.int .u64 ((x + y : Nat) : Int), .bool false]) w) : callsK Tryz.prog 94 #[.int .u64 (x : Nat), .int .u64 (y : Nat)] w K := by
 apply F94_ok
 unfold F94
 refine Add64_spec h ?_
 simp (disch := first | exact qD4 | fail) only [qG1]
 exact hK
/-- is a part of memory in a span? (no part wraps.) -/
theorem In_spec {w : World} {x n b t : Nat} (h : x + n < 18446744073709551616) (hb : b < 18446744073709551616) (ht : t < 18446744073709551616) {K : Value -> World -> Prop} (hK : K (.bool (decide (b <= x /\ x + n <= t))) w) :
  callsK Tryz.prog 67 #[.int .u64 (x : Nat), .int .u64 (n : Nat), .int .u64 (b : Nat), .int .u64 (t : Nat)] w K := by
 apply F67_ok
 unfold F67
 simp (disch := first | exact qD4 | fail) only [qG1]
 refine sAdd_spec h ?_
 obtain ⟨s, hs⟩ : ∃ s, s = x + n := ⟨_, rfl⟩
 rw [<- hs] at hK ⊢
 by_cases h1 : b <= x
 ·by_cases h2 : s <= t
  ·rw [decide_eq_true ⟨h1, h2⟩] at hK
   simp (disch := first | exact qD4 | fail) only [qG1, joinBR, Bool.not_false]
   exact hK
  ·rw [decide_eq_false fun h => h2 h.2] at hK
   simp (disch := first | exact qD4 | fail) only [qG1, joinBR, Bool.not_false]
   exact hK
 ·rw [decide_eq_false fun h => h1 h.1] at hK
  simp (disch := first | exact qD4 | fail) only [qG1, joinBR, Bool.not_false]
  exact hK
/-- what is wrong with a use. -/
def chkN (t : Bool) (m a k n : Nat) : Nat :=
 if (t && rightM m a) = false then 1 else if openM t m a = false then 2 else if pwN (needN k) (m / 4294967296 % 512) = false then 3
 else if spB (spM m a) <= a /\ a + n <= spT (spM m a) then 0 else 4
theorem Check_spec {w : World} {t : Bool} {m a k n : Nat} (hm : m < 18446744073709551616) (ha : a < 18446744073709551616) (hk : k < 5) (hn : n <= 16) (han : a + n < 18446744073709551616) (hsB : spB (spM m a) < 18446744073709551616) (hsT : spT (spM m a) < 18446744073709551616) {K : Value -> World -> Prop}
  (hK : ∀ w', Ext [] w w' -> K (.int .i64 (chkN t m a k n : Nat)) w') : callsK Tryz.prog 29 #[.agg (cpC t m a).toArray, .int .i64 (k : Nat), .int .u64 (n : Nat)] w K := by
 apply F29_ok
 unfold F29
 simp (disch := first | exact qD4 | fail) only [qG1, cpC_sub]
 refine of_spec hm ha fun w1 hx1 => ?_
 have hxa : Ext [] w w1 := Ext.trans qX hx1 (by simp)
 have h1 := hx1.at (b := w.heap.size) (o := .cells (cpC t m a).toArray 24 (0, 0)) (by first | with_reducible rfl | assumption | (simp (disch := first | exact qD4 | fail) only [qG1] <;> rfl)) (by simp)
 have l1 := lt_of_at h1
 have q7 : (lvC t m a)[7]? = some (.bool (t && rightM m a)) := rfl
 have q5 : (lvC t m a)[5]? = some (.int .u64 (m / 4294967296 % 512 : Nat)) := rfl
 have q3 : (lvC t m a)[3]? = some (.int .u64 (spB (spM m a) : Nat)) := rfl
 have q4 : (lvC t m a)[4]? = some (.int .u64 (spT (spM m a) : Nat)) := rfl
 have c2 : (cpC t m a)[2]? = some (.int .u64 (a : Nat)) := rfl
 simp (disch := first | exact qD4 | fail) only [qG1, lv_over, lv_over2, q7]
 have hxb : Ext [] w (w1.alloc (.cells (lvC t m a).toArray 121)) := qX
 have hC : chkN t m a k n = if (t && rightM m a) = false then 1 else if openM t m a = false then 2 else if pwN (needN k) (m / 4294967296 % 512) = false then 3 else if spB (spM m a) <= a /\ a + n <= spT (spM m a) then 0 else 4 := rfl
 rw [hC] at hK
 cases h5 : (t && rightM m a) with
 | false =>
  simp (disch := first | exact qD4 | fail) only [qG1, Bool.not_false]
  rw [if_pos h5] at hK
  exact hK _ hxb
 | true =>
  rw [if_neg (by simp [h5])] at hK
  simp (disch := first | exact qD4 | fail) only [qG1, Bool.not_true, lvC_sub]
  refine open_spec fun w2 hx2 => ?_
  have hx3 := hxb.trans hx2 (by simp)
  have k2 := hx2.at (b := w1.heap.size) (o := .cells (lvC t m a).toArray 121 (0, 0)) (by first | with_reducible rfl | assumption | (simp (disch := first | exact qD4 | fail) only [qG1] <;> rfl)) (by simp)
  have k1 := hx2.at (b := w.heap.size) (o := .cells (cpC t m a).toArray 24 (0, 0)) (by first | with_reducible rfl | assumption | (simp (disch := first | exact qD4 | fail) only [qG1, h1] <;> rfl)) (by simp)
  cases h6 : openM t m a with
  | false =>
   simp (disch := first | exact qD4 | fail) only [qG1, Bool.not_false]
   rw [if_pos h6] at hK
   exact hK _ hx3
  | true =>
   rw [if_neg (by simp [h6])] at hK
   simp (disch := first | exact qD4 | fail) only [qG1, Bool.not_true]
   have hnd : needN k < 512 := by
    unfold needN
    split <;> (try omega)
    split <;> (try omega)
    split <;> (try omega)
    split <;> (try omega)
    split <;> omega
   refine need_still hk ?_
   simp (disch := first | exact qD4 | fail) only [qG1, Nat.reduceAdd, k2, q5]
   refine pw_still (by omega) (by omega) ?_
   cases h7 : pwN (needN k) (m / 4294967296 % 512) with
   | false =>
    simp (disch := first | exact qD4 | fail) only [qG1, Bool.not_false]
    rw [if_pos h7] at hK
    exact hK _ qX
   | true =>
    rw [if_neg (by simp [h7])] at hK
    simp (disch := first | exact qD4 | fail) only [qG1, Nat.reduceAdd, Bool.not_true, k1, k2, c2, q3, q4]
    refine In_spec han hsB hsT ?_
    by_cases h8 : spB (spM m a) <= a /\ a + n <= spT (spM m a)
    ·rw [decide_eq_true h8]
     rw [if_pos h8] at hK
     simp (disch := first | exact qD4 | fail) only [qG1, Bool.not_true]
     exact hK _ qX
    ·rw [decide_eq_false h8]
     rw [if_neg h8] at hK
     simp (disch := first | exact qD4 | fail) only [qG1, Bool.not_false]
     exact hK _ qX
theorem Clear_spec {w : World} {t : Bool} {m a : Nat} {K : Value -> World -> Prop} (hK : ∀ w', Ext [] w w' -> K (.agg (cpC false m a).toArray) w') : callsK Tryz.prog 87 #[.agg (cpC t m a).toArray] w K := by
 apply F87_ok
 unfold F87
 have c1 : (cpC t m a)[1]? = some (.int .u64 (m : Nat)) := rfl
 have c2 : (cpC t m a)[2]? = some (.int .u64 (a : Nat)) := rfl
 simp (disch := first | exact qD4 | fail) only [qG1, Nat.reduceAdd, c1, c2]
 exact hK _ qX
theorem Null_spec {w : World} {n : Nat} {K : Value -> World -> Prop} (hK : ∀ w', Ext [] w w' -> K (.agg (cpC false 0 n).toArray) w') : callsK Tryz.prog 33 #[.int .u64 (n : Nat)] w K := by
 apply F33_ok
 unfold F33
 simp (disch := first | exact qD4 | fail) only [qG1, Nat.reduceAdd]
 exact hK _ qX
/-- is it as it was, at another address? -/
def moveT (t : Bool) (m a b : Nat) : Bool := openM t m a && (spM m b).isSome && decide (spB (spM m b) = spB (spM m a) /\ spT (spM m b) = spT (spM m a))
theorem Address_spec {w : World} {t : Bool} {m a b : Nat} (hm : m < 18446744073709551616) (ha : a < 18446744073709551616) (hb : b < 18446744073709551616) {K : Value -> World -> Prop} (hK : ∀ w', Ext [] w w' -> K (.agg (cpC (moveT t m a b) m b).toArray) w') :
  callsK Tryz.prog 44 #[.agg (cpC t m a).toArray, .int .u64 (b : Nat)] w K := by
 apply F44_ok
 unfold F44
 simp (disch := first | exact qD4 | fail) only [qG1, cpC_sub]
 refine of_spec hm ha fun w1 hx1 => ?_
 have hxa : Ext [] w w1 := Ext.trans qX hx1 (by simp)
 have h1 := hx1.at (b := w.heap.size) (o := .cells (cpC t m a).toArray 24 (0, 0)) (by first | with_reducible rfl | assumption | (simp (disch := first | exact qD4 | fail) only [qG1] <;> rfl)) (by simp)
 have h2 := hx1.at (b := w.heap.size + 1) (o := .cells [.bool false, .int .u64 0, .int .u64 0].toArray 24 (0, 0)) (by first | with_reducible rfl | assumption | (simp (disch := first | exact qD4 | fail) only [qG1] <;> rfl)) (by simp)
 have l1 := lt_of_at h1
 have l2 := lt_of_at h2
 have s1 : (cpC t m a).set 2 (.int .u64 (b : Nat)) = cpC t m b := rfl
 simp (disch := first | exact qD4 | fail) only [qG1, lv_over, lv_over2, h1, s1, cpC_sub]
 refine Look_spec hm hb fun w2 hx2 => ?_
 have hx3 : Ext [] w (World.upd (w1.alloc (.cells (lvC t m a).toArray 121)) w.heap.size (cpC t m b)) := qX
 have hx4 := hx3.trans hx2 (by simp)
 have u1 : (World.upd (w1.alloc (.cells (lvC t m a).toArray 121)) w.heap.size (cpC t m b)).heap[w.heap.size]? = some (.cells (cpC t m b).toArray 24 (0, 0)) := upd_at (l0 := cpC t m a) (by first | with_reducible rfl | assumption | (simp (disch := first | exact qD4 | fail) only [qG1, h1] <;> rfl))
 have u2 : (World.upd (w1.alloc (.cells (lvC t m a).toArray 121)) w.heap.size (cpC t m b)).heap[w.heap.size + 1]? = some (.cells [.bool false, .int .u64 0, .int .u64 0].toArray 24 (0, 0)) := (by first | with_reducible rfl | assumption | (simp (disch := first | exact qD4 | fail) only [qG1, h2] <;> rfl))
 have u5 : (World.upd (w1.alloc (.cells (lvC t m a).toArray 121)) w.heap.size (cpC t m b)).heap[w1.heap.size]? = some (.cells (lvC t m a).toArray 121 (0, 0)) := (by first | with_reducible rfl | assumption | (simp (disch := first | exact qD4 | fail) only [qG1] <;> rfl))
 have k1 := hx2.at u1 (by simp)
 have k2 := hx2.at u2 (by simp)
 have k5 := hx2.at u5 (by simp)
 have j1 := lt_of_at k1
 have j2 := lt_of_at k2
 have j5 := lt_of_at k5
 have hne : w.heap.size ≠ w1.heap.size := by omega
 simp (disch := first | exact qD4 | fail) only [qG1, vw_over, vw_over2, k5, lvC_sub]
 have hx5 : Ext [] w2 (w2.alloc (.cells (vwC m b).toArray 28)) := qX
 refine open_spec fun w3 hx6 => ?_
 have hx7 := hx5.trans hx6 (by simp)
 have hx8 := hx4.trans hx7 (by simp)
 have n1 := hx7.at k1 (by simp)
 have n2 := hx7.at k2 (by simp)
 have n5 := hx7.at k5 (by simp)
 have n6 := hx6.at (b := w2.heap.size) (o := .cells (vwC m b).toArray 28 (0, 0)) (by first | with_reducible rfl | assumption | (simp (disch := first | exact qD4 | fail) only [qG1] <;> rfl)) (by simp)
 have i1 := lt_of_at n1
 have i2 := lt_of_at n2
 have i5 := lt_of_at n5
 have i6 := lt_of_at n6
 have r1 : sub (vwC m b) 0 2 = [.int .u64 (spB (spM m b) : Nat), .int .u64 (spT (spM m b) : Nat)] := rfl
 have r2 : sub (lvC t m a) 3 2 = [.int .u64 (spB (spM m a) : Nat), .int .u64 (spT (spM m a) : Nat)] := rfl
 have hM : moveT t m a b = (openM t m a && (spM m b).isSome && decide (spB (spM m b) = spB (spM m a) /\ spT (spM m b) = spT (spM m a))) := rfl
 have s2 : ∀ x, (cpC t m b).set 0 (.bool x) = cpC x m b := fun _ => rfl
 have z1 : ∀ x, splice [.bool false, .int .u64 0, .int .u64 0] 0 (cpC x m b) = cpC x m b := fun _ => rfl
 have z2 : ∀ x, cpC x m b ++ List.drop (cpC x m b).length [.bool false, .int .u64 0, .int .u64 0] = cpC x m b := fun _ => by simp [cpC]
 have hend : ∀ x, x = moveT t m a b -> Ext [] w (World.upd (World.upd w3 w.heap.size (cpC x m b)) (w.heap.size + 1) (cpC x m b)) -> K (.agg (cpC x m b).toArray) (World.upd (World.upd w3 w.heap.size (cpC x m b)) (w.heap.size + 1) (cpC x m b)) := by
  intro x hx hxx
  subst hx
  exact hK _ hxx
 rw [hM] at hend
 have hfr : ∀ x, Ext [] w (World.upd (World.upd w3 w.heap.size (cpC x m b)) (w.heap.size + 1) (cpC x m b)) := fun x => qX
 have v1 : ∀ x, (World.upd w3 w.heap.size (cpC x m b)).heap[w.heap.size]? = some (.cells (cpC x m b).toArray 24 (0, 0)) := fun x => upd_at n1
 have v2 : ∀ x, (World.upd w3 w.heap.size (cpC x m b)).heap[w.heap.size + 1]? = some (.cells [.bool false, .int .u64 0, .int .u64 0].toArray 24 (0, 0)) := fun x => (upd_ne (by omega)).trans n2
 have v3 : ∀ x, (World.upd (World.upd w3 w.heap.size (cpC x m b)) (w.heap.size + 1) (cpC x m b)).heap[w.heap.size + 1]? = some (.cells (cpC x m b).toArray 24 (0, 0)) := fun x => upd_at (v2 x)
 cases h6 : openM t m a with
 | false =>
  simp (disch := first | exact qD4 | fail) only [qG1, joinBR, n1, n2, n5, n6, r1, r2, s2, z1, z2, cpC_sub, v1, v2, v3]
  exact hend false (by rw [h6]; rfl) (hfr _)
 | true =>
  cases h7 : (spM m b).isSome with
  | false =>
   simp (disch := first | exact qD4 | fail) only [qG1, joinBR, n1, n2, n5, n6, r1, r2, s2, z1, z2, cpC_sub, v1, v2, v3]
   exact hend false (by rw [h6, h7]; rfl) (hfr _)
  | true =>
   by_cases h8 : spB (spM m b) = spB (spM m a)
   ·by_cases h9 : spT (spM m b) = spT (spM m a)
    ·simp (disch := first | exact qD4 | fail) only [qG1, joinBR, n1, n2, n5, n6, r1, r2, s2, z1, z2, cpC_sub, v1, v2, v3, h8, h9, beq_self_eq_true, Bool.true_and, Bool.and_true]
     exact hend true (by rw [h6, h7, decide_eq_true ⟨h8, h9⟩]; rfl) (hfr _)
    ·have e9 : (((spT (spM m b) : Nat) : Int) == ((spT (spM m a) : Nat) : Int)) = false := by rw [beq_eq_false_iff_ne]; omega
     simp (disch := first | exact qD4 | fail) only [qG1, joinBR, n1, n2, n5, n6, r1, r2, s2, z1, z2, cpC_sub, v1, v2, v3, h8, e9, beq_self_eq_true, Bool.true_and, Bool.and_true, Bool.false_and]
     exact hend false (by rw [h6, h7, decide_eq_false fun h => h9 h.2]; rfl) (hfr _)
   ·have e8 : (((spB (spM m b) : Nat) : Int) == ((spB (spM m a) : Nat) : Int)) = false := by rw [beq_eq_false_iff_ne]; omega
    simp (disch := first | exact qD4 | fail) only [qG1, joinBR, n1, n2, n5, n6, r1, r2, s2, z1, z2, cpC_sub, v1, v2, v3, e8, Bool.false_and]
    exact hend false (by rw [h6, h7, decide_eq_false fun h => h8 h.1]; rfl) (hfr _)
theorem Move_spec {w : World} {t : Bool} {m a : Nat} {d : Int} {b : Nat} (hm : m < 18446744073709551616) (ha : a < 18446744073709551616) (hb : b < 18446744073709551616) (hd : IntKind.u64.wrap ((a : Int) + d) = (b : Int)) {K : Value -> World -> Prop} (hK : ∀ w', Ext [] w w' -> K (.agg (cpC (moveT t m a b) m b).toArray) w') :
  callsK Tryz.prog 16 #[.agg (cpC t m a).toArray, .int .u64 d] w K := by
 apply F16_ok
 unfold F16
 have c2 : (cpC t m a)[2]? = some (.int .u64 (a : Nat)) := rfl
 simp (disch := first | exact qD4 | fail) only [qG1, cpC_sub, c2, hd]
 refine Address_spec hm ha hb fun w1 hx1 => ?_
 have hxa : Ext [] w w1 := Ext.trans qX hx1 (by simp)
 have h2 := hx1.at (b := w.heap.size + 1) (o := .cells [.bool false, .int .u64 0, .int .u64 0].toArray 24 (0, 0)) (by first | with_reducible rfl | assumption | (simp (disch := first | exact qD4 | fail) only [qG1] <;> rfl)) (by simp)
 have l2 := lt_of_at h2
 have z1 : ∀ x, splice [.bool false, .int .u64 0, .int .u64 0] 0 (cpC x m b) = cpC x m b := fun _ => rfl
 have z2 : ∀ x, cpC x m b ++ List.drop (cpC x m b).length [.bool false, .int .u64 0, .int .u64 0] = cpC x m b := fun _ => by simp [cpC]
 simp (disch := first | exact qD4 | fail) only [qG1, h2, z1, z2, cpC_sub]
 exact hK _ qX
open Go.Fx
set_option maxRecDepth 100000
/-- a capability. -/
structure Cq where
 t : Bool
 m : Nat
 a : Nat
def Cq.zero : Cq := ⟨false, 0, 0⟩
def cq (c : Cq) : List Value := cpC c.t c.m c.a
theorem cq_len (c : Cq) : (cq c).length = 3 := by simp [cq, cpC]
theorem cq_all (c : Cq) : (cq c).all (fun v => v.oneCell') = true := cpC_all _ _ _
theorem cq_sub (c : Cq) : sub (cq c) 0 3 = cq c := rfl
theorem cq_over (c d : Cq) : splice (cq c) 0 (cq d) = cq d := rfl
theorem cq_over0 (d : Cq) : splice [.bool false, .int .u64 0, .int .u64 0] 0 (cq d) = cq d := rfl
theorem cq_put (d : Cq) : cq d ++ List.drop (cq d).length [.bool false, .int .u64 0, .int .u64 0] = cq d := by simp [cq, cpC]
/-- the cells of a context: 32 registers, and the next instruction's. -/
def rowsC (c : Nat -> Cq) : Nat -> List Value
 | 0 => []
 | n + 1 => rowsC c n ++ cq (c n)
theorem rowsC_len (c : Nat -> Cq) : ∀ n, (rowsC c n).length = n * 3
 | 0 => rfl
 | n + 1 => by rw [rowsC, List.length_append, rowsC_len c n, cq_len, Nat.succ_mul]
theorem rowsC_get (c : Nat -> Cq) : ∀ n i, i < n * 3 -> (rowsC c n)[i]? = (cq (c (i / 3)))[i % 3]?
 | 0, i, h => by omega
 | n + 1, i, h => by
  rw [rowsC]
  by_cases hi : i < n * 3
  ·rw [List.getElem?_append_left (by rw [rowsC_len]; exact hi), rowsC_get c n i hi]
  ·rw [List.getElem?_append_right (by rw [rowsC_len]; omega), rowsC_len, show i / 3 = n by omega, show i - n * 3 = i % 3 by omega]
theorem rowsC_all (c : Nat -> Cq) : ∀ n, (rowsC c n).all (fun v => v.oneCell') = true
 | 0 => rfl
 | n + 1 => by rw [rowsC, List.all_append, rowsC_all c n, cq_all]; rfl
def cxC (c : Nat -> Cq) : List Value := rowsC c 33
theorem cxC_len (c : Nat -> Cq) : (cxC c).length = 99 := by rw [cxC, rowsC_len]
theorem cxC_all (c : Nat -> Cq) : (cxC c).all (fun v => v.oneCell') = true := rowsC_all c 33
theorem cx_sub (c : Nat -> Cq) : sub (cxC c) 0 99 = cxC c := by
 unfold sub
 rw [List.drop_zero, List.take_of_length_le (by rw [cxC_len]; omega)]
theorem cx_over (c d : Nat -> Cq) : splice (cxC c) 0 (cxC d) = cxC d := by
 unfold splice
 rw [List.take_zero, List.nil_append, cxC_len, List.drop_of_length_le (by rw [cxC_len]; omega), List.append_nil]
theorem cx_put (c d : Nat -> Cq) : cxC d ++ List.drop (cxC d).length (cxC c) = cxC d := by
 rw [cxC_len, List.drop_of_length_le (by rw [cxC_len]; omega), List.append_nil]
theorem cx_at {c : Nat -> Cq} {k : Nat} (h : k < 33) : sub (cxC c) (k * 3) 3 = cq (c k) := by
 apply List.ext_getElem?
 intro j
 unfold sub
 rw [List.getElem?_take]
 split
 ·rename_i hj
  rw [List.getElem?_drop, cxC, rowsC_get c 33 _ (by omega), show (k * 3 + j) / 3 = k by omega, show (k * 3 + j) % 3 = j by omega]
 ·rename_i hj
  rw [List.getElem?_eq_none (by rw [cq_len]; omega)]
/-- one of them another. -/
def setX (c : Nat -> Cq) (k : Nat) (x : Cq) : Nat -> Cq := fun j => if j = k then x else c j
theorem cx_with {c : Nat -> Cq} {k : Nat} {x : Cq} (h : k < 33) : splice (cxC c) (k * 3) (cq x) = cxC (setX c k x) := by
 apply List.ext_getElem?
 intro i
 rw [splice_get (by rw [cq_len, cxC_len]; omega), cq_len]
 by_cases hi : i < 99
 ·have e1 : (cxC c)[i]? = (cq (c (i / 3)))[i % 3]? := rowsC_get c 33 i (by omega)
  have e2 : (cxC (setX c k x))[i]? = (cq (setX c k x (i / 3)))[i % 3]? := rowsC_get _ 33 i (by omega)
  rw [e1, e2]
  unfold setX
  by_cases h1 : i < k * 3
  ·rw [if_pos h1, if_neg (by omega)]
  ·rw [if_neg h1]
   by_cases h2 : i < k * 3 + 3
   ·rw [if_pos h2, if_pos (by omega), show i - k * 3 = i % 3 by omega]
   ·rw [if_neg h2, if_neg (by omega)]
 ·rw [if_neg (by omega), if_neg (by omega), List.getElem?_eq_none (by rw [cxC_len]; omega), List.getElem?_eq_none (by rw [cxC_len]; omega)]
def zeroX : Nat -> Cq := fun _ => Cq.zero
theorem zeroX_cells : Tryz.zeroCells42 = (cxC zeroX).toArray := by kernel_rfl
theorem qZ5 : type_of% (And.intro @szR (And.intro @fdsC_len (And.intro @fdsC_all (And.intro @spC_len (And.intro @spC_all (And.intro @cpC_len (And.intro @vwC_len (And.intro @cpC_all (And.intro @vwC_all (And.intro @lvC_len (And.intro @lvC_all (And.intro @cq_len (And.intro @cq_all (And.intro @cxC_len (@cxC_all))))))))))))))) := ⟨@szR, @fdsC_len, @fdsC_all, @spC_len, @spC_all, @cpC_len, @vwC_len, @cpC_all, @vwC_all, @lvC_len, @lvC_all, @cq_len, @cq_all, @cxC_len, @cxC_all⟩
theorem qD5 {p : Prop} (h : p := by first | assumption | omega | (simp only [qZ5] <;> omega) | rfl | decide) : p := h
theorem is_spec {w : World} {n : Nat} (hn : n < 9223372036854775808) {K : Value -> World -> Prop} (hK : K (.bool (decide (1 <= n /\ n < 32))) w) : callsK Tryz.prog 27 #[.int .i64 (n : Nat)] w K := by
 apply F27_ok
 unfold F27
 by_cases h1 : 1 <= n
 ·by_cases h2 : n < 32
  ·rw [decide_eq_true (And.intro h1 h2)] at hK
   simp (disch := first | exact qD5 | fail) only [qG1, joinBR]
   exact hK
  ·rw [decide_eq_false (fun h : 1 <= n /\ n < 32 => h2 h.2)] at hK
   simp (disch := first | exact qD5 | fail) only [qG1, joinBR]
   exact hK
 ·rw [decide_eq_false (fun h : 1 <= n /\ n < 32 => h1 h.1)] at hK
  simp (disch := first | exact qD5 | fail) only [qG1, joinBR]
  exact hK
/-- a register: zero, or one of them. -/
def regX (c : Nat -> Cq) (n : Nat) : Cq := if 1 <= n /\ n < 32 then c n else Cq.zero
theorem Get_reg {w : World} {c : Nat -> Cq} {n : Nat} (hn : n < 9223372036854775808) {K : Value -> World -> Prop} (hK : ∀ w', Ext [] w w' -> K (.agg (cq (regX c n)).toArray) w') : callsK Tryz.prog 11 #[.agg (cxC c).toArray, .int .i64 (n : Nat)] w K := by
 apply F11_ok
 unfold F11
 simp (disch := first | exact qD5 | fail) only [qG1]
 refine is_spec hn ?_
 have hb : ∀ w, (Instr.build 24 #[]).run Tryz.prog w = .ok (.agg (cq Cq.zero).toArray) w := fun w => run_build w 24 _ _ (by kernel_rfl)
 unfold regX at hK
 by_cases h : 1 <= n /\ n < 32
 ·rw [if_pos h] at hK
  rw [decide_eq_true h]
  simp (disch := first | exact qD5 | fail) only [qG1, Bool.not_true, Int.toNat_natCast, Nat.zero_add, cx_at, cq_over0, cq_put, cq_sub]
  exact hK _ qX
 ·rw [if_neg h] at hK
  rw [decide_eq_false h]
  simp (disch := first | exact qD5 | fail) only [qG1, Bool.not_false, hb, cq_over0, cq_put, cq_sub]
  exact hK _ qX
/-- a context with a register another one. -/
def withX (c : Nat -> Cq) (n : Nat) (x : Cq) : Nat -> Cq := if 1 <= n /\ n < 32 then setX c n x else c
theorem With_reg {w : World} {c : Nat -> Cq} {n : Nat} {x : Cq} (hn : n < 9223372036854775808) {K : Value -> World -> Prop} (hK : ∀ w', Ext [] w w' -> K (.agg (cxC (withX c n x)).toArray) w') : callsK Tryz.prog 9 #[.agg (cxC c).toArray, .int .i64 (n : Nat), .agg (cq x).toArray] w K := by
 apply F9_ok
 unfold F9
 simp (disch := first | exact qD5 | fail) only [qG1]
 refine joinL.intro fun J hJ => ?_
 have hend : ∀ d w2, w2.heap[w.heap.size]? = some (.cells (cxC d).toArray 42 (0, 0)) -> w2.heap[w.heap.size + 2]? = some (.cells (cxC zeroX).toArray 42 (0, 0)) -> Ext [] w w2 -> d = withX c n x -> J [] w2 := by
  intro d w2 h1 h2 h3 h4
  apply hJ
  intro _
  have l1 := lt_of_at h1
  have l2 := lt_of_at h2
  simp (disch := first | exact qD5 | fail) only [qG1, h1, h2, cx_sub, cx_over, cx_put]
  subst h4
  exact hK _ qX
 refine is_spec hn ?_
 have hd : withX c n x = if 1 <= n /\ n < 32 then setX c n x else c := rfl
 by_cases h : 1 <= n /\ n < 32
 ·rw [if_pos h] at hd
  rw [decide_eq_true h]
  simp (disch := first | exact qD5 | fail) only [qG1, cq_sub, Int.toNat_natCast, Nat.zero_add, cx_with]
  refine hend (setX c n x) _ (upd_at (l0 := cxC c) (by first | with_reducible rfl | assumption | (simp (disch := first | exact qD5 | fail) only [qG1] <;> rfl))) (by rw [zeroX_cells]; simp (disch := first | exact qD5 | fail) only [qG1]) qX hd.symm
 ·rw [if_neg h] at hd
  rw [decide_eq_false h]
  simp (disch := first | exact qD5 | fail) only [qG1]
  exact hend c _ (by first | with_reducible rfl | assumption | (simp (disch := first | exact qD5 | fail) only [qG1] <;> rfl)) (by rw [zeroX_cells]; simp (disch := first | exact qD5 | fail) only [qG1]) qX hd.symm
theorem Zero_reg {w : World} {x : Cq} {K : Value -> World -> Prop} (hK : ∀ w', Ext [] w w' -> K (.agg (cxC (setX zeroX 32 x)).toArray) w') : callsK Tryz.prog 8 #[.agg (cq x).toArray] w K := by
 apply F8_ok
 unfold F8
 have hb : ∀ (t : Bool) (m a : Int) (w : World), (Instr.build 42 #[(1, .agg [.bool t, .int .u64 m, .int .u64 a].toArray)]).run Tryz.prog w = .ok (.agg (rowsC zeroX 32 ++ [Value.bool t, Value.int .u64 m, Value.int .u64 a]).toArray) w := fun t m a w => run_build w 42 _ _ (by kernel_rfl)
 have hs : cxC (setX zeroX 32 x) = rowsC zeroX 32 ++ cq x := by
  have h1 : ∀ n, n <= 32 -> rowsC (setX zeroX 32 x) n = rowsC zeroX n := by
   intro n
   induction n with
   | zero => intro _; rfl
   | succ n ih =>
    intro h
    rw [rowsC, rowsC, ih (by omega)]
    congr 2
    unfold setX
    rw [if_neg (by omega)]
  have h2 : setX zeroX 32 x 32 = x := if_pos rfl
  show rowsC (setX zeroX 32 x) 32 ++ cq (setX zeroX 32 x 32) = _
  rw [h1 32 (by omega), h2]
 have hb2 : ∀ w, (Instr.build 42 #[(1, .agg (cq x).toArray)]).run Tryz.prog w = .ok (.agg (cxC (setX zeroX 32 x)).toArray) w := fun w => by rw [hs]; exact hb _ _ _ w
 simp (disch := first | exact qD5 | fail) only [qG1, cq_sub, hb2, zeroX_cells, cx_over, cx_put, cx_sub]
 exact hK _ qX
/-- the context that goes on. -/
def nextX (c : Nat -> Cq) : Nat -> Cq := setX c 32 ⟨moveT (c 32).t (c 32).m (c 32).a (((c 32).a + 4) % 18446744073709551616), (c 32).m, ((c 32).a + 4) % 18446744073709551616⟩
theorem Next_spec {w : World} {c : Nat -> Cq} (hm : (c 32).m < 18446744073709551616) (ha : (c 32).a < 18446744073709551616) {K : Value -> World -> Prop} (hK : ∀ w', Ext [] w w' -> K (.agg (cxC (nextX c)).toArray) w') : callsK Tryz.prog 28 #[.agg (cxC c).toArray] w K := by
 apply F28_ok
 unfold F28
 have e1 : sub (cxC c) 96 3 = cpC (c 32).t (c 32).m (c 32).a := cx_at (c := c) (k := 32) (by omega)
 have g1 : ((w.alloc (.cells (cxC c).toArray 42)).alloc (.cells (cxC zeroX).toArray 42)).heap[w.heap.size]? = some (.cells (cxC c).toArray 42 (0, 0)) := by simp (disch := first | exact qD5 | fail) only [qG1]
 have g2 : ((w.alloc (.cells (cxC c).toArray 42)).alloc (.cells (cxC zeroX).toArray 42)).heap[w.heap.size + 1]? = some (.cells (cxC zeroX).toArray 42 (0, 0)) := by simp (disch := first | exact qD5 | fail) only [qG1]
 have hx0 : Ext [] w ((w.alloc (.cells (cxC c).toArray 42)).alloc (.cells (cxC zeroX).toArray 42)) := qX
 simp (disch := first | exact qD5 | fail) only [qG1, e1, zeroX_cells]
 have hw : IntKind.u64.wrap (((c 32).a : Int) + 4) = ((((c 32).a + 4) % 18446744073709551616 : Nat) : Int) := by
  rw [wrapMod]
  omega
 refine Move_spec hm ha (Nat.mod_lt _ (by decide)) hw fun w1 hx1 => ?_
 have hxa := hx0.trans hx1 (by simp)
 have h1 := hx1.at g1 (by simp)
 have h2 := hx1.at g2 (by simp)
 have l1 := lt_of_at h1
 have l2 := lt_of_at h2
 have e2 : splice (cxC c) 96 (cpC (moveT (c 32).t (c 32).m (c 32).a (((c 32).a + 4) % 18446744073709551616)) (c 32).m (((c 32).a + 4) % 18446744073709551616)) = cxC (nextX c) := cx_with (c := c) (k := 32) (x := ⟨moveT (c 32).t (c 32).m (c 32).a (((c 32).a + 4) % 18446744073709551616), (c 32).m, ((c 32).a + 4) % 18446744073709551616⟩) (by omega)
 simp (disch := first | exact qD5 | fail) only [qG1, h1, h2, e2, cx_sub, cx_over, cx_put]
 exact hK _ qX
open Go.Fx
set_option maxRecDepth 100000
/-- a row: its name, its shape, and three numbers. -/
structure Rw where
 n : List UInt8
 s : Nat
 c : Nat
 f : Nat
 o : Nat
def rowI : List Rw := [⟨[108, 117, 105], 85, 55, 0, 0⟩, ⟨[97, 117, 105, 112, 99], 85, 23, 0, 0⟩, ⟨[106, 97, 108], 74, 111, 0, 0⟩, ⟨[106, 97, 108, 114], 73, 103, 0, 0⟩, ⟨[98, 101, 113], 66, 99, 0, 0⟩, ⟨[98, 110, 101], 66, 99, 1, 0⟩, ⟨[98, 108, 116], 66, 99, 4, 0⟩, ⟨[98, 103, 101], 66, 99, 5, 0⟩, ⟨[98, 108, 116, 117], 66, 99, 6, 0⟩, ⟨[98, 103, 101, 117], 66, 99, 7, 0⟩, ⟨[108, 98], 73, 3, 0, 0⟩, ⟨[108, 104], 73, 3, 1, 0⟩, ⟨[108, 119], 73, 3, 2, 0⟩, ⟨[108, 100], 73, 3, 3, 0⟩, ⟨[108, 98, 117], 73, 3, 4, 0⟩, ⟨[108, 104, 117], 73, 3, 5, 0⟩, ⟨[108, 119, 117], 73, 3, 6, 0⟩, ⟨[115, 98], 83, 35, 0, 0⟩, ⟨[115, 104], 83, 35, 1, 0⟩, ⟨[115, 119], 83, 35, 2, 0⟩, ⟨[115, 100], 83, 35, 3, 0⟩, ⟨[97, 100, 100, 105], 73, 19, 0, 0⟩, ⟨[115, 108, 116, 105], 73, 19, 2, 0⟩, ⟨[115, 108, 116, 105, 117], 73, 19, 3, 0⟩, ⟨[120, 111, 114, 105], 73, 19, 4, 0⟩, ⟨[111, 114, 105], 73, 19, 6, 0⟩, ⟨[97, 110, 100, 105], 73, 19, 7, 0⟩, ⟨[115, 108, 108, 105], 72, 19, 1, 0⟩, ⟨[115, 114, 108, 105], 72, 19, 5, 0⟩, ⟨[115, 114, 97, 105], 72, 19, 5, 16⟩, ⟨[97, 100, 100], 82, 51, 0, 0⟩, ⟨[115, 117, 98], 82, 51, 0, 32⟩, ⟨[115, 108, 108], 82, 51, 1, 0⟩, ⟨[115, 108, 116], 82, 51, 2, 0⟩, ⟨[115, 108, 116, 117], 82, 51, 3, 0⟩, ⟨[120, 111, 114], 82, 51, 4, 0⟩, ⟨[115, 114, 108], 82, 51, 5, 0⟩, ⟨[115, 114, 97], 82, 51, 5, 32⟩, ⟨[111, 114], 82, 51, 6, 0⟩, ⟨[97, 110, 100], 82, 51, 7, 0⟩, ⟨[101, 99, 97, 108, 108], 78, 115, 0, 0⟩, ⟨[101, 98, 114, 101, 97, 107], 78, 115, 0, 1⟩, ⟨[99, 108, 99], 73, 15, 2, 0⟩, ⟨[99, 115, 99], 83, 35, 4, 0⟩, ⟨[99, 115, 101, 116, 98, 111, 117, 110, 100, 115], 82, 91, 0, 8⟩, ⟨[99, 115, 101, 116, 98, 111, 117, 110, 100, 115, 101, 120, 97, 99, 116], 82, 91, 0, 9⟩, ⟨[99, 115, 101, 97, 108], 82, 91, 0, 11⟩, ⟨[99, 117, 110, 115, 101, 97, 108], 82, 91, 0, 12⟩, ⟨[99, 97, 110, 100, 112, 101, 114, 109], 82, 91, 0, 13⟩, ⟨[99, 115, 101, 116, 97, 100, 100, 114], 82, 91, 0, 16⟩, ⟨[99, 105, 110, 99, 111, 102, 102, 115, 101, 116], 82, 91, 0, 17⟩, ⟨[99, 115, 117, 98], 82, 91, 0, 20⟩, ⟨[99, 98, 117, 105, 108, 100, 99, 97, 112], 82, 91, 0, 29⟩, ⟨[99, 116, 101, 115, 116, 115, 117, 98, 115, 101, 116], 82, 91, 0, 32⟩, ⟨[99, 115, 101, 116, 101, 113, 117, 97, 108], 82, 91, 0, 33⟩, ⟨[99, 103, 101, 116, 112, 101, 114, 109], 71, 91, 0, 0⟩, ⟨[99, 103, 101, 116, 116, 121, 112, 101], 71, 91, 0, 1⟩, ⟨[99, 103, 101, 116, 98, 97, 115, 101], 71, 91, 0, 2⟩, ⟨[99, 103, 101, 116, 108, 101, 110], 71, 91, 0, 3⟩, ⟨[99, 103, 101, 116, 116, 97, 103], 71, 91, 0, 4⟩, ⟨[99, 103, 101, 116, 111, 102, 102, 115, 101, 116], 71, 91, 0, 6⟩, ⟨[99, 114, 114, 108], 71, 91, 0, 8⟩, ⟨[99, 114, 97, 109], 71, 91, 0, 9⟩, ⟨[99, 109, 111, 118, 101], 71, 91, 0, 10⟩, ⟨[99, 99, 108, 101, 97, 114, 116, 97, 103], 71, 91, 0, 11⟩, ⟨[99, 103, 101, 116, 97, 100, 100, 114], 71, 91, 0, 15⟩, ⟨[99, 115, 101, 97, 108, 101, 110, 116, 114, 121], 71, 91, 0, 17⟩, ⟨[99, 105, 110, 99, 111, 102, 102, 115, 101, 116, 105, 109, 109], 73, 91, 1, 0⟩, ⟨[99, 115, 101, 116, 98, 111, 117, 110, 100, 115, 105, 109, 109], 67, 91, 2, 0⟩]
def rwC (r : Rw) : List Value := [.string ⟨r.n.toArray⟩, .int .u8 (r.s : Nat), .int .u64 (r.c : Nat), .int .u64 (r.f : Nat), .int .u64 (r.o : Nat)]
theorem rwC_len (r : Rw) : (rwC r).length = 5 := by simp [rwC]
theorem rwC_all (r : Rw) : (rwC r).all (fun v => v.oneCell') = true := by simp [rwC]; exact ⟨rfl, rfl, rfl, rfl, rfl⟩
def Rw.zero : Rw := ⟨[], 0, 0, 0, 0⟩
def rwsC (l : List Rw) : List Value := l.flatMap rwC
theorem rwsC_len (l : List Rw) : (rwsC l).length = l.length * 5 := by
 induction l with
 | nil => rfl
 | cons r l ih => rw [rwsC, List.flatMap_cons, List.length_append, rwC_len]; rw [rwsC] at ih; rw [ih, List.length_cons]; omega
theorem rwsC_all (l : List Rw) : (rwsC l).all (fun v => v.oneCell') = true := by
 induction l with
 | nil => rfl
 | cons r l ih => rw [rwsC, List.flatMap_cons, List.all_append, rwC_all]; exact ih
theorem rws_at : ∀ (l : List Rw) (i : Nat), i < l.length -> sub (rwsC l) (i * 5) 5 = rwC (l.getD i Rw.zero)
 | [], i, h => by simp at h
 | r :: l, 0, h => by simp [sub, rwsC, rwC]
 | r :: l, i + 1, h => by
  have := rws_at l i (by simpa using h)
  have e : (i + 1) * 5 = 5 + i * 5 := by omega
  rw [sub, rwsC, List.flatMap_cons, e, <- List.drop_drop]
  simpa [sub, rwC, rwsC] using this
theorem rowI_len : rowI.length = 69 := by decide
theorem rw_over (r : Rw) : splice [.string ⟨#[]⟩, .int .u8 0, .int .u64 0, .int .u64 0, .int .u64 0] 0 (rwC r) = rwC r := rfl
theorem rw_put (r : Rw) : rwC r ++ List.drop (rwC r).length [.string ⟨#[]⟩, .int .u8 0, .int .u64 0, .int .u64 0, .int .u64 0] = rwC r := by simp [rwC]
theorem blRows (w : World) : (Instr.build 160 [(0, Value.agg [.string ⟨#[108, 117, 105]⟩, .int .u8 85, .int .u64 55, .int .u64 0, .int .u64 0].toArray), (1, Value.agg [.string ⟨#[97, 117, 105, 112, 99]⟩, .int .u8 85, .int .u64 23, .int .u64 0, .int .u64 0].toArray), (2, Value.agg [.string ⟨#[106, 97, 108]⟩, .int .u8 74, .int .u64 111, .int .u64 0, .int .u64 0].toArray), (3, Value.agg [.string ⟨#[106, 97, 108, 114]⟩, .int .u8 73, .int .u64 103, .int .u64 0, .int .u64 0].toArray), (4, Value.agg [.string ⟨#[98, 101, 113]⟩, .int .u8 66, .int .u64 99, .int .u64 0, .int .u64 0].toArray), (5, Value.agg [.string ⟨#[98, 110, 101]⟩, .int .u8 66, .int .u64 99, .int .u64 1, .int .u64 0].toArray), (6, Value.agg [.string ⟨#[98, 108, 116]⟩, .int .u8 66, .int .u64 99, .int .u64 4, .int .u64 0].toArray), (7, Value.agg [.string ⟨#[98, 103, 101]⟩, .int .u8 66, .int .u64 99, .int .u64 5, .int .u64 0].toArray), (8, Value.agg [.string ⟨#[98, 108, 116, 117]⟩, .int .u8 66, .int .u64 99, .int .u64 6, .int .u64 0].toArray), (9, Value.agg [.string ⟨#[98, 103, 101, 117]⟩, .int .u8 66, .int .u64 99, .int .u64 7, .int .u64 0].toArray), (10, Value.agg [.string ⟨#[108, 98]⟩, .int .u8 73, .int .u64 3, .int .u64 0, .int .u64 0].toArray), (11, Value.agg [.string ⟨#[108, 104]⟩, .int .u8 73, .int .u64 3, .int .u64 1, .int .u64 0].toArray), (12, Value.agg [.string ⟨#[108, 119]⟩, .int .u8 73, .int .u64 3, .int .u64 2, .int .u64 0].toArray), (13, Value.agg [.string ⟨#[108, 100]⟩, .int .u8 73, .int .u64 3, .int .u64 3, .int .u64 0].toArray), (14, Value.agg [.string ⟨#[108, 98, 117]⟩, .int .u8 73, .int .u64 3, .int .u64 4, .int .u64 0].toArray), (15, Value.agg [.string ⟨#[108, 104, 117]⟩, .int .u8 73, .int .u64 3, .int .u64 5, .int .u64 0].toArray), (16, Value.agg [.string ⟨#[108, 119, 117]⟩, .int .u8 73, .int .u64 3, .int .u64 6, .int .u64 0].toArray), (17, Value.agg [.string ⟨#[115, 98]⟩, .int .u8 83, .int .u64 35, .int .u64 0, .int .u64 0].toArray), (18, Value.agg [.string ⟨#[115, 104]⟩, .int .u8 83, .int .u64 35, .int .u64 1, .int .u64 0].toArray), (19, Value.agg [.string ⟨#[115, 119]⟩, .int .u8 83, .int .u64 35, .int .u64 2, .int .u64 0].toArray), (20, Value.agg [.string ⟨#[115, 100]⟩, .int .u8 83, .int .u64 35, .int .u64 3, .int .u64 0].toArray), (21, Value.agg [.string ⟨#[97, 100, 100, 105]⟩, .int .u8 73, .int .u64 19, .int .u64 0, .int .u64 0].toArray), (22, Value.agg [.string ⟨#[115, 108, 116, 105]⟩, .int .u8 73, .int .u64 19, .int .u64 2, .int .u64 0].toArray), (23, Value.agg [.string ⟨#[115, 108, 116, 105, 117]⟩, .int .u8 73, .int .u64 19, .int .u64 3, .int .u64 0].toArray), (24, Value.agg [.string ⟨#[120, 111, 114, 105]⟩, .int .u8 73, .int .u64 19, .int .u64 4, .int .u64 0].toArray), (25, Value.agg [.string ⟨#[111, 114, 105]⟩, .int .u8 73, .int .u64 19, .int .u64 6, .int .u64 0].toArray), (26, Value.agg [.string ⟨#[97, 110, 100, 105]⟩, .int .u8 73, .int .u64 19, .int .u64 7, .int .u64 0].toArray), (27, Value.agg [.string ⟨#[115, 108, 108, 105]⟩, .int .u8 72, .int .u64 19, .int .u64 1, .int .u64 0].toArray), (28, Value.agg [.string ⟨#[115, 114, 108, 105]⟩, .int .u8 72, .int .u64 19, .int .u64 5, .int .u64 0].toArray), (29, Value.agg [.string ⟨#[115, 114, 97, 105]⟩, .int .u8 72, .int .u64 19, .int .u64 5, .int .u64 16].toArray), (30, Value.agg [.string ⟨#[97, 100, 100]⟩, .int .u8 82, .int .u64 51, .int .u64 0, .int .u64 0].toArray), (31, Value.agg [.string ⟨#[115, 117, 98]⟩, .int .u8 82, .int .u64 51, .int .u64 0, .int .u64 32].toArray), (32, Value.agg [.string ⟨#[115, 108, 108]⟩, .int .u8 82, .int .u64 51, .int .u64 1, .int .u64 0].toArray), (33, Value.agg [.string ⟨#[115, 108, 116]⟩, .int .u8 82, .int .u64 51, .int .u64 2, .int .u64 0].toArray), (34, Value.agg [.string ⟨#[115, 108, 116, 117]⟩, .int .u8 82, .int .u64 51, .int .u64 3, .int .u64 0].toArray), (35, Value.agg [.string ⟨#[120, 111, 114]⟩, .int .u8 82, .int .u64 51, .int .u64 4, .int .u64 0].toArray), (36, Value.agg [.string ⟨#[115, 114, 108]⟩, .int .u8 82, .int .u64 51, .int .u64 5, .int .u64 0].toArray), (37, Value.agg [.string ⟨#[115, 114, 97]⟩, .int .u8 82, .int .u64 51, .int .u64 5, .int .u64 32].toArray), (38, Value.agg [.string ⟨#[111, 114]⟩, .int .u8 82, .int .u64 51, .int .u64 6, .int .u64 0].toArray), (39, Value.agg [.string ⟨#[97, 110, 100]⟩, .int .u8 82, .int .u64 51, .int .u64 7, .int .u64 0].toArray), (40, Value.agg [.string ⟨#[101, 99, 97, 108, 108]⟩, .int .u8 78, .int .u64 115, .int .u64 0, .int .u64 0].toArray), (41, Value.agg [.string ⟨#[101, 98, 114, 101, 97, 107]⟩, .int .u8 78, .int .u64 115, .int .u64 0, .int .u64 1].toArray), (42, Value.agg [.string ⟨#[99, 108, 99]⟩, .int .u8 73, .int .u64 15, .int .u64 2, .int .u64 0].toArray), (43, Value.agg [.string ⟨#[99, 115, 99]⟩, .int .u8 83, .int .u64 35, .int .u64 4, .int .u64 0].toArray), (44, Value.agg [.string ⟨#[99, 115, 101, 116, 98, 111, 117, 110, 100, 115]⟩, .int .u8 82, .int .u64 91, .int .u64 0, .int .u64 8].toArray), (45, Value.agg [.string ⟨#[99, 115, 101, 116, 98, 111, 117, 110, 100, 115, 101, 120, 97, 99, 116]⟩, .int .u8 82, .int .u64 91, .int .u64 0, .int .u64 9].toArray), (46, Value.agg [.string ⟨#[99, 115, 101, 97, 108]⟩, .int .u8 82, .int .u64 91, .int .u64 0, .int .u64 11].toArray), (47, Value.agg [.string ⟨#[99, 117, 110, 115, 101, 97, 108]⟩, .int .u8 82, .int .u64 91, .int .u64 0, .int .u64 12].toArray), (48, Value.agg [.string ⟨#[99, 97, 110, 100, 112, 101, 114, 109]⟩, .int .u8 82, .int .u64 91, .int .u64 0, .int .u64 13].toArray), (49, Value.agg [.string ⟨#[99, 115, 101, 116, 97, 100, 100, 114]⟩, .int .u8 82, .int .u64 91, .int .u64 0, .int .u64 16].toArray), (50, Value.agg [.string ⟨#[99, 105, 110, 99, 111, 102, 102, 115, 101, 116]⟩, .int .u8 82, .int .u64 91, .int .u64 0, .int .u64 17].toArray), (51, Value.agg [.string ⟨#[99, 115, 117, 98]⟩, .int .u8 82, .int .u64 91, .int .u64 0, .int .u64 20].toArray), (52, Value.agg [.string ⟨#[99, 98, 117, 105, 108, 100, 99, 97, 112]⟩, .int .u8 82, .int .u64 91, .int .u64 0, .int .u64 29].toArray), (53, Value.agg [.string ⟨#[99, 116, 101, 115, 116, 115, 117, 98, 115, 101, 116]⟩, .int .u8 82, .int .u64 91, .int .u64 0, .int .u64 32].toArray), (54, Value.agg [.string ⟨#[99, 115, 101, 116, 101, 113, 117, 97, 108]⟩, .int .u8 82, .int .u64 91, .int .u64 0, .int .u64 33].toArray), (55, Value.agg [.string ⟨#[99, 103, 101, 116, 112, 101, 114, 109]⟩, .int .u8 71, .int .u64 91, .int .u64 0, .int .u64 0].toArray), (56, Value.agg [.string ⟨#[99, 103, 101, 116, 116, 121, 112, 101]⟩, .int .u8 71, .int .u64 91, .int .u64 0, .int .u64 1].toArray), (57, Value.agg [.string ⟨#[99, 103, 101, 116, 98, 97, 115, 101]⟩, .int .u8 71, .int .u64 91, .int .u64 0, .int .u64 2].toArray), (58, Value.agg [.string ⟨#[99, 103, 101, 116, 108, 101, 110]⟩, .int .u8 71, .int .u64 91, .int .u64 0, .int .u64 3].toArray), (59, Value.agg [.string ⟨#[99, 103, 101, 116, 116, 97, 103]⟩, .int .u8 71, .int .u64 91, .int .u64 0, .int .u64 4].toArray), (60, Value.agg [.string ⟨#[99, 103, 101, 116, 111, 102, 102, 115, 101, 116]⟩, .int .u8 71, .int .u64 91, .int .u64 0, .int .u64 6].toArray), (61, Value.agg [.string ⟨#[99, 114, 114, 108]⟩, .int .u8 71, .int .u64 91, .int .u64 0, .int .u64 8].toArray), (62, Value.agg [.string ⟨#[99, 114, 97, 109]⟩, .int .u8 71, .int .u64 91, .int .u64 0, .int .u64 9].toArray), (63, Value.agg [.string ⟨#[99, 109, 111, 118, 101]⟩, .int .u8 71, .int .u64 91, .int .u64 0, .int .u64 10].toArray), (64, Value.agg [.string ⟨#[99, 99, 108, 101, 97, 114, 116, 97, 103]⟩, .int .u8 71, .int .u64 91, .int .u64 0, .int .u64 11].toArray), (65, Value.agg [.string ⟨#[99, 103, 101, 116, 97, 100, 100, 114]⟩, .int .u8 71, .int .u64 91, .int .u64 0, .int .u64 15].toArray), (66, Value.agg [.string ⟨#[99, 115, 101, 97, 108, 101, 110, 116, 114, 121]⟩, .int .u8 71, .int .u64 91, .int .u64 0, .int .u64 17].toArray), (67, Value.agg [.string ⟨#[99, 105, 110, 99, 111, 102, 102, 115, 101, 116, 105, 109, 109]⟩, .int .u8 73, .int .u64 91, .int .u64 1, .int .u64 0].toArray), (68, Value.agg [.string ⟨#[99, 115, 101, 116, 98, 111, 117, 110, 100, 115, 105, 109, 109]⟩, .int .u8 67, .int .u64 91, .int .u64 2, .int .u64 0].toArray)].toArray).run Tryz.prog w = .ok (.agg (rwsC rowI).toArray) w := run_build w _ _ _ (by kernel_rfl)
theorem qZ6 : type_of% (And.intro @szR (And.intro @rwC_len (And.intro @rwC_all (And.intro @rwsC_len (@rwsC_all))))) := ⟨@szR, @rwC_len, @rwC_all, @rwsC_len, @rwsC_all⟩
theorem qD6 {p : Prop} (h : p := by first | assumption | omega | (simp only [qZ6] <;> omega) | rfl | decide) : p := h
theorem rows_spec {w : World} {K : Value -> World -> Prop} (hK : ∀ w', Ext [] w w' -> K (.agg (rwsC rowI).toArray) w') : callsK Tryz.prog 68 #[] w K := by
 apply F68_ok
 unfold F68
 obtain ⟨z, hz, hzl⟩ : ∃ z : List Value, Tryz.zeroCells160 = z.toArray /\ z.length = 345 := ⟨Tryz.zeroCells160.toList, by simp, by kernel_rfl⟩
 have hl : (rwsC rowI).length = 345 := by rw [rwsC_len, rowI_len]
 have hs : splice z 0 (rwsC rowI) = rwsC rowI := by rw [splice, List.take_zero, List.nil_append, Nat.zero_add, List.drop_eq_nil_of_le (by rw [hzl, hl]; decide), List.append_nil]
 have hsub : sub (rwsC rowI) 0 345 = rwsC rowI := by
  rw [sub, List.drop_zero, List.take_of_length_le (by rw [hl]; decide)]
 have hzle : 0 + (rwsC rowI).length <= z.length := by rw [hzl, hl]; decide
 have hall := rwsC_all rowI
 simp (disch := first | exact qD6 | fail) only [qG1, hz, blRows, hs, hsub]
 exact hK _ qX
end Go.Proofs.YtplfniijbeinmaaGreat
