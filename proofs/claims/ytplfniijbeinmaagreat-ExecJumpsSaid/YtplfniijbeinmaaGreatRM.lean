/- The rules of operations of functions of this seat; conditions: none. -/
import Derived.Test.YtplfniijbeinmaaGreatProg
import Derived.Test.YtplfniijbeinmaaGreatSlices
import Derived.KernelRfl
namespace Go.Proofs.YtplfniijbeinmaaGreat
open Go.Fx
set_option linter.unusedVariables false
set_option linter.constructorNameAsVariable false
set_option maxRecDepth 100000
set_option maxHeartbeats 4000000
theorem RM_call_21 : ∀ (first cap args : List Value) (w : World) (K : Value → World → Prop), kN Tryz.prog (callN (.func (.func 21) first.toArray cap.toArray) args.toArray) w K = callsK Tryz.prog 21 (first ++ args ++ cap).toArray w K := Fx.kN_callf Tryz.call21
theorem RM_bl_134_0 : ∀ (a0x0 : Option Addr) (a0x0n a0x0c : Nat) (w : World), (Instr.build 134 [(0, .slice a0x0 a0x0n a0x0c)].toArray).run Tryz.prog w = .ok (.agg [.slice a0x0 a0x0n a0x0c].toArray) w := fun a0x0 a0x0n a0x0c w => run_build w 134 _ _ (by kernel_rfl)
theorem RM_call_23 : ∀ (first cap args : List Value) (w : World) (K : Value → World → Prop), kN Tryz.prog (callN (.func (.func 23) first.toArray cap.toArray) args.toArray) w K = callsK Tryz.prog 23 (first ++ args ++ cap).toArray w K := Fx.kN_callf Tryz.call23
theorem RM_call_52 : ∀ (first cap args : List Value) (w : World) (K : Value → World → Prop), kN Tryz.prog (callN (.func (.func 52) first.toArray cap.toArray) args.toArray) w K = callsK Tryz.prog 52 (first ++ args ++ cap).toArray w K := Fx.kN_callf Tryz.call52
theorem RM_call_53 : ∀ (first cap args : List Value) (w : World) (K : Value → World → Prop), kN Tryz.prog (callN (.func (.func 53) first.toArray cap.toArray) args.toArray) w K = callsK Tryz.prog 53 (first ++ args ++ cap).toArray w K := Fx.kN_callf Tryz.call53
theorem RM_al_137 : ∀ (w : World), (Instr.alloc 137 true (.tuple #[])).run Tryz.prog w = .ok (.pointer (some ⟨w.heap.size, 0, none⟩)) (w.alloc (.cells #[(.pointer none)] 137)) := Fx.run_alloc Tryz.zeroValue137
theorem RM_al_3 : ∀ (w : World), (Instr.alloc 3 true (.tuple #[])).run Tryz.prog w = .ok (.pointer (some ⟨w.heap.size, 0, none⟩)) (w.alloc (.cells #[(.int .i64 0)] 3)) := Fx.run_alloc Tryz.zeroValue3
theorem RM_st_137 : ∀ (b o : Nat) (v : Value) (w : World), v.oneCell' = true → (Instr.storeAt 137 (.pointer (some ⟨b, o, none⟩)) v).run Tryz.prog w = s1X Tryz.prog w b o v w.heap[b]? := Fx.run_store1' Tryz.sizeOf137
theorem RM_st_3 : ∀ (b o : Nat) (v : Value) (w : World), v.oneCell' = true → (Instr.storeAt 3 (.pointer (some ⟨b, o, none⟩)) v).run Tryz.prog w = s1X Tryz.prog w b o v w.heap[b]? := Fx.run_store1' Tryz.sizeOf3
theorem RM_call_55 : ∀ (first cap args : List Value) (w : World) (K : Value → World → Prop), kN Tryz.prog (callN (.func (.func 55) first.toArray cap.toArray) args.toArray) w K = callsK Tryz.prog 55 (first ++ args ++ cap).toArray w K := Fx.kN_callf Tryz.call55
theorem RM_call_54 : ∀ (first cap args : List Value) (w : World) (K : Value → World → Prop), kN Tryz.prog (callN (.func (.func 54) first.toArray cap.toArray) args.toArray) w K = callsK Tryz.prog 54 (first ++ args ++ cap).toArray w K := Fx.kN_callf Tryz.call54
theorem RM_ld_137 : ∀ (b o : Nat) (w : World), (Instr.loadAt 137 (.pointer (some ⟨b, o, none⟩))).run Tryz.prog w = ldX Tryz.prog w b o w.heap[b]? := Fx.run_load1' Tryz.isAgg137
theorem RM_fld_145_1 : ∀ (b o : Nat) (w : World), (Instr.fieldAt 145 (.pointer (some ⟨b, o, none⟩)) 1).run Tryz.prog w = .ok (.pointer (some ⟨b, o + 4096, none⟩)) w := Fx.run_fieldO 1 4096 4 Tryz.underlying145 rfl Tryz.sizeOf143 (by decide)
theorem RM_ld_143 : ∀ (b o : Nat) (w : World), (Instr.loadAt 143 (.pointer (some ⟨b, o, none⟩))).run Tryz.prog w = lnV Tryz.prog w b o 4 w.heap[b]? := Fx.run_loadN' Tryz.isAgg143 Tryz.sizeOf143
theorem RM_ld_3 : ∀ (b o : Nat) (w : World), (Instr.loadAt 3 (.pointer (some ⟨b, o, none⟩))).run Tryz.prog w = ldX Tryz.prog w b o w.heap[b]? := Fx.run_load1' Tryz.isAgg3
theorem RM_call_57 : ∀ (first cap args : List Value) (w : World) (K : Value → World → Prop), kN Tryz.prog (callN (.func (.func 57) first.toArray cap.toArray) args.toArray) w K = callsK Tryz.prog 57 (first ++ args ++ cap).toArray w K := Fx.kN_callf Tryz.call57
theorem RM_call_56 : ∀ (first cap args : List Value) (w : World) (K : Value → World → Prop), kN Tryz.prog (callN (.func (.func 56) first.toArray cap.toArray) args.toArray) w K = callsK Tryz.prog 56 (first ++ args ++ cap).toArray w K := Fx.kN_callf Tryz.call56
theorem RM_st_143 : ∀ (b o : Nat) (vs : List Value) (w : World), vs.length = 4 → (Instr.storeAt 143 (.pointer (some ⟨b, o, none⟩)) (.agg vs.toArray)).run Tryz.prog w = snX Tryz.prog w b o vs w.heap[b]? := Fx.run_storeN' Tryz.sizeOf143
theorem RM_cv_3_22 : ∀ (k0 : IntKind) (a : Int) (w : World), (convert 3 22 (.int k0 a)).run Tryz.prog w = .ok (.int .u64 (IntKind.wrap .u64 a)) w := Fx.run_convert_int Tryz.underlying3 Tryz.underlying22
theorem RM_call_91 : ∀ (first cap args : List Value) (w : World) (K : Value → World → Prop), kN Tryz.prog (callN (.func (.func 91) first.toArray cap.toArray) args.toArray) w K = callsK Tryz.prog 91 (first ++ args ++ cap).toArray w K := Fx.kN_callf Tryz.call91
theorem RM_fld_134_0 : ∀ (b o : Nat) (w : World), (Instr.fieldAt 134 (.pointer (some ⟨b, o, none⟩)) 0).run Tryz.prog w = .ok (.pointer (some ⟨b, o, none⟩)) w := Fx.run_fieldO 0 0 1 Tryz.underlying134 rfl Tryz.sizeOf132 (by decide)
theorem RM_ld_132 : ∀ (b o : Nat) (w : World), (Instr.loadAt 132 (.pointer (some ⟨b, o, none⟩))).run Tryz.prog w = ldX Tryz.prog w b o w.heap[b]? := Fx.run_load1' Tryz.isAgg132
theorem RM_len_132 : ∀ (a : Option Addr) (len cap : Nat) (w : World), (Builtin.len_ #[132] 3 #[.slice a len cap]).run Tryz.prog w = .ok (.int .i64 len) w := Fx.run_len_slice Tryz.underlying132
theorem RM_ix_132 : ∀ (b o len cap : Nat) (k : IntKind) (i : Int) (w : World), 0 ≤ i ∧ i < len → (Instr.indexAt 132 (.slice (some ⟨b, o, none⟩) len cap) (.int k i)).run Tryz.prog w = .ok (.pointer (some ⟨b, o + i.toNat * 4100, none⟩)) w := Fx.run_index_slice Tryz.underlying132 Tryz.sizeOf145
theorem RM_cv_22_3 : ∀ (k0 : IntKind) (a : Int) (w : World), (convert 22 3 (.int k0 a)).run Tryz.prog w = .ok (.int .i64 (IntKind.wrap .i64 a)) w := Fx.run_convert_int Tryz.underlying22 Tryz.underlying3
theorem RM_ld_22 : ∀ (b o : Nat) (w : World), (Instr.loadAt 22 (.pointer (some ⟨b, o, none⟩))).run Tryz.prog w = ldX Tryz.prog w b o w.heap[b]? := Fx.run_load1' Tryz.isAgg22
theorem RM_cv_22_5 : ∀ (k0 : IntKind) (a : Int) (w : World), (convert 22 5 (.int k0 a)).run Tryz.prog w = .ok (.int .u8 (IntKind.wrap .u8 a)) w := Fx.run_convert_int Tryz.underlying22 Tryz.underlying5
theorem RM_fld_145_0 : ∀ (b o : Nat) (w : World), (Instr.fieldAt 145 (.pointer (some ⟨b, o, none⟩)) 0).run Tryz.prog w = .ok (.pointer (some ⟨b, o, none⟩)) w := Fx.run_fieldO 0 0 4096 Tryz.underlying145 rfl Tryz.sizeOf141 (by decide)
theorem RM_ix_141 : ∀ (b o : Nat) (k : IntKind) (i : Int) (w : World), 0 ≤ i ∧ i < 4096 → (Instr.indexAt 141 (.pointer (some ⟨b, o, none⟩)) (.int k i)).run Tryz.prog w = .ok (.pointer (some ⟨b, o + i.toNat * 1, none⟩)) w := Fx.run_index_array Tryz.underlying141 Tryz.sizeOf5
theorem RM_st_5 : ∀ (b o : Nat) (v : Value) (w : World), v.oneCell' = true → (Instr.storeAt 5 (.pointer (some ⟨b, o, none⟩)) v).run Tryz.prog w = s1X Tryz.prog w b o v w.heap[b]? := Fx.run_store1' Tryz.sizeOf5
theorem RM_al_143 : ∀ (w : World), (Instr.alloc 143 true (.tuple #[])).run Tryz.prog w = .ok (.pointer (some ⟨w.heap.size, 0, none⟩)) (w.alloc (.cells #[(.int .u64 0), (.int .u64 0), (.int .u64 0), (.int .u64 0)] 143)) := Fx.run_alloc Tryz.zeroValue143
theorem RM_ix_143 : ∀ (b o : Nat) (k : IntKind) (i : Int) (w : World), 0 ≤ i ∧ i < 4 → (Instr.indexAt 143 (.pointer (some ⟨b, o, none⟩)) (.int k i)).run Tryz.prog w = .ok (.pointer (some ⟨b, o + i.toNat * 1, none⟩)) w := Fx.run_index_array Tryz.underlying143 Tryz.sizeOf22
theorem RM_st_22 : ∀ (b o : Nat) (v : Value) (w : World), v.oneCell' = true → (Instr.storeAt 22 (.pointer (some ⟨b, o, none⟩)) v).run Tryz.prog w = s1X Tryz.prog w b o v w.heap[b]? := Fx.run_store1' Tryz.sizeOf22
theorem RM_call_61 : ∀ (first cap args : List Value) (w : World) (K : Value → World → Prop), kN Tryz.prog (callN (.func (.func 61) first.toArray cap.toArray) args.toArray) w K = callsK Tryz.prog 61 (first ++ args ++ cap).toArray w K := Fx.kN_callf Tryz.call61
theorem RM_call_93 : ∀ (first cap args : List Value) (w : World) (K : Value → World → Prop), kN Tryz.prog (callN (.func (.func 93) first.toArray cap.toArray) args.toArray) w K = callsK Tryz.prog 93 (first ++ args ++ cap).toArray w K := Fx.kN_callf Tryz.call93
theorem RM_eql_31 : ∀ (x y : Operand) (a : Option Addr) (w : World), (binV .eql 31 x y (.pointer a) (.pointer none)).run Tryz.prog w = .ok (.bool (a.isNone)) w := Fx.run_eqlP Tryz.underlying31
theorem RM_call_147 : ∀ (first cap args : List Value) (w : World) (K : Value → World → Prop), kN Tryz.prog (callN (.func (.func 147) first.toArray cap.toArray) args.toArray) w K = callsK Tryz.prog 147 (first ++ args ++ cap).toArray w K := Fx.kN_callf Tryz.call147
theorem RM_al_22 : ∀ (w : World), (Instr.alloc 22 true (.tuple #[])).run Tryz.prog w = .ok (.pointer (some ⟨w.heap.size, 0, none⟩)) (w.alloc (.cells #[(.int .u64 0)] 22)) := Fx.run_alloc Tryz.zeroValue22
theorem RM_call_149 : ∀ (first cap args : List Value) (w : World) (K : Value → World → Prop), kN Tryz.prog (callN (.func (.func 149) first.toArray cap.toArray) args.toArray) w K = callsK Tryz.prog 149 (first ++ args ++ cap).toArray w K := Fx.kN_callf Tryz.call149
theorem RM_ld_5 : ∀ (b o : Nat) (w : World), (Instr.loadAt 5 (.pointer (some ⟨b, o, none⟩))).run Tryz.prog w = ldX Tryz.prog w b o w.heap[b]? := Fx.run_load1' Tryz.isAgg5
theorem RM_cv_5_22 : ∀ (k0 : IntKind) (a : Int) (w : World), (convert 5 22 (.int k0 a)).run Tryz.prog w = .ok (.int .u64 (IntKind.wrap .u64 a)) w := Fx.run_convert_int Tryz.underlying5 Tryz.underlying22
theorem RM_call_151 : ∀ (first cap args : List Value) (w : World) (K : Value → World → Prop), kN Tryz.prog (callN (.func (.func 151) first.toArray cap.toArray) args.toArray) w K = callsK Tryz.prog 151 (first ++ args ++ cap).toArray w K := Fx.kN_callf Tryz.call151
theorem rulesM : (∀ (first cap args : List Value) (w : World) (K : Value → World → Prop), kN Tryz.prog (callN (.func (.func 21) first.toArray cap.toArray) args.toArray) w K = callsK Tryz.prog 21 (first ++ args ++ cap).toArray w K) ∧
  (∀ (a0x0 : Option Addr) (a0x0n a0x0c : Nat) (w : World), (Instr.build 134 [(0, .slice a0x0 a0x0n a0x0c)].toArray).run Tryz.prog w = .ok (.agg [.slice a0x0 a0x0n a0x0c].toArray) w) ∧
  (∀ (first cap args : List Value) (w : World) (K : Value → World → Prop), kN Tryz.prog (callN (.func (.func 23) first.toArray cap.toArray) args.toArray) w K = callsK Tryz.prog 23 (first ++ args ++ cap).toArray w K) ∧
  (∀ (first cap args : List Value) (w : World) (K : Value → World → Prop), kN Tryz.prog (callN (.func (.func 52) first.toArray cap.toArray) args.toArray) w K = callsK Tryz.prog 52 (first ++ args ++ cap).toArray w K) ∧
  (∀ (first cap args : List Value) (w : World) (K : Value → World → Prop), kN Tryz.prog (callN (.func (.func 53) first.toArray cap.toArray) args.toArray) w K = callsK Tryz.prog 53 (first ++ args ++ cap).toArray w K) ∧
  (∀ (w : World), (Instr.alloc 137 true (.tuple #[])).run Tryz.prog w = .ok (.pointer (some ⟨w.heap.size, 0, none⟩)) (w.alloc (.cells #[(.pointer none)] 137))) ∧
  (∀ (w : World), (Instr.alloc 3 true (.tuple #[])).run Tryz.prog w = .ok (.pointer (some ⟨w.heap.size, 0, none⟩)) (w.alloc (.cells #[(.int .i64 0)] 3))) ∧
  (∀ (b o : Nat) (v : Value) (w : World), v.oneCell' = true → (Instr.storeAt 137 (.pointer (some ⟨b, o, none⟩)) v).run Tryz.prog w = s1X Tryz.prog w b o v w.heap[b]?) ∧
  (∀ (b o : Nat) (v : Value) (w : World), v.oneCell' = true → (Instr.storeAt 3 (.pointer (some ⟨b, o, none⟩)) v).run Tryz.prog w = s1X Tryz.prog w b o v w.heap[b]?) ∧
  (∀ (first cap args : List Value) (w : World) (K : Value → World → Prop), kN Tryz.prog (callN (.func (.func 55) first.toArray cap.toArray) args.toArray) w K = callsK Tryz.prog 55 (first ++ args ++ cap).toArray w K) ∧
  (∀ (first cap args : List Value) (w : World) (K : Value → World → Prop), kN Tryz.prog (callN (.func (.func 54) first.toArray cap.toArray) args.toArray) w K = callsK Tryz.prog 54 (first ++ args ++ cap).toArray w K) ∧
  (∀ (b o : Nat) (w : World), (Instr.loadAt 137 (.pointer (some ⟨b, o, none⟩))).run Tryz.prog w = ldX Tryz.prog w b o w.heap[b]?) ∧
  (∀ (b o : Nat) (w : World), (Instr.fieldAt 145 (.pointer (some ⟨b, o, none⟩)) 1).run Tryz.prog w = .ok (.pointer (some ⟨b, o + 4096, none⟩)) w) ∧
  (∀ (b o : Nat) (w : World), (Instr.loadAt 143 (.pointer (some ⟨b, o, none⟩))).run Tryz.prog w = lnV Tryz.prog w b o 4 w.heap[b]?) ∧
  (∀ (b o : Nat) (w : World), (Instr.loadAt 3 (.pointer (some ⟨b, o, none⟩))).run Tryz.prog w = ldX Tryz.prog w b o w.heap[b]?) ∧
  (∀ (first cap args : List Value) (w : World) (K : Value → World → Prop), kN Tryz.prog (callN (.func (.func 57) first.toArray cap.toArray) args.toArray) w K = callsK Tryz.prog 57 (first ++ args ++ cap).toArray w K) ∧
  (∀ (first cap args : List Value) (w : World) (K : Value → World → Prop), kN Tryz.prog (callN (.func (.func 56) first.toArray cap.toArray) args.toArray) w K = callsK Tryz.prog 56 (first ++ args ++ cap).toArray w K) ∧
  (∀ (b o : Nat) (vs : List Value) (w : World), vs.length = 4 → (Instr.storeAt 143 (.pointer (some ⟨b, o, none⟩)) (.agg vs.toArray)).run Tryz.prog w = snX Tryz.prog w b o vs w.heap[b]?) ∧
  (∀ (k0 : IntKind) (a : Int) (w : World), (convert 3 22 (.int k0 a)).run Tryz.prog w = .ok (.int .u64 (IntKind.wrap .u64 a)) w) ∧
  (∀ (first cap args : List Value) (w : World) (K : Value → World → Prop), kN Tryz.prog (callN (.func (.func 91) first.toArray cap.toArray) args.toArray) w K = callsK Tryz.prog 91 (first ++ args ++ cap).toArray w K) ∧
  (∀ (b o : Nat) (w : World), (Instr.fieldAt 134 (.pointer (some ⟨b, o, none⟩)) 0).run Tryz.prog w = .ok (.pointer (some ⟨b, o, none⟩)) w) ∧
  (∀ (b o : Nat) (w : World), (Instr.loadAt 132 (.pointer (some ⟨b, o, none⟩))).run Tryz.prog w = ldX Tryz.prog w b o w.heap[b]?) ∧
  (∀ (a : Option Addr) (len cap : Nat) (w : World), (Builtin.len_ #[132] 3 #[.slice a len cap]).run Tryz.prog w = .ok (.int .i64 len) w) ∧
  (∀ (b o len cap : Nat) (k : IntKind) (i : Int) (w : World), 0 ≤ i ∧ i < len → (Instr.indexAt 132 (.slice (some ⟨b, o, none⟩) len cap) (.int k i)).run Tryz.prog w = .ok (.pointer (some ⟨b, o + i.toNat * 4100, none⟩)) w) ∧
  (∀ (k0 : IntKind) (a : Int) (w : World), (convert 22 3 (.int k0 a)).run Tryz.prog w = .ok (.int .i64 (IntKind.wrap .i64 a)) w) ∧
  (∀ (b o : Nat) (w : World), (Instr.loadAt 22 (.pointer (some ⟨b, o, none⟩))).run Tryz.prog w = ldX Tryz.prog w b o w.heap[b]?) ∧
  (∀ (k0 : IntKind) (a : Int) (w : World), (convert 22 5 (.int k0 a)).run Tryz.prog w = .ok (.int .u8 (IntKind.wrap .u8 a)) w) ∧
  (∀ (b o : Nat) (w : World), (Instr.fieldAt 145 (.pointer (some ⟨b, o, none⟩)) 0).run Tryz.prog w = .ok (.pointer (some ⟨b, o, none⟩)) w) ∧
  (∀ (b o : Nat) (k : IntKind) (i : Int) (w : World), 0 ≤ i ∧ i < 4096 → (Instr.indexAt 141 (.pointer (some ⟨b, o, none⟩)) (.int k i)).run Tryz.prog w = .ok (.pointer (some ⟨b, o + i.toNat * 1, none⟩)) w) ∧
  (∀ (b o : Nat) (v : Value) (w : World), v.oneCell' = true → (Instr.storeAt 5 (.pointer (some ⟨b, o, none⟩)) v).run Tryz.prog w = s1X Tryz.prog w b o v w.heap[b]?) ∧
  (∀ (w : World), (Instr.alloc 143 true (.tuple #[])).run Tryz.prog w = .ok (.pointer (some ⟨w.heap.size, 0, none⟩)) (w.alloc (.cells #[(.int .u64 0), (.int .u64 0), (.int .u64 0), (.int .u64 0)] 143))) ∧
  (∀ (b o : Nat) (k : IntKind) (i : Int) (w : World), 0 ≤ i ∧ i < 4 → (Instr.indexAt 143 (.pointer (some ⟨b, o, none⟩)) (.int k i)).run Tryz.prog w = .ok (.pointer (some ⟨b, o + i.toNat * 1, none⟩)) w) ∧
  (∀ (b o : Nat) (v : Value) (w : World), v.oneCell' = true → (Instr.storeAt 22 (.pointer (some ⟨b, o, none⟩)) v).run Tryz.prog w = s1X Tryz.prog w b o v w.heap[b]?) ∧
  (∀ (first cap args : List Value) (w : World) (K : Value → World → Prop), kN Tryz.prog (callN (.func (.func 61) first.toArray cap.toArray) args.toArray) w K = callsK Tryz.prog 61 (first ++ args ++ cap).toArray w K) ∧
  (∀ (first cap args : List Value) (w : World) (K : Value → World → Prop), kN Tryz.prog (callN (.func (.func 93) first.toArray cap.toArray) args.toArray) w K = callsK Tryz.prog 93 (first ++ args ++ cap).toArray w K) ∧
  (∀ (x y : Operand) (a : Option Addr) (w : World), (binV .eql 31 x y (.pointer a) (.pointer none)).run Tryz.prog w = .ok (.bool (a.isNone)) w) ∧
  (∀ (first cap args : List Value) (w : World) (K : Value → World → Prop), kN Tryz.prog (callN (.func (.func 147) first.toArray cap.toArray) args.toArray) w K = callsK Tryz.prog 147 (first ++ args ++ cap).toArray w K) ∧
  (∀ (w : World), (Instr.alloc 22 true (.tuple #[])).run Tryz.prog w = .ok (.pointer (some ⟨w.heap.size, 0, none⟩)) (w.alloc (.cells #[(.int .u64 0)] 22))) ∧
  (∀ (first cap args : List Value) (w : World) (K : Value → World → Prop), kN Tryz.prog (callN (.func (.func 149) first.toArray cap.toArray) args.toArray) w K = callsK Tryz.prog 149 (first ++ args ++ cap).toArray w K) ∧
  (∀ (b o : Nat) (w : World), (Instr.loadAt 5 (.pointer (some ⟨b, o, none⟩))).run Tryz.prog w = ldX Tryz.prog w b o w.heap[b]?) ∧
  (∀ (k0 : IntKind) (a : Int) (w : World), (convert 5 22 (.int k0 a)).run Tryz.prog w = .ok (.int .u64 (IntKind.wrap .u64 a)) w) ∧
  (∀ (first cap args : List Value) (w : World) (K : Value → World → Prop), kN Tryz.prog (callN (.func (.func 151) first.toArray cap.toArray) args.toArray) w K = callsK Tryz.prog 151 (first ++ args ++ cap).toArray w K) := ⟨RM_call_21, RM_bl_134_0, RM_call_23, RM_call_52, RM_call_53, RM_al_137, RM_al_3, RM_st_137, RM_st_3, RM_call_55, RM_call_54, RM_ld_137, RM_fld_145_1, RM_ld_143, RM_ld_3, RM_call_57, RM_call_56, RM_st_143, RM_cv_3_22, RM_call_91, RM_fld_134_0, RM_ld_132, RM_len_132, RM_ix_132, RM_cv_22_3, RM_ld_22, RM_cv_22_5, RM_fld_145_0, RM_ix_141, RM_st_5, RM_al_143, RM_ix_143, RM_st_22, RM_call_61, RM_call_93, RM_eql_31, RM_call_147, RM_al_22, RM_call_149, RM_ld_5, RM_cv_5_22, RM_call_151⟩

end Go.Proofs.YtplfniijbeinmaaGreat
