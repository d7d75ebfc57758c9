/- The rules of operations of functions of this seat; conditions: none. -/
import Derived.Test.YtgnibcaflidjmaaProg
import Derived.Test.YtgnibcaflidjmaaSlices
import Derived.KernelRfl
namespace Go.Proofs.Ytgnibcaflidjmaa
open Go.Fx
set_option linter.unusedVariables false
set_option linter.constructorNameAsVariable false
set_option maxRecDepth 100000
set_option maxHeartbeats 4000000
theorem RM_call_18 : ∀ (first cap args : List Value) (w : World) (K : Value → World → Prop), kN Try.prog (callN (.func (.func 18) first.toArray cap.toArray) args.toArray) w K = callsK Try.prog 18 (first ++ args ++ cap).toArray w K := Fx.kN_callf Try.call18
theorem RM_al_50 : ∀ (w : World), (Instr.alloc 50 true (.tuple #[])).run Try.prog w = .ok (.pointer (some ⟨w.heap.size, 0, none⟩)) (w.alloc (.cells #[(.map none)] 50)) := Fx.run_alloc Try.zeroValue50
theorem RM_ld_50 : ∀ (b o : Nat) (w : World), (Instr.loadAt 50 (.pointer (some ⟨b, o, none⟩))).run Try.prog w = lnV Try.prog w b o 1 w.heap[b]? := Fx.run_loadN' Try.isAgg50 Try.sizeOf50
theorem RM_call_41 : ∀ (first cap args : List Value) (w : World) (K : Value → World → Prop), kN Try.prog (callN (.func (.func 41) first.toArray cap.toArray) args.toArray) w K = callsK Try.prog 41 (first ++ args ++ cap).toArray w K := Fx.kN_callf Try.call41
theorem RM_st_50 : ∀ (b o : Nat) (vs : List Value) (w : World), vs.length = 1 → (Instr.storeAt 50 (.pointer (some ⟨b, o, none⟩)) (.agg vs.toArray)).run Try.prog w = snX Try.prog w b o vs w.heap[b]? := Fx.run_storeN' Try.sizeOf50
theorem RM_call_19 : ∀ (first cap args : List Value) (w : World) (K : Value → World → Prop), kN Try.prog (callN (.func (.func 19) first.toArray cap.toArray) args.toArray) w K = callsK Try.prog 19 (first ++ args ++ cap).toArray w K := Fx.kN_callf Try.call19
theorem RM_call_20 : ∀ (first cap args : List Value) (w : World) (K : Value → World → Prop), kN Try.prog (callN (.func (.func 20) first.toArray cap.toArray) args.toArray) w K = callsK Try.prog 20 (first ++ args ++ cap).toArray w K := Fx.kN_callf Try.call20
theorem RM_fld_50_0 : ∀ (b o : Nat) (w : World), (Instr.fieldAt 50 (.pointer (some ⟨b, o, none⟩)) 0).run Try.prog w = .ok (.pointer (some ⟨b, o, none⟩)) w := Fx.run_fieldO 0 0 1 Try.underlying50 rfl Try.sizeOf48 (by decide)
theorem RM_ld_48 : ∀ (b o : Nat) (w : World), (Instr.loadAt 48 (.pointer (some ⟨b, o, none⟩))).run Try.prog w = ldX Try.prog w b o w.heap[b]? := Fx.run_load1' Try.isAgg48
theorem RM_call_44 : ∀ (first cap args : List Value) (w : World) (K : Value → World → Prop), kN Try.prog (callN (.func (.func 44) first.toArray cap.toArray) args.toArray) w K = callsK Try.prog 44 (first ++ args ++ cap).toArray w K := Fx.kN_callf Try.call44
theorem RM_scall_44 : ∀ (first cap args : List Value) (w : World) (K : Value → Prop), sN Try.prog (callN (.func (.func 44) first.toArray cap.toArray) args.toArray) w K = callsS Try.prog 44 (first ++ args ++ cap).toArray w K := Fx.sN_callf Try.call44
theorem RM_cv_28_3 : ∀ (k0 : IntKind) (a : Int) (w : World), (convert 28 3 (.int k0 a)).run Try.prog w = .ok (.int .i64 (IntKind.wrap .i64 a)) w := Fx.run_convert_int Try.underlying28 Try.underlying3
theorem RM_call_45 : ∀ (first cap args : List Value) (w : World) (K : Value → World → Prop), kN Try.prog (callN (.func (.func 45) first.toArray cap.toArray) args.toArray) w K = callsK Try.prog 45 (first ++ args ++ cap).toArray w K := Fx.kN_callf Try.call45
theorem RM_call_21 : ∀ (first cap args : List Value) (w : World) (K : Value → World → Prop), kN Try.prog (callN (.func (.func 21) first.toArray cap.toArray) args.toArray) w K = callsK Try.prog 21 (first ++ args ++ cap).toArray w K := Fx.kN_callf Try.call21
theorem RM_al_88 : ∀ (w : World), (Instr.alloc 88 true (.tuple #[])).run Try.prog w = .ok (.pointer (some ⟨w.heap.size, 0, none⟩)) (w.alloc (.cells #[(.int .u64 0), (.int .u64 0), (.int .u64 0), (.int .u64 0)] 88)) := Fx.run_alloc Try.zeroValue88
theorem RM_st_88 : ∀ (b o : Nat) (vs : List Value) (w : World), vs.length = 4 → (Instr.storeAt 88 (.pointer (some ⟨b, o, none⟩)) (.agg vs.toArray)).run Try.prog w = snX Try.prog w b o vs w.heap[b]? := Fx.run_storeN' Try.sizeOf88
theorem RM_ld_88 : ∀ (b o : Nat) (w : World), (Instr.loadAt 88 (.pointer (some ⟨b, o, none⟩))).run Try.prog w = lnV Try.prog w b o 4 w.heap[b]? := Fx.run_loadN' Try.isAgg88 Try.sizeOf88
theorem RM_call_46 : ∀ (first cap args : List Value) (w : World) (K : Value → World → Prop), kN Try.prog (callN (.func (.func 46) first.toArray cap.toArray) args.toArray) w K = callsK Try.prog 46 (first ++ args ++ cap).toArray w K := Fx.kN_callf Try.call46
theorem RM_call_22 : ∀ (first cap args : List Value) (w : World) (K : Value → World → Prop), kN Try.prog (callN (.func (.func 22) first.toArray cap.toArray) args.toArray) w K = callsK Try.prog 22 (first ++ args ++ cap).toArray w K := Fx.kN_callf Try.call22
theorem RM_bl_47_0_1 : ∀ (a0x0 : Int) (a1x0 : Int) (w : World), (Instr.build 47 [(0, .int .u64 a0x0), (1, .int .u64 a1x0)].toArray).run Try.prog w = .ok (.agg [.int .u64 a0x0, .int .u64 a1x0].toArray) w := fun a0x0 a1x0 w => run_build w 47 _ _ (by kernel_rfl)
theorem RM_bs_55_1 : ∀ (vs : List Value) (w : World), vs.length = 2 → (Instr.buildSlice 55 1 [(0, .agg vs.toArray)].toArray).run Try.prog w = .ok (.slice (some ⟨w.heap.size, 0, none⟩) 1 1) (w.alloc (.cells vs.toArray 47)) := fun vs w h => Fx.run_bs1 Try.underlying55 (by kernel_rfl) (by decide) vs h w
theorem RM_call_61 : ∀ (first cap args : List Value) (w : World) (K : Value → World → Prop), kN Try.prog (callN (.func (.func 61) first.toArray cap.toArray) args.toArray) w K = callsK Try.prog 61 (first ++ args ++ cap).toArray w K := Fx.kN_callf Try.call61
theorem RM_bl_50_0 : ∀ (a0x0 : Option Nat) (w : World), (Instr.build 50 [(0, .map a0x0)].toArray).run Try.prog w = .ok (.agg [.map a0x0].toArray) w := fun a0x0 w => run_build w 50 _ _ (by kernel_rfl)
theorem RM_eql_48 : ∀ (x y : Operand) (a : Option Nat) (w : World), (binV .eql 48 x y (.map a) (.map none)).run Try.prog w = .ok (.bool a.isNone) w := Fx.run_eqlM Try.underlying48
theorem RM_st_48 : ∀ (b o : Nat) (v : Value) (w : World), v.oneCell' = true → (Instr.storeAt 48 (.pointer (some ⟨b, o, none⟩)) v).run Try.prog w = s1X Try.prog w b o v w.heap[b]? := Fx.run_store1' Try.sizeOf48
theorem RM_len_55 : ∀ (a : Option Addr) (len cap : Nat) (w : World), (Builtin.len_ #[55] 3 #[.slice a len cap]).run Try.prog w = .ok (.int .i64 len) w := Fx.run_len_slice Try.underlying55
theorem RM_ix_55 : ∀ (b o len cap : Nat) (k : IntKind) (i : Int) (w : World), 0 ≤ i ∧ i < len → (Instr.indexAt 55 (.slice (some ⟨b, o, none⟩) len cap) (.int k i)).run Try.prog w = .ok (.pointer (some ⟨b, o + i.toNat * 2, none⟩)) w := Fx.run_index_slice Try.underlying55 Try.sizeOf47
theorem RM_ld_47 : ∀ (b o : Nat) (w : World), (Instr.loadAt 47 (.pointer (some ⟨b, o, none⟩))).run Try.prog w = lnV Try.prog w b o 2 w.heap[b]? := Fx.run_loadN' Try.isAgg47 Try.sizeOf47
theorem RM_al_47 : ∀ (w : World), (Instr.alloc 47 true (.tuple #[])).run Try.prog w = .ok (.pointer (some ⟨w.heap.size, 0, none⟩)) (w.alloc (.cells #[(.int .u64 0), (.int .u64 0)] 47)) := Fx.run_alloc Try.zeroValue47
theorem RM_st_47 : ∀ (b o : Nat) (vs : List Value) (w : World), vs.length = 2 → (Instr.storeAt 47 (.pointer (some ⟨b, o, none⟩)) (.agg vs.toArray)).run Try.prog w = snX Try.prog w b o vs w.heap[b]? := Fx.run_storeN' Try.sizeOf47
theorem RM_call_62 : ∀ (first cap args : List Value) (w : World) (K : Value → World → Prop), kN Try.prog (callN (.func (.func 62) first.toArray cap.toArray) args.toArray) w K = callsK Try.prog 62 (first ++ args ++ cap).toArray w K := Fx.kN_callf Try.call62
theorem RM_fld_47_0 : ∀ (b o : Nat) (w : World), (Instr.fieldAt 47 (.pointer (some ⟨b, o, none⟩)) 0).run Try.prog w = .ok (.pointer (some ⟨b, o, none⟩)) w := Fx.run_fieldO 0 0 1 Try.underlying47 rfl Try.sizeOf28 (by decide)
theorem RM_ld_28 : ∀ (b o : Nat) (w : World), (Instr.loadAt 28 (.pointer (some ⟨b, o, none⟩))).run Try.prog w = ldX Try.prog w b o w.heap[b]? := Fx.run_load1' Try.isAgg28
theorem RM_fld_47_1 : ∀ (b o : Nat) (w : World), (Instr.fieldAt 47 (.pointer (some ⟨b, o, none⟩)) 1).run Try.prog w = .ok (.pointer (some ⟨b, o + 1, none⟩)) w := Fx.run_fieldO 1 1 1 Try.underlying47 rfl Try.sizeOf28 (by decide)
theorem RM_call_63 : ∀ (first cap args : List Value) (w : World) (K : Value → World → Prop), kN Try.prog (callN (.func (.func 63) first.toArray cap.toArray) args.toArray) w K = callsK Try.prog 63 (first ++ args ++ cap).toArray w K := Fx.kN_callf Try.call63
theorem RM_call_64 : ∀ (first cap args : List Value) (w : World) (K : Value → World → Prop), kN Try.prog (callN (.func (.func 64) first.toArray cap.toArray) args.toArray) w K = callsK Try.prog 64 (first ++ args ++ cap).toArray w K := Fx.kN_callf Try.call64
theorem RM_call_42 : ∀ (first cap args : List Value) (w : World) (K : Value → World → Prop), kN Try.prog (callN (.func (.func 42) first.toArray cap.toArray) args.toArray) w K = callsK Try.prog 42 (first ++ args ++ cap).toArray w K := Fx.kN_callf Try.call42
theorem RM_ix_88 : ∀ (b o : Nat) (k : IntKind) (i : Int) (w : World), 0 ≤ i ∧ i < 4 → (Instr.indexAt 88 (.pointer (some ⟨b, o, none⟩)) (.int k i)).run Try.prog w = .ok (.pointer (some ⟨b, o + i.toNat * 1, none⟩)) w := Fx.run_index_array Try.underlying88 Try.sizeOf28
theorem RM_st_28 : ∀ (b o : Nat) (v : Value) (w : World), v.oneCell' = true → (Instr.storeAt 28 (.pointer (some ⟨b, o, none⟩)) v).run Try.prog w = s1X Try.prog w b o v w.heap[b]? := Fx.run_store1' Try.sizeOf28
theorem RM_call_43 : ∀ (first cap args : List Value) (w : World) (K : Value → World → Prop), kN Try.prog (callN (.func (.func 43) first.toArray cap.toArray) args.toArray) w K = callsK Try.prog 43 (first ++ args ++ cap).toArray w K := Fx.kN_callf Try.call43
theorem RM_call_65 : ∀ (first cap args : List Value) (w : World) (K : Value → World → Prop), kN Try.prog (callN (.func (.func 65) first.toArray cap.toArray) args.toArray) w K = callsK Try.prog 65 (first ++ args ++ cap).toArray w K := Fx.kN_callf Try.call65
theorem RM_iv_88 : ∀ (vs : List Value) (k : IntKind) (i : Int) (w : World), 0 ≤ i ∧ i < 4 → vs.length = 4 → (Instr.index 88 (.agg vs.toArray) (.int k i)).run Try.prog w = ldY Try.prog w 0 0 vs[i.toNat]? := Fx.run_indexV Try.underlying88 Try.isAgg28 Try.sizeOf28
theorem RM_call_66 : ∀ (first cap args : List Value) (w : World) (K : Value → World → Prop), kN Try.prog (callN (.func (.func 66) first.toArray cap.toArray) args.toArray) w K = callsK Try.prog 66 (first ++ args ++ cap).toArray w K := Fx.kN_callf Try.call66
theorem RM_call_83 : ∀ (first cap args : List Value) (w : World) (K : Value → World → Prop), kN Try.prog (callN (.func (.func 83) first.toArray cap.toArray) args.toArray) w K = callsK Try.prog 83 (first ++ args ++ cap).toArray w K := Fx.kN_callf Try.call83
theorem RM_call_96 : ∀ (first cap args : List Value) (w : World) (K : Value → World → Prop), kN Try.prog (callN (.func (.func 96) first.toArray cap.toArray) args.toArray) w K = callsK Try.prog 96 (first ++ args ++ cap).toArray w K := Fx.kN_callf Try.call96
theorem rulesM : (∀ (first cap args : List Value) (w : World) (K : Value → World → Prop), kN Try.prog (callN (.func (.func 18) first.toArray cap.toArray) args.toArray) w K = callsK Try.prog 18 (first ++ args ++ cap).toArray w K) ∧
  (∀ (w : World), (Instr.alloc 50 true (.tuple #[])).run Try.prog w = .ok (.pointer (some ⟨w.heap.size, 0, none⟩)) (w.alloc (.cells #[(.map none)] 50))) ∧
  (∀ (b o : Nat) (w : World), (Instr.loadAt 50 (.pointer (some ⟨b, o, none⟩))).run Try.prog w = lnV Try.prog w b o 1 w.heap[b]?) ∧
  (∀ (first cap args : List Value) (w : World) (K : Value → World → Prop), kN Try.prog (callN (.func (.func 41) first.toArray cap.toArray) args.toArray) w K = callsK Try.prog 41 (first ++ args ++ cap).toArray w K) ∧
  (∀ (b o : Nat) (vs : List Value) (w : World), vs.length = 1 → (Instr.storeAt 50 (.pointer (some ⟨b, o, none⟩)) (.agg vs.toArray)).run Try.prog w = snX Try.prog w b o vs w.heap[b]?) ∧
  (∀ (first cap args : List Value) (w : World) (K : Value → World → Prop), kN Try.prog (callN (.func (.func 19) first.toArray cap.toArray) args.toArray) w K = callsK Try.prog 19 (first ++ args ++ cap).toArray w K) ∧
  (∀ (first cap args : List Value) (w : World) (K : Value → World → Prop), kN Try.prog (callN (.func (.func 20) first.toArray cap.toArray) args.toArray) w K = callsK Try.prog 20 (first ++ args ++ cap).toArray w K) ∧
  (∀ (b o : Nat) (w : World), (Instr.fieldAt 50 (.pointer (some ⟨b, o, none⟩)) 0).run Try.prog w = .ok (.pointer (some ⟨b, o, none⟩)) w) ∧
  (∀ (b o : Nat) (w : World), (Instr.loadAt 48 (.pointer (some ⟨b, o, none⟩))).run Try.prog w = ldX Try.prog w b o w.heap[b]?) ∧
  (∀ (first cap args : List Value) (w : World) (K : Value → World → Prop), kN Try.prog (callN (.func (.func 44) first.toArray cap.toArray) args.toArray) w K = callsK Try.prog 44 (first ++ args ++ cap).toArray w K) ∧
  (∀ (first cap args : List Value) (w : World) (K : Value → Prop), sN Try.prog (callN (.func (.func 44) first.toArray cap.toArray) args.toArray) w K = callsS Try.prog 44 (first ++ args ++ cap).toArray w K) ∧
  (∀ (k0 : IntKind) (a : Int) (w : World), (convert 28 3 (.int k0 a)).run Try.prog w = .ok (.int .i64 (IntKind.wrap .i64 a)) w) ∧
  (∀ (first cap args : List Value) (w : World) (K : Value → World → Prop), kN Try.prog (callN (.func (.func 45) first.toArray cap.toArray) args.toArray) w K = callsK Try.prog 45 (first ++ args ++ cap).toArray w K) ∧
  (∀ (first cap args : List Value) (w : World) (K : Value → World → Prop), kN Try.prog (callN (.func (.func 21) first.toArray cap.toArray) args.toArray) w K = callsK Try.prog 21 (first ++ args ++ cap).toArray w K) ∧
  (∀ (w : World), (Instr.alloc 88 true (.tuple #[])).run Try.prog w = .ok (.pointer (some ⟨w.heap.size, 0, none⟩)) (w.alloc (.cells #[(.int .u64 0), (.int .u64 0), (.int .u64 0), (.int .u64 0)] 88))) ∧
  (∀ (b o : Nat) (vs : List Value) (w : World), vs.length = 4 → (Instr.storeAt 88 (.pointer (some ⟨b, o, none⟩)) (.agg vs.toArray)).run Try.prog w = snX Try.prog w b o vs w.heap[b]?) ∧
  (∀ (b o : Nat) (w : World), (Instr.loadAt 88 (.pointer (some ⟨b, o, none⟩))).run Try.prog w = lnV Try.prog w b o 4 w.heap[b]?) ∧
  (∀ (first cap args : List Value) (w : World) (K : Value → World → Prop), kN Try.prog (callN (.func (.func 46) first.toArray cap.toArray) args.toArray) w K = callsK Try.prog 46 (first ++ args ++ cap).toArray w K) ∧
  (∀ (first cap args : List Value) (w : World) (K : Value → World → Prop), kN Try.prog (callN (.func (.func 22) first.toArray cap.toArray) args.toArray) w K = callsK Try.prog 22 (first ++ args ++ cap).toArray w K) ∧
  (∀ (a0x0 : Int) (a1x0 : Int) (w : World), (Instr.build 47 [(0, .int .u64 a0x0), (1, .int .u64 a1x0)].toArray).run Try.prog w = .ok (.agg [.int .u64 a0x0, .int .u64 a1x0].toArray) w) ∧
  (∀ (vs : List Value) (w : World), vs.length = 2 → (Instr.buildSlice 55 1 [(0, .agg vs.toArray)].toArray).run Try.prog w = .ok (.slice (some ⟨w.heap.size, 0, none⟩) 1 1) (w.alloc (.cells vs.toArray 47))) ∧
  (∀ (first cap args : List Value) (w : World) (K : Value → World → Prop), kN Try.prog (callN (.func (.func 61) first.toArray cap.toArray) args.toArray) w K = callsK Try.prog 61 (first ++ args ++ cap).toArray w K) ∧
  (∀ (a0x0 : Option Nat) (w : World), (Instr.build 50 [(0, .map a0x0)].toArray).run Try.prog w = .ok (.agg [.map a0x0].toArray) w) ∧
  (∀ (x y : Operand) (a : Option Nat) (w : World), (binV .eql 48 x y (.map a) (.map none)).run Try.prog w = .ok (.bool a.isNone) w) ∧
  (∀ (b o : Nat) (v : Value) (w : World), v.oneCell' = true → (Instr.storeAt 48 (.pointer (some ⟨b, o, none⟩)) v).run Try.prog w = s1X Try.prog w b o v w.heap[b]?) ∧
  (∀ (a : Option Addr) (len cap : Nat) (w : World), (Builtin.len_ #[55] 3 #[.slice a len cap]).run Try.prog w = .ok (.int .i64 len) w) ∧
  (∀ (b o len cap : Nat) (k : IntKind) (i : Int) (w : World), 0 ≤ i ∧ i < len → (Instr.indexAt 55 (.slice (some ⟨b, o, none⟩) len cap) (.int k i)).run Try.prog w = .ok (.pointer (some ⟨b, o + i.toNat * 2, none⟩)) w) ∧
  (∀ (b o : Nat) (w : World), (Instr.loadAt 47 (.pointer (some ⟨b, o, none⟩))).run Try.prog w = lnV Try.prog w b o 2 w.heap[b]?) ∧
  (∀ (w : World), (Instr.alloc 47 true (.tuple #[])).run Try.prog w = .ok (.pointer (some ⟨w.heap.size, 0, none⟩)) (w.alloc (.cells #[(.int .u64 0), (.int .u64 0)] 47))) ∧
  (∀ (b o : Nat) (vs : List Value) (w : World), vs.length = 2 → (Instr.storeAt 47 (.pointer (some ⟨b, o, none⟩)) (.agg vs.toArray)).run Try.prog w = snX Try.prog w b o vs w.heap[b]?) ∧
  (∀ (first cap args : List Value) (w : World) (K : Value → World → Prop), kN Try.prog (callN (.func (.func 62) first.toArray cap.toArray) args.toArray) w K = callsK Try.prog 62 (first ++ args ++ cap).toArray w K) ∧
  (∀ (b o : Nat) (w : World), (Instr.fieldAt 47 (.pointer (some ⟨b, o, none⟩)) 0).run Try.prog w = .ok (.pointer (some ⟨b, o, none⟩)) w) ∧
  (∀ (b o : Nat) (w : World), (Instr.loadAt 28 (.pointer (some ⟨b, o, none⟩))).run Try.prog w = ldX Try.prog w b o w.heap[b]?) ∧
  (∀ (b o : Nat) (w : World), (Instr.fieldAt 47 (.pointer (some ⟨b, o, none⟩)) 1).run Try.prog w = .ok (.pointer (some ⟨b, o + 1, none⟩)) w) ∧
  (∀ (first cap args : List Value) (w : World) (K : Value → World → Prop), kN Try.prog (callN (.func (.func 63) first.toArray cap.toArray) args.toArray) w K = callsK Try.prog 63 (first ++ args ++ cap).toArray w K) ∧
  (∀ (first cap args : List Value) (w : World) (K : Value → World → Prop), kN Try.prog (callN (.func (.func 64) first.toArray cap.toArray) args.toArray) w K = callsK Try.prog 64 (first ++ args ++ cap).toArray w K) ∧
  (∀ (first cap args : List Value) (w : World) (K : Value → World → Prop), kN Try.prog (callN (.func (.func 42) first.toArray cap.toArray) args.toArray) w K = callsK Try.prog 42 (first ++ args ++ cap).toArray w K) ∧
  (∀ (b o : Nat) (k : IntKind) (i : Int) (w : World), 0 ≤ i ∧ i < 4 → (Instr.indexAt 88 (.pointer (some ⟨b, o, none⟩)) (.int k i)).run Try.prog w = .ok (.pointer (some ⟨b, o + i.toNat * 1, none⟩)) w) ∧
  (∀ (b o : Nat) (v : Value) (w : World), v.oneCell' = true → (Instr.storeAt 28 (.pointer (some ⟨b, o, none⟩)) v).run Try.prog w = s1X Try.prog w b o v w.heap[b]?) ∧
  (∀ (first cap args : List Value) (w : World) (K : Value → World → Prop), kN Try.prog (callN (.func (.func 43) first.toArray cap.toArray) args.toArray) w K = callsK Try.prog 43 (first ++ args ++ cap).toArray w K) ∧
  (∀ (first cap args : List Value) (w : World) (K : Value → World → Prop), kN Try.prog (callN (.func (.func 65) first.toArray cap.toArray) args.toArray) w K = callsK Try.prog 65 (first ++ args ++ cap).toArray w K) ∧
  (∀ (vs : List Value) (k : IntKind) (i : Int) (w : World), 0 ≤ i ∧ i < 4 → vs.length = 4 → (Instr.index 88 (.agg vs.toArray) (.int k i)).run Try.prog w = ldY Try.prog w 0 0 vs[i.toNat]?) ∧
  (∀ (first cap args : List Value) (w : World) (K : Value → World → Prop), kN Try.prog (callN (.func (.func 66) first.toArray cap.toArray) args.toArray) w K = callsK Try.prog 66 (first ++ args ++ cap).toArray w K) ∧
  (∀ (first cap args : List Value) (w : World) (K : Value → World → Prop), kN Try.prog (callN (.func (.func 83) first.toArray cap.toArray) args.toArray) w K = callsK Try.prog 83 (first ++ args ++ cap).toArray w K) ∧
  (∀ (first cap args : List Value) (w : World) (K : Value → World → Prop), kN Try.prog (callN (.func (.func 96) first.toArray cap.toArray) args.toArray) w K = callsK Try.prog 96 (first ++ args ++ cap).toArray w K) := ⟨RM_call_18, RM_al_50, RM_ld_50, RM_call_41, RM_st_50, RM_call_19, RM_call_20, RM_fld_50_0, RM_ld_48, RM_call_44, RM_scall_44, RM_cv_28_3, RM_call_45, RM_call_21, RM_al_88, RM_st_88, RM_ld_88, RM_call_46, RM_call_22, RM_bl_47_0_1, RM_bs_55_1, RM_call_61, RM_bl_50_0, RM_eql_48, RM_st_48, RM_len_55, RM_ix_55, RM_ld_47, RM_al_47, RM_st_47, RM_call_62, RM_fld_47_0, RM_ld_28, RM_fld_47_1, RM_call_63, RM_call_64, RM_call_42, RM_ix_88, RM_st_28, RM_call_43, RM_call_65, RM_iv_88, RM_call_66, RM_call_83, RM_call_96⟩

end Go.Proofs.Ytgnibcaflidjmaa
