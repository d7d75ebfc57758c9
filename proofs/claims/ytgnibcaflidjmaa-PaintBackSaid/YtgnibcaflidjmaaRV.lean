/- The rules of operations of functions of this seat; conditions: none. -/
import Derived.Test.YtgnibcaflidjmaaProg
import Derived.Test.YtgnibcaflidjmaaSlices
import Derived.KernelRfl
namespace Go.Proofs.Ytgnibcaflidjmaa
open Go.Fx
set_option linter.unusedVariables false
set_option linter.constructorNameAsVariable false
set_option maxRecDepth 100000
set_option maxHeartbeats 4000000
theorem RV_call_7 : ∀ (first cap args : List Value) (w : World) (K : Value → World → Prop), kN Try.prog (callN (.func (.func 7) first.toArray cap.toArray) args.toArray) w K = callsK Try.prog 7 (first ++ args ++ cap).toArray w K := Fx.kN_callf Try.call7
theorem RV_len_55 : ∀ (a : Option Addr) (len cap : Nat) (w : World), (Builtin.len_ #[55] 3 #[.slice a len cap]).run Try.prog w = .ok (.int .i64 len) w := Fx.run_len_slice Try.underlying55
theorem RV_sl_55 : ∀ (b o len cap : Nat) (lo hi mx : Option Value) (w : World), (Instr.sliceAt 55 (.slice (some ⟨b, o, none⟩) len cap) lo hi mx).run Try.prog w = ((Instr.sliceBounds true len cap lo hi mx).run Try.prog w).andThen fun x w1 => .ok (.slice (some (sAt b o x.2.2 x.1 2)) (x.2.1 - x.1) (x.2.2 - x.1)) w1 := Fx.sl_slc Try.underlying55 Try.sizeOf47
theorem RV_sln_55 : ∀ (len cap : Nat) (lo hi mx : Option Value) (w : World), (Instr.sliceAt 55 (.slice none len cap) lo hi mx).run Try.prog w = ((Instr.sliceBounds true len cap lo hi mx).run Try.prog w).andThen fun x w1 => .ok (.slice none (x.2.1 - x.1) (x.2.2 - x.1)) w1 := Fx.sl_nil Try.underlying55 Try.sizeOf47
theorem RV_al_50 : ∀ (w : World), (Instr.alloc 50 true (.tuple #[])).run Try.prog w = .ok (.pointer (some ⟨w.heap.size, 0, none⟩)) (w.alloc (.cells #[(.map none)] 50)) := Fx.run_alloc Try.zeroValue50
theorem RV_ld_50 : ∀ (b o : Nat) (w : World), (Instr.loadAt 50 (.pointer (some ⟨b, o, none⟩))).run Try.prog w = lnV Try.prog w b o 1 w.heap[b]? := Fx.run_loadN' Try.isAgg50 Try.sizeOf50
theorem RV_call_18 : ∀ (first cap args : List Value) (w : World) (K : Value → World → Prop), kN Try.prog (callN (.func (.func 18) first.toArray cap.toArray) args.toArray) w K = callsK Try.prog 18 (first ++ args ++ cap).toArray w K := Fx.kN_callf Try.call18
theorem RV_st_50 : ∀ (b o : Nat) (vs : List Value) (w : World), vs.length = 1 → (Instr.storeAt 50 (.pointer (some ⟨b, o, none⟩)) (.agg vs.toArray)).run Try.prog w = snX Try.prog w b o vs w.heap[b]? := Fx.run_storeN' Try.sizeOf50
theorem RV_ix_55 : ∀ (b o len cap : Nat) (k : IntKind) (i : Int) (w : World), 0 ≤ i ∧ i < len → (Instr.indexAt 55 (.slice (some ⟨b, o, none⟩) len cap) (.int k i)).run Try.prog w = .ok (.pointer (some ⟨b, o + i.toNat * 2, none⟩)) w := Fx.run_index_slice Try.underlying55 Try.sizeOf47
theorem RV_ld_47 : ∀ (b o : Nat) (w : World), (Instr.loadAt 47 (.pointer (some ⟨b, o, none⟩))).run Try.prog w = lnV Try.prog w b o 2 w.heap[b]? := Fx.run_loadN' Try.isAgg47 Try.sizeOf47
theorem RV_bs_55_1 : ∀ (vs : List Value) (w : World), vs.length = 2 → (Instr.buildSlice 55 1 [(0, .agg vs.toArray)].toArray).run Try.prog w = .ok (.slice (some ⟨w.heap.size, 0, none⟩) 1 1) (w.alloc (.cells vs.toArray 47)) := fun vs w h => Fx.run_bs1 Try.underlying55 (by kernel_rfl) (by decide) vs h w
theorem RV_bl_50_ : ∀  (w : World), (Instr.build 50 [].toArray).run Try.prog w = .ok (.agg [(.map none)].toArray) w := fun w => run_build w 50 _ _ (by kernel_rfl)
theorem RV_call_23 : ∀ (first cap args : List Value) (w : World) (K : Value → World → Prop), kN Try.prog (callN (.func (.func 23) first.toArray cap.toArray) args.toArray) w K = callsK Try.prog 23 (first ++ args ++ cap).toArray w K := Fx.kN_callf Try.call23
theorem RV_call_21 : ∀ (first cap args : List Value) (w : World) (K : Value → World → Prop), kN Try.prog (callN (.func (.func 21) first.toArray cap.toArray) args.toArray) w K = callsK Try.prog 21 (first ++ args ++ cap).toArray w K := Fx.kN_callf Try.call21
theorem RV_call_24 : ∀ (first cap args : List Value) (w : World) (K : Value → World → Prop), kN Try.prog (callN (.func (.func 24) first.toArray cap.toArray) args.toArray) w K = callsK Try.prog 24 (first ++ args ++ cap).toArray w K := Fx.kN_callf Try.call24
theorem RV_fld_47_0 : ∀ (b o : Nat) (w : World), (Instr.fieldAt 47 (.pointer (some ⟨b, o, none⟩)) 0).run Try.prog w = .ok (.pointer (some ⟨b, o, none⟩)) w := Fx.run_fieldO 0 0 1 Try.underlying47 rfl Try.sizeOf28 (by decide)
theorem RV_ld_28 : ∀ (b o : Nat) (w : World), (Instr.loadAt 28 (.pointer (some ⟨b, o, none⟩))).run Try.prog w = ldX Try.prog w b o w.heap[b]? := Fx.run_load1' Try.isAgg28
theorem RV_fld_47_1 : ∀ (b o : Nat) (w : World), (Instr.fieldAt 47 (.pointer (some ⟨b, o, none⟩)) 1).run Try.prog w = .ok (.pointer (some ⟨b, o + 1, none⟩)) w := Fx.run_fieldO 1 1 1 Try.underlying47 rfl Try.sizeOf28 (by decide)
theorem RV_call_19 : ∀ (first cap args : List Value) (w : World) (K : Value → World → Prop), kN Try.prog (callN (.func (.func 19) first.toArray cap.toArray) args.toArray) w K = callsK Try.prog 19 (first ++ args ++ cap).toArray w K := Fx.kN_callf Try.call19
theorem RV_call_20 : ∀ (first cap args : List Value) (w : World) (K : Value → World → Prop), kN Try.prog (callN (.func (.func 20) first.toArray cap.toArray) args.toArray) w K = callsK Try.prog 20 (first ++ args ++ cap).toArray w K := Fx.kN_callf Try.call20
theorem RV_call_22 : ∀ (first cap args : List Value) (w : World) (K : Value → World → Prop), kN Try.prog (callN (.func (.func 22) first.toArray cap.toArray) args.toArray) w K = callsK Try.prog 22 (first ++ args ++ cap).toArray w K := Fx.kN_callf Try.call22
theorem RV_fld_50_0 : ∀ (b o : Nat) (w : World), (Instr.fieldAt 50 (.pointer (some ⟨b, o, none⟩)) 0).run Try.prog w = .ok (.pointer (some ⟨b, o, none⟩)) w := Fx.run_fieldO 0 0 1 Try.underlying50 rfl Try.sizeOf48 (by decide)
theorem RV_ld_48 : ∀ (b o : Nat) (w : World), (Instr.loadAt 48 (.pointer (some ⟨b, o, none⟩))).run Try.prog w = ldX Try.prog w b o w.heap[b]? := Fx.run_load1' Try.isAgg48
theorem RV_call_48 : ∀ (first cap args : List Value) (w : World) (K : Value → World → Prop), kN Try.prog (callN (.func (.func 48) first.toArray cap.toArray) args.toArray) w K = callsK Try.prog 48 (first ++ args ++ cap).toArray w K := Fx.kN_callf Try.call48
theorem RV_call_47 : ∀ (first cap args : List Value) (w : World) (K : Value → World → Prop), kN Try.prog (callN (.func (.func 47) first.toArray cap.toArray) args.toArray) w K = callsK Try.prog 47 (first ++ args ++ cap).toArray w K := Fx.kN_callf Try.call47
theorem RV_len_93 : ∀ (a : Option Addr) (len cap : Nat) (w : World), (Builtin.len_ #[93] 3 #[.slice a len cap]).run Try.prog w = .ok (.int .i64 len) w := Fx.run_len_slice Try.underlying93
theorem RV_ix_93 : ∀ (b o len cap : Nat) (k : IntKind) (i : Int) (w : World), 0 ≤ i ∧ i < len → (Instr.indexAt 93 (.slice (some ⟨b, o, none⟩) len cap) (.int k i)).run Try.prog w = .ok (.pointer (some ⟨b, o + i.toNat * 1, none⟩)) w := Fx.run_index_slice Try.underlying93 Try.sizeOf28
theorem RV_call_49 : ∀ (first cap args : List Value) (w : World) (K : Value → World → Prop), kN Try.prog (callN (.func (.func 49) first.toArray cap.toArray) args.toArray) w K = callsK Try.prog 49 (first ++ args ++ cap).toArray w K := Fx.kN_callf Try.call49
theorem RV_len_98 : ∀ (a : Option Addr) (len cap : Nat) (w : World), (Builtin.len_ #[98] 3 #[.slice a len cap]).run Try.prog w = .ok (.int .i64 len) w := Fx.run_len_slice Try.underlying98
theorem RV_ix_98 : ∀ (b o len cap : Nat) (k : IntKind) (i : Int) (w : World), 0 ≤ i ∧ i < len → (Instr.indexAt 98 (.slice (some ⟨b, o, none⟩) len cap) (.int k i)).run Try.prog w = .ok (.pointer (some ⟨b, o + i.toNat * 1, none⟩)) w := Fx.run_index_slice Try.underlying98 Try.sizeOf3
theorem RV_ld_3 : ∀ (b o : Nat) (w : World), (Instr.loadAt 3 (.pointer (some ⟨b, o, none⟩))).run Try.prog w = ldX Try.prog w b o w.heap[b]? := Fx.run_load1' Try.isAgg3
theorem RV_cv_3_28 : ∀ (k0 : IntKind) (a : Int) (w : World), (convert 3 28 (.int k0 a)).run Try.prog w = .ok (.int .u64 (IntKind.wrap .u64 a)) w := Fx.run_convert_int Try.underlying3 Try.underlying28
theorem RV_st_28 : ∀ (b o : Nat) (v : Value) (w : World), v.oneCell' = true → (Instr.storeAt 28 (.pointer (some ⟨b, o, none⟩)) v).run Try.prog w = s1X Try.prog w b o v w.heap[b]? := Fx.run_store1' Try.sizeOf28
theorem RV_bl_47_0_1 : ∀ (a0x0 : Int) (a1x0 : Int) (w : World), (Instr.build 47 [(0, .int .u64 a0x0), (1, .int .u64 a1x0)].toArray).run Try.prog w = .ok (.agg [.int .u64 a0x0, .int .u64 a1x0].toArray) w := fun a0x0 a1x0 w => run_build w 47 _ _ (by kernel_rfl)
theorem RV_call_67 : ∀ (first cap args : List Value) (w : World) (K : Value → World → Prop), kN Try.prog (callN (.func (.func 67) first.toArray cap.toArray) args.toArray) w K = callsK Try.prog 67 (first ++ args ++ cap).toArray w K := Fx.kN_callf Try.call67
theorem RV_call_68 : ∀ (first cap args : List Value) (w : World) (K : Value → World → Prop), kN Try.prog (callN (.func (.func 68) first.toArray cap.toArray) args.toArray) w K = callsK Try.prog 68 (first ++ args ++ cap).toArray w K := Fx.kN_callf Try.call68
theorem RV_al_98 : ∀ (w : World), (Instr.alloc 98 true (.tuple #[])).run Try.prog w = .ok (.pointer (some ⟨w.heap.size, 0, none⟩)) (w.alloc (.cells #[(.slice none 0 0)] 98)) := Fx.run_alloc Try.zeroValue98
theorem RV_call_70 : ∀ (first cap args : List Value) (w : World) (K : Value → World → Prop), kN Try.prog (callN (.func (.func 70) first.toArray cap.toArray) args.toArray) w K = callsK Try.prog 70 (first ++ args ++ cap).toArray w K := Fx.kN_callf Try.call70
theorem RV_ld_98 : ∀ (b o : Nat) (w : World), (Instr.loadAt 98 (.pointer (some ⟨b, o, none⟩))).run Try.prog w = ldX Try.prog w b o w.heap[b]? := Fx.run_load1' Try.isAgg98
theorem RV_call_84 : ∀ (first cap args : List Value) (w : World) (K : Value → World → Prop), kN Try.prog (callN (.func (.func 84) first.toArray cap.toArray) args.toArray) w K = callsK Try.prog 84 (first ++ args ++ cap).toArray w K := Fx.kN_callf Try.call84
theorem RV_ld_88 : ∀ (b o : Nat) (w : World), (Instr.loadAt 88 (.pointer (some ⟨b, o, none⟩))).run Try.prog w = lnV Try.prog w b o 4 w.heap[b]? := Fx.run_loadN' Try.isAgg88 Try.sizeOf88
theorem RV_call_45 : ∀ (first cap args : List Value) (w : World) (K : Value → World → Prop), kN Try.prog (callN (.func (.func 45) first.toArray cap.toArray) args.toArray) w K = callsK Try.prog 45 (first ++ args ++ cap).toArray w K := Fx.kN_callf Try.call45
theorem RV_bs_98_1 : ∀ (v0 : Value) (w : World), [v0].all (fun v => v.oneCell') = true → (Instr.buildSlice 98 1 [(0, v0)].toArray).run Try.prog w = .ok (.slice (some ⟨w.heap.size, 0, none⟩) 1 1) (w.alloc (.cells [v0].toArray 3)) := fun v0 w h => Fx.run_bsS Try.underlying98 (by kernel_rfl) [v0] (List.all_eq_true.1 h) (by simp) w
theorem RV_st_98 : ∀ (b o : Nat) (v : Value) (w : World), v.oneCell' = true → (Instr.storeAt 98 (.pointer (some ⟨b, o, none⟩)) v).run Try.prog w = s1X Try.prog w b o v w.heap[b]? := Fx.run_store1' Try.sizeOf98
theorem rulesV : (∀ (first cap args : List Value) (w : World) (K : Value → World → Prop), kN Try.prog (callN (.func (.func 7) first.toArray cap.toArray) args.toArray) w K = callsK Try.prog 7 (first ++ args ++ cap).toArray w K) ∧
  (∀ (a : Option Addr) (len cap : Nat) (w : World), (Builtin.len_ #[55] 3 #[.slice a len cap]).run Try.prog w = .ok (.int .i64 len) w) ∧
  (∀ (b o len cap : Nat) (lo hi mx : Option Value) (w : World), (Instr.sliceAt 55 (.slice (some ⟨b, o, none⟩) len cap) lo hi mx).run Try.prog w = ((Instr.sliceBounds true len cap lo hi mx).run Try.prog w).andThen fun x w1 => .ok (.slice (some (sAt b o x.2.2 x.1 2)) (x.2.1 - x.1) (x.2.2 - x.1)) w1) ∧
  (∀ (len cap : Nat) (lo hi mx : Option Value) (w : World), (Instr.sliceAt 55 (.slice none len cap) lo hi mx).run Try.prog w = ((Instr.sliceBounds true len cap lo hi mx).run Try.prog w).andThen fun x w1 => .ok (.slice none (x.2.1 - x.1) (x.2.2 - x.1)) w1) ∧
  (∀ (w : World), (Instr.alloc 50 true (.tuple #[])).run Try.prog w = .ok (.pointer (some ⟨w.heap.size, 0, none⟩)) (w.alloc (.cells #[(.map none)] 50))) ∧
  (∀ (b o : Nat) (w : World), (Instr.loadAt 50 (.pointer (some ⟨b, o, none⟩))).run Try.prog w = lnV Try.prog w b o 1 w.heap[b]?) ∧
  (∀ (first cap args : List Value) (w : World) (K : Value → World → Prop), kN Try.prog (callN (.func (.func 18) first.toArray cap.toArray) args.toArray) w K = callsK Try.prog 18 (first ++ args ++ cap).toArray w K) ∧
  (∀ (b o : Nat) (vs : List Value) (w : World), vs.length = 1 → (Instr.storeAt 50 (.pointer (some ⟨b, o, none⟩)) (.agg vs.toArray)).run Try.prog w = snX Try.prog w b o vs w.heap[b]?) ∧
  (∀ (b o len cap : Nat) (k : IntKind) (i : Int) (w : World), 0 ≤ i ∧ i < len → (Instr.indexAt 55 (.slice (some ⟨b, o, none⟩) len cap) (.int k i)).run Try.prog w = .ok (.pointer (some ⟨b, o + i.toNat * 2, none⟩)) w) ∧
  (∀ (b o : Nat) (w : World), (Instr.loadAt 47 (.pointer (some ⟨b, o, none⟩))).run Try.prog w = lnV Try.prog w b o 2 w.heap[b]?) ∧
  (∀ (vs : List Value) (w : World), vs.length = 2 → (Instr.buildSlice 55 1 [(0, .agg vs.toArray)].toArray).run Try.prog w = .ok (.slice (some ⟨w.heap.size, 0, none⟩) 1 1) (w.alloc (.cells vs.toArray 47))) ∧
  (∀  (w : World), (Instr.build 50 [].toArray).run Try.prog w = .ok (.agg [(.map none)].toArray) w) ∧
  (∀ (first cap args : List Value) (w : World) (K : Value → World → Prop), kN Try.prog (callN (.func (.func 23) first.toArray cap.toArray) args.toArray) w K = callsK Try.prog 23 (first ++ args ++ cap).toArray w K) ∧
  (∀ (first cap args : List Value) (w : World) (K : Value → World → Prop), kN Try.prog (callN (.func (.func 21) first.toArray cap.toArray) args.toArray) w K = callsK Try.prog 21 (first ++ args ++ cap).toArray w K) ∧
  (∀ (first cap args : List Value) (w : World) (K : Value → World → Prop), kN Try.prog (callN (.func (.func 24) first.toArray cap.toArray) args.toArray) w K = callsK Try.prog 24 (first ++ args ++ cap).toArray w K) ∧
  (∀ (b o : Nat) (w : World), (Instr.fieldAt 47 (.pointer (some ⟨b, o, none⟩)) 0).run Try.prog w = .ok (.pointer (some ⟨b, o, none⟩)) w) ∧
  (∀ (b o : Nat) (w : World), (Instr.loadAt 28 (.pointer (some ⟨b, o, none⟩))).run Try.prog w = ldX Try.prog w b o w.heap[b]?) ∧
  (∀ (b o : Nat) (w : World), (Instr.fieldAt 47 (.pointer (some ⟨b, o, none⟩)) 1).run Try.prog w = .ok (.pointer (some ⟨b, o + 1, none⟩)) w) ∧
  (∀ (first cap args : List Value) (w : World) (K : Value → World → Prop), kN Try.prog (callN (.func (.func 19) first.toArray cap.toArray) args.toArray) w K = callsK Try.prog 19 (first ++ args ++ cap).toArray w K) ∧
  (∀ (first cap args : List Value) (w : World) (K : Value → World → Prop), kN Try.prog (callN (.func (.func 20) first.toArray cap.toArray) args.toArray) w K = callsK Try.prog 20 (first ++ args ++ cap).toArray w K) ∧
  (∀ (first cap args : List Value) (w : World) (K : Value → World → Prop), kN Try.prog (callN (.func (.func 22) first.toArray cap.toArray) args.toArray) w K = callsK Try.prog 22 (first ++ args ++ cap).toArray w K) ∧
  (∀ (b o : Nat) (w : World), (Instr.fieldAt 50 (.pointer (some ⟨b, o, none⟩)) 0).run Try.prog w = .ok (.pointer (some ⟨b, o, none⟩)) w) ∧
  (∀ (b o : Nat) (w : World), (Instr.loadAt 48 (.pointer (some ⟨b, o, none⟩))).run Try.prog w = ldX Try.prog w b o w.heap[b]?) ∧
  (∀ (first cap args : List Value) (w : World) (K : Value → World → Prop), kN Try.prog (callN (.func (.func 48) first.toArray cap.toArray) args.toArray) w K = callsK Try.prog 48 (first ++ args ++ cap).toArray w K) ∧
  (∀ (first cap args : List Value) (w : World) (K : Value → World → Prop), kN Try.prog (callN (.func (.func 47) first.toArray cap.toArray) args.toArray) w K = callsK Try.prog 47 (first ++ args ++ cap).toArray w K) ∧
  (∀ (a : Option Addr) (len cap : Nat) (w : World), (Builtin.len_ #[93] 3 #[.slice a len cap]).run Try.prog w = .ok (.int .i64 len) w) ∧
  (∀ (b o len cap : Nat) (k : IntKind) (i : Int) (w : World), 0 ≤ i ∧ i < len → (Instr.indexAt 93 (.slice (some ⟨b, o, none⟩) len cap) (.int k i)).run Try.prog w = .ok (.pointer (some ⟨b, o + i.toNat * 1, none⟩)) w) ∧
  (∀ (first cap args : List Value) (w : World) (K : Value → World → Prop), kN Try.prog (callN (.func (.func 49) first.toArray cap.toArray) args.toArray) w K = callsK Try.prog 49 (first ++ args ++ cap).toArray w K) ∧
  (∀ (a : Option Addr) (len cap : Nat) (w : World), (Builtin.len_ #[98] 3 #[.slice a len cap]).run Try.prog w = .ok (.int .i64 len) w) ∧
  (∀ (b o len cap : Nat) (k : IntKind) (i : Int) (w : World), 0 ≤ i ∧ i < len → (Instr.indexAt 98 (.slice (some ⟨b, o, none⟩) len cap) (.int k i)).run Try.prog w = .ok (.pointer (some ⟨b, o + i.toNat * 1, none⟩)) w) ∧
  (∀ (b o : Nat) (w : World), (Instr.loadAt 3 (.pointer (some ⟨b, o, none⟩))).run Try.prog w = ldX Try.prog w b o w.heap[b]?) ∧
  (∀ (k0 : IntKind) (a : Int) (w : World), (convert 3 28 (.int k0 a)).run Try.prog w = .ok (.int .u64 (IntKind.wrap .u64 a)) w) ∧
  (∀ (b o : Nat) (v : Value) (w : World), v.oneCell' = true → (Instr.storeAt 28 (.pointer (some ⟨b, o, none⟩)) v).run Try.prog w = s1X Try.prog w b o v w.heap[b]?) ∧
  (∀ (a0x0 : Int) (a1x0 : Int) (w : World), (Instr.build 47 [(0, .int .u64 a0x0), (1, .int .u64 a1x0)].toArray).run Try.prog w = .ok (.agg [.int .u64 a0x0, .int .u64 a1x0].toArray) w) ∧
  (∀ (first cap args : List Value) (w : World) (K : Value → World → Prop), kN Try.prog (callN (.func (.func 67) first.toArray cap.toArray) args.toArray) w K = callsK Try.prog 67 (first ++ args ++ cap).toArray w K) ∧
  (∀ (first cap args : List Value) (w : World) (K : Value → World → Prop), kN Try.prog (callN (.func (.func 68) first.toArray cap.toArray) args.toArray) w K = callsK Try.prog 68 (first ++ args ++ cap).toArray w K) ∧
  (∀ (w : World), (Instr.alloc 98 true (.tuple #[])).run Try.prog w = .ok (.pointer (some ⟨w.heap.size, 0, none⟩)) (w.alloc (.cells #[(.slice none 0 0)] 98))) ∧
  (∀ (first cap args : List Value) (w : World) (K : Value → World → Prop), kN Try.prog (callN (.func (.func 70) first.toArray cap.toArray) args.toArray) w K = callsK Try.prog 70 (first ++ args ++ cap).toArray w K) ∧
  (∀ (b o : Nat) (w : World), (Instr.loadAt 98 (.pointer (some ⟨b, o, none⟩))).run Try.prog w = ldX Try.prog w b o w.heap[b]?) ∧
  (∀ (first cap args : List Value) (w : World) (K : Value → World → Prop), kN Try.prog (callN (.func (.func 84) first.toArray cap.toArray) args.toArray) w K = callsK Try.prog 84 (first ++ args ++ cap).toArray w K) ∧
  (∀ (b o : Nat) (w : World), (Instr.loadAt 88 (.pointer (some ⟨b, o, none⟩))).run Try.prog w = lnV Try.prog w b o 4 w.heap[b]?) ∧
  (∀ (first cap args : List Value) (w : World) (K : Value → World → Prop), kN Try.prog (callN (.func (.func 45) first.toArray cap.toArray) args.toArray) w K = callsK Try.prog 45 (first ++ args ++ cap).toArray w K) ∧
  (∀ (v0 : Value) (w : World), [v0].all (fun v => v.oneCell') = true → (Instr.buildSlice 98 1 [(0, v0)].toArray).run Try.prog w = .ok (.slice (some ⟨w.heap.size, 0, none⟩) 1 1) (w.alloc (.cells [v0].toArray 3))) ∧
  (∀ (b o : Nat) (v : Value) (w : World), v.oneCell' = true → (Instr.storeAt 98 (.pointer (some ⟨b, o, none⟩)) v).run Try.prog w = s1X Try.prog w b o v w.heap[b]?) := ⟨RV_call_7, RV_len_55, RV_sl_55, RV_sln_55, RV_al_50, RV_ld_50, RV_call_18, RV_st_50, RV_ix_55, RV_ld_47, RV_bs_55_1, RV_bl_50_, RV_call_23, RV_call_21, RV_call_24, RV_fld_47_0, RV_ld_28, RV_fld_47_1, RV_call_19, RV_call_20, RV_call_22, RV_fld_50_0, RV_ld_48, RV_call_48, RV_call_47, RV_len_93, RV_ix_93, RV_call_49, RV_len_98, RV_ix_98, RV_ld_3, RV_cv_3_28, RV_st_28, RV_bl_47_0_1, RV_call_67, RV_call_68, RV_al_98, RV_call_70, RV_ld_98, RV_call_84, RV_ld_88, RV_call_45, RV_bs_98_1, RV_st_98⟩

end Go.Proofs.Ytgnibcaflidjmaa
