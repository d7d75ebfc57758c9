/- The rules of operations of functions of this seat; conditions: none. -/
import Derived.Test.YtgnibcaflidjmaaProg
import Derived.Test.YtgnibcaflidjmaaSlices
import Derived.KernelRfl
namespace Go.Proofs.Ytgnibcaflidjmaa
open Go.Fx
set_option linter.unusedVariables false
set_option linter.constructorNameAsVariable false
set_option maxRecDepth 100000
set_option maxHeartbeats 4000000
theorem RZ_call_68 : ∀ (first cap args : List Value) (w : World) (K : Value → World → Prop), kN Try.prog (callN (.func (.func 68) first.toArray cap.toArray) args.toArray) w K = callsK Try.prog 68 (first ++ args ++ cap).toArray w K := Fx.kN_callf Try.call68
theorem RZ_len_93 : ∀ (a : Option Addr) (len cap : Nat) (w : World), (Builtin.len_ #[93] 3 #[.slice a len cap]).run Try.prog w = .ok (.int .i64 len) w := Fx.run_len_slice Try.underlying93
theorem RZ_cv_3_129 : ∀ (k0 : IntKind) (a : Int) (w : World), (convert 3 129 (.int k0 a)).run Try.prog w = .ok (.int .u64 (IntKind.wrap .u64 a)) w := Fx.run_convert_int Try.underlying3 Try.underlying129
theorem RZ_call_86 : ∀ (first cap args : List Value) (w : World) (K : Value → World → Prop), kN Try.prog (callN (.func (.func 86) first.toArray cap.toArray) args.toArray) w K = callsK Try.prog 86 (first ++ args ++ cap).toArray w K := Fx.kN_callf Try.call86
theorem RZ_call_85 : ∀ (first cap args : List Value) (w : World) (K : Value → World → Prop), kN Try.prog (callN (.func (.func 85) first.toArray cap.toArray) args.toArray) w K = callsK Try.prog 85 (first ++ args ++ cap).toArray w K := Fx.kN_callf Try.call85
theorem RZ_call_97 : ∀ (first cap args : List Value) (w : World) (K : Value → World → Prop), kN Try.prog (callN (.func (.func 97) first.toArray cap.toArray) args.toArray) w K = callsK Try.prog 97 (first ++ args ++ cap).toArray w K := Fx.kN_callf Try.call97
theorem RZ_call_98 : ∀ (first cap args : List Value) (w : World) (K : Value → World → Prop), kN Try.prog (callN (.func (.func 98) first.toArray cap.toArray) args.toArray) w K = callsK Try.prog 98 (first ++ args ++ cap).toArray w K := Fx.kN_callf Try.call98
theorem RZ_call_99 : ∀ (first cap args : List Value) (w : World) (K : Value → World → Prop), kN Try.prog (callN (.func (.func 99) first.toArray cap.toArray) args.toArray) w K = callsK Try.prog 99 (first ++ args ++ cap).toArray w K := Fx.kN_callf Try.call99
theorem RZ_call_100 : ∀ (first cap args : List Value) (w : World) (K : Value → World → Prop), kN Try.prog (callN (.func (.func 100) first.toArray cap.toArray) args.toArray) w K = callsK Try.prog 100 (first ++ args ++ cap).toArray w K := Fx.kN_callf Try.call100
theorem RZ_call_101 : ∀ (first cap args : List Value) (w : World) (K : Value → World → Prop), kN Try.prog (callN (.func (.func 101) first.toArray cap.toArray) args.toArray) w K = callsK Try.prog 101 (first ++ args ++ cap).toArray w K := Fx.kN_callf Try.call101
theorem RZ_call_102 : ∀ (first cap args : List Value) (w : World) (K : Value → World → Prop), kN Try.prog (callN (.func (.func 102) first.toArray cap.toArray) args.toArray) w K = callsK Try.prog 102 (first ++ args ++ cap).toArray w K := Fx.kN_callf Try.call102
theorem RZ_ix_93 : ∀ (b o len cap : Nat) (k : IntKind) (i : Int) (w : World), 0 ≤ i ∧ i < len → (Instr.indexAt 93 (.slice (some ⟨b, o, none⟩) len cap) (.int k i)).run Try.prog w = .ok (.pointer (some ⟨b, o + i.toNat * 1, none⟩)) w := Fx.run_index_slice Try.underlying93 Try.sizeOf28
theorem RZ_ld_28 : ∀ (b o : Nat) (w : World), (Instr.loadAt 28 (.pointer (some ⟨b, o, none⟩))).run Try.prog w = ldX Try.prog w b o w.heap[b]? := Fx.run_load1' Try.isAgg28
theorem RZ_call_103 : ∀ (first cap args : List Value) (w : World) (K : Value → World → Prop), kN Try.prog (callN (.func (.func 103) first.toArray cap.toArray) args.toArray) w K = callsK Try.prog 103 (first ++ args ++ cap).toArray w K := Fx.kN_callf Try.call103
theorem RZ_call_104 : ∀ (first cap args : List Value) (w : World) (K : Value → World → Prop), kN Try.prog (callN (.func (.func 104) first.toArray cap.toArray) args.toArray) w K = callsK Try.prog 104 (first ++ args ++ cap).toArray w K := Fx.kN_callf Try.call104
theorem RZ_call_105 : ∀ (first cap args : List Value) (w : World) (K : Value → World → Prop), kN Try.prog (callN (.func (.func 105) first.toArray cap.toArray) args.toArray) w K = callsK Try.prog 105 (first ++ args ++ cap).toArray w K := Fx.kN_callf Try.call105
theorem RZ_cv_129_75 : ∀ (k0 : IntKind) (a : Int) (w : World), (convert 129 75 (.int k0 a)).run Try.prog w = .ok (.int .u32 (IntKind.wrap .u32 a)) w := Fx.run_convert_int Try.underlying129 Try.underlying75
theorem RZ_call_106 : ∀ (first cap args : List Value) (w : World) (K : Value → World → Prop), kN Try.prog (callN (.func (.func 106) first.toArray cap.toArray) args.toArray) w K = callsK Try.prog 106 (first ++ args ++ cap).toArray w K := Fx.kN_callf Try.call106
theorem RZ_call_107 : ∀ (first cap args : List Value) (w : World) (K : Value → World → Prop), kN Try.prog (callN (.func (.func 107) first.toArray cap.toArray) args.toArray) w K = callsK Try.prog 107 (first ++ args ++ cap).toArray w K := Fx.kN_callf Try.call107
theorem RZ_st_28 : ∀ (b o : Nat) (v : Value) (w : World), v.oneCell' = true → (Instr.storeAt 28 (.pointer (some ⟨b, o, none⟩)) v).run Try.prog w = s1X Try.prog w b o v w.heap[b]? := Fx.run_store1' Try.sizeOf28
theorem RZ_call_109 : ∀ (first cap args : List Value) (w : World) (K : Value → World → Prop), kN Try.prog (callN (.func (.func 109) first.toArray cap.toArray) args.toArray) w K = callsK Try.prog 109 (first ++ args ++ cap).toArray w K := Fx.kN_callf Try.call109
theorem RZ_cv_3_168 : ∀ (k0 : IntKind) (a : Int) (w : World), (convert 3 168 (.int k0 a)).run Try.prog w = .ok (.int .u64 (IntKind.wrap .u64 a)) w := Fx.run_convert_int Try.underlying3 Try.underlying168
theorem RZ_al_168 : ∀ (w : World), (Instr.alloc 168 true (.tuple #[])).run Try.prog w = .ok (.pointer (some ⟨w.heap.size, 0, none⟩)) (w.alloc (.cells #[(.int .u64 0)] 168)) := Fx.run_alloc Try.zeroValue168
theorem RZ_st_168 : ∀ (b o : Nat) (v : Value) (w : World), v.oneCell' = true → (Instr.storeAt 168 (.pointer (some ⟨b, o, none⟩)) v).run Try.prog w = s1X Try.prog w b o v w.heap[b]? := Fx.run_store1' Try.sizeOf168
theorem RZ_call_110 : ∀ (first cap args : List Value) (w : World) (K : Value → World → Prop), kN Try.prog (callN (.func (.func 110) first.toArray cap.toArray) args.toArray) w K = callsK Try.prog 110 (first ++ args ++ cap).toArray w K := Fx.kN_callf Try.call110
theorem RZ_call_111 : ∀ (first cap args : List Value) (w : World) (K : Value → World → Prop), kN Try.prog (callN (.func (.func 111) first.toArray cap.toArray) args.toArray) w K = callsK Try.prog 111 (first ++ args ++ cap).toArray w K := Fx.kN_callf Try.call111
theorem RZ_cv_129_3 : ∀ (k0 : IntKind) (a : Int) (w : World), (convert 129 3 (.int k0 a)).run Try.prog w = .ok (.int .i64 (IntKind.wrap .i64 a)) w := Fx.run_convert_int Try.underlying129 Try.underlying3
theorem RZ_al_3 : ∀ (w : World), (Instr.alloc 3 true (.tuple #[])).run Try.prog w = .ok (.pointer (some ⟨w.heap.size, 0, none⟩)) (w.alloc (.cells #[(.int .i64 0)] 3)) := Fx.run_alloc Try.zeroValue3
theorem RZ_call_112 : ∀ (first cap args : List Value) (w : World) (K : Value → World → Prop), kN Try.prog (callN (.func (.func 112) first.toArray cap.toArray) args.toArray) w K = callsK Try.prog 112 (first ++ args ++ cap).toArray w K := Fx.kN_callf Try.call112
theorem RZ_call_113 : ∀ (first cap args : List Value) (w : World) (K : Value → World → Prop), kN Try.prog (callN (.func (.func 113) first.toArray cap.toArray) args.toArray) w K = callsK Try.prog 113 (first ++ args ++ cap).toArray w K := Fx.kN_callf Try.call113
theorem RZ_ld_3 : ∀ (b o : Nat) (w : World), (Instr.loadAt 3 (.pointer (some ⟨b, o, none⟩))).run Try.prog w = ldX Try.prog w b o w.heap[b]? := Fx.run_load1' Try.isAgg3
theorem RZ_call_114 : ∀ (first cap args : List Value) (w : World) (K : Value → World → Prop), kN Try.prog (callN (.func (.func 114) first.toArray cap.toArray) args.toArray) w K = callsK Try.prog 114 (first ++ args ++ cap).toArray w K := Fx.kN_callf Try.call114
theorem RZ_cv_28_5 : ∀ (k0 : IntKind) (a : Int) (w : World), (convert 28 5 (.int k0 a)).run Try.prog w = .ok (.int .u8 (IntKind.wrap .u8 a)) w := Fx.run_convert_int Try.underlying28 Try.underlying5
theorem RZ_cv_5_3 : ∀ (k0 : IntKind) (a : Int) (w : World), (convert 5 3 (.int k0 a)).run Try.prog w = .ok (.int .i64 (IntKind.wrap .i64 a)) w := Fx.run_convert_int Try.underlying5 Try.underlying3
theorem RZ_ld_168 : ∀ (b o : Nat) (w : World), (Instr.loadAt 168 (.pointer (some ⟨b, o, none⟩))).run Try.prog w = ldX Try.prog w b o w.heap[b]? := Fx.run_load1' Try.isAgg168
theorem RZ_call_115 : ∀ (first cap args : List Value) (w : World) (K : Value → World → Prop), kN Try.prog (callN (.func (.func 115) first.toArray cap.toArray) args.toArray) w K = callsK Try.prog 115 (first ++ args ++ cap).toArray w K := Fx.kN_callf Try.call115
theorem RZ_st_3 : ∀ (b o : Nat) (v : Value) (w : World), v.oneCell' = true → (Instr.storeAt 3 (.pointer (some ⟨b, o, none⟩)) v).run Try.prog w = s1X Try.prog w b o v w.heap[b]? := Fx.run_store1' Try.sizeOf3
theorem rulesZ : (∀ (first cap args : List Value) (w : World) (K : Value → World → Prop), kN Try.prog (callN (.func (.func 68) first.toArray cap.toArray) args.toArray) w K = callsK Try.prog 68 (first ++ args ++ cap).toArray w K) ∧
  (∀ (a : Option Addr) (len cap : Nat) (w : World), (Builtin.len_ #[93] 3 #[.slice a len cap]).run Try.prog w = .ok (.int .i64 len) w) ∧
  (∀ (k0 : IntKind) (a : Int) (w : World), (convert 3 129 (.int k0 a)).run Try.prog w = .ok (.int .u64 (IntKind.wrap .u64 a)) w) ∧
  (∀ (first cap args : List Value) (w : World) (K : Value → World → Prop), kN Try.prog (callN (.func (.func 86) first.toArray cap.toArray) args.toArray) w K = callsK Try.prog 86 (first ++ args ++ cap).toArray w K) ∧
  (∀ (first cap args : List Value) (w : World) (K : Value → World → Prop), kN Try.prog (callN (.func (.func 85) first.toArray cap.toArray) args.toArray) w K = callsK Try.prog 85 (first ++ args ++ cap).toArray w K) ∧
  (∀ (first cap args : List Value) (w : World) (K : Value → World → Prop), kN Try.prog (callN (.func (.func 97) first.toArray cap.toArray) args.toArray) w K = callsK Try.prog 97 (first ++ args ++ cap).toArray w K) ∧
  (∀ (first cap args : List Value) (w : World) (K : Value → World → Prop), kN Try.prog (callN (.func (.func 98) first.toArray cap.toArray) args.toArray) w K = callsK Try.prog 98 (first ++ args ++ cap).toArray w K) ∧
  (∀ (first cap args : List Value) (w : World) (K : Value → World → Prop), kN Try.prog (callN (.func (.func 99) first.toArray cap.toArray) args.toArray) w K = callsK Try.prog 99 (first ++ args ++ cap).toArray w K) ∧
  (∀ (first cap args : List Value) (w : World) (K : Value → World → Prop), kN Try.prog (callN (.func (.func 100) first.toArray cap.toArray) args.toArray) w K = callsK Try.prog 100 (first ++ args ++ cap).toArray w K) ∧
  (∀ (first cap args : List Value) (w : World) (K : Value → World → Prop), kN Try.prog (callN (.func (.func 101) first.toArray cap.toArray) args.toArray) w K = callsK Try.prog 101 (first ++ args ++ cap).toArray w K) ∧
  (∀ (first cap args : List Value) (w : World) (K : Value → World → Prop), kN Try.prog (callN (.func (.func 102) first.toArray cap.toArray) args.toArray) w K = callsK Try.prog 102 (first ++ args ++ cap).toArray w K) ∧
  (∀ (b o len cap : Nat) (k : IntKind) (i : Int) (w : World), 0 ≤ i ∧ i < len → (Instr.indexAt 93 (.slice (some ⟨b, o, none⟩) len cap) (.int k i)).run Try.prog w = .ok (.pointer (some ⟨b, o + i.toNat * 1, none⟩)) w) ∧
  (∀ (b o : Nat) (w : World), (Instr.loadAt 28 (.pointer (some ⟨b, o, none⟩))).run Try.prog w = ldX Try.prog w b o w.heap[b]?) ∧
  (∀ (first cap args : List Value) (w : World) (K : Value → World → Prop), kN Try.prog (callN (.func (.func 103) first.toArray cap.toArray) args.toArray) w K = callsK Try.prog 103 (first ++ args ++ cap).toArray w K) ∧
  (∀ (first cap args : List Value) (w : World) (K : Value → World → Prop), kN Try.prog (callN (.func (.func 104) first.toArray cap.toArray) args.toArray) w K = callsK Try.prog 104 (first ++ args ++ cap).toArray w K) ∧
  (∀ (first cap args : List Value) (w : World) (K : Value → World → Prop), kN Try.prog (callN (.func (.func 105) first.toArray cap.toArray) args.toArray) w K = callsK Try.prog 105 (first ++ args ++ cap).toArray w K) ∧
  (∀ (k0 : IntKind) (a : Int) (w : World), (convert 129 75 (.int k0 a)).run Try.prog w = .ok (.int .u32 (IntKind.wrap .u32 a)) w) ∧
  (∀ (first cap args : List Value) (w : World) (K : Value → World → Prop), kN Try.prog (callN (.func (.func 106) first.toArray cap.toArray) args.toArray) w K = callsK Try.prog 106 (first ++ args ++ cap).toArray w K) ∧
  (∀ (first cap args : List Value) (w : World) (K : Value → World → Prop), kN Try.prog (callN (.func (.func 107) first.toArray cap.toArray) args.toArray) w K = callsK Try.prog 107 (first ++ args ++ cap).toArray w K) ∧
  (∀ (b o : Nat) (v : Value) (w : World), v.oneCell' = true → (Instr.storeAt 28 (.pointer (some ⟨b, o, none⟩)) v).run Try.prog w = s1X Try.prog w b o v w.heap[b]?) ∧
  (∀ (first cap args : List Value) (w : World) (K : Value → World → Prop), kN Try.prog (callN (.func (.func 109) first.toArray cap.toArray) args.toArray) w K = callsK Try.prog 109 (first ++ args ++ cap).toArray w K) ∧
  (∀ (k0 : IntKind) (a : Int) (w : World), (convert 3 168 (.int k0 a)).run Try.prog w = .ok (.int .u64 (IntKind.wrap .u64 a)) w) ∧
  (∀ (w : World), (Instr.alloc 168 true (.tuple #[])).run Try.prog w = .ok (.pointer (some ⟨w.heap.size, 0, none⟩)) (w.alloc (.cells #[(.int .u64 0)] 168))) ∧
  (∀ (b o : Nat) (v : Value) (w : World), v.oneCell' = true → (Instr.storeAt 168 (.pointer (some ⟨b, o, none⟩)) v).run Try.prog w = s1X Try.prog w b o v w.heap[b]?) ∧
  (∀ (first cap args : List Value) (w : World) (K : Value → World → Prop), kN Try.prog (callN (.func (.func 110) first.toArray cap.toArray) args.toArray) w K = callsK Try.prog 110 (first ++ args ++ cap).toArray w K) ∧
  (∀ (first cap args : List Value) (w : World) (K : Value → World → Prop), kN Try.prog (callN (.func (.func 111) first.toArray cap.toArray) args.toArray) w K = callsK Try.prog 111 (first ++ args ++ cap).toArray w K) ∧
  (∀ (k0 : IntKind) (a : Int) (w : World), (convert 129 3 (.int k0 a)).run Try.prog w = .ok (.int .i64 (IntKind.wrap .i64 a)) w) ∧
  (∀ (w : World), (Instr.alloc 3 true (.tuple #[])).run Try.prog w = .ok (.pointer (some ⟨w.heap.size, 0, none⟩)) (w.alloc (.cells #[(.int .i64 0)] 3))) ∧
  (∀ (first cap args : List Value) (w : World) (K : Value → World → Prop), kN Try.prog (callN (.func (.func 112) first.toArray cap.toArray) args.toArray) w K = callsK Try.prog 112 (first ++ args ++ cap).toArray w K) ∧
  (∀ (first cap args : List Value) (w : World) (K : Value → World → Prop), kN Try.prog (callN (.func (.func 113) first.toArray cap.toArray) args.toArray) w K = callsK Try.prog 113 (first ++ args ++ cap).toArray w K) ∧
  (∀ (b o : Nat) (w : World), (Instr.loadAt 3 (.pointer (some ⟨b, o, none⟩))).run Try.prog w = ldX Try.prog w b o w.heap[b]?) ∧
  (∀ (first cap args : List Value) (w : World) (K : Value → World → Prop), kN Try.prog (callN (.func (.func 114) first.toArray cap.toArray) args.toArray) w K = callsK Try.prog 114 (first ++ args ++ cap).toArray w K) ∧
  (∀ (k0 : IntKind) (a : Int) (w : World), (convert 28 5 (.int k0 a)).run Try.prog w = .ok (.int .u8 (IntKind.wrap .u8 a)) w) ∧
  (∀ (k0 : IntKind) (a : Int) (w : World), (convert 5 3 (.int k0 a)).run Try.prog w = .ok (.int .i64 (IntKind.wrap .i64 a)) w) ∧
  (∀ (b o : Nat) (w : World), (Instr.loadAt 168 (.pointer (some ⟨b, o, none⟩))).run Try.prog w = ldX Try.prog w b o w.heap[b]?) ∧
  (∀ (first cap args : List Value) (w : World) (K : Value → World → Prop), kN Try.prog (callN (.func (.func 115) first.toArray cap.toArray) args.toArray) w K = callsK Try.prog 115 (first ++ args ++ cap).toArray w K) ∧
  (∀ (b o : Nat) (v : Value) (w : World), v.oneCell' = true → (Instr.storeAt 3 (.pointer (some ⟨b, o, none⟩)) v).run Try.prog w = s1X Try.prog w b o v w.heap[b]?) := ⟨RZ_call_68, RZ_len_93, RZ_cv_3_129, RZ_call_86, RZ_call_85, RZ_call_97, RZ_call_98, RZ_call_99, RZ_call_100, RZ_call_101, RZ_call_102, RZ_ix_93, RZ_ld_28, RZ_call_103, RZ_call_104, RZ_call_105, RZ_cv_129_75, RZ_call_106, RZ_call_107, RZ_st_28, RZ_call_109, RZ_cv_3_168, RZ_al_168, RZ_st_168, RZ_call_110, RZ_call_111, RZ_cv_129_3, RZ_al_3, RZ_call_112, RZ_call_113, RZ_ld_3, RZ_call_114, RZ_cv_28_5, RZ_cv_5_3, RZ_ld_168, RZ_call_115, RZ_st_3⟩

end Go.Proofs.Ytgnibcaflidjmaa
