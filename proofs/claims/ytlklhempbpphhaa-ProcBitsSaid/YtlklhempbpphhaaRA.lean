/- The rules of operations of functions of this seat; conditions: none. -/
import Derived.Test.YtlklhempbpphhaaProg
import Derived.Test.YtlklhempbpphhaaOps
import Derived.KernelRfl
namespace Go.Proofs.Ytlklhempbpphhaa
open Go.Fx
set_option linter.unusedVariables false
set_option linter.constructorNameAsVariable false
set_option maxRecDepth 100000
theorem RA_call_12 : ∀ (first cap args : List Value) (w : World) (K : Value → World → Prop), kN Try.prog (callN (.func (.func 12) first.toArray cap.toArray) args.toArray) w K = callsK Try.prog 12 (first ++ args ++ cap).toArray w K := Fx.kN_callf Try.call12
theorem RA_al_24 : ∀ (w : World), (Instr.alloc 24 true (.tuple #[])).run Try.prog w = .ok (.pointer (some ⟨w.heap.size, 0, none⟩)) (w.alloc (.cells #[(.bool false), (.bool false), (.bool false)] 24)) := Fx.run_alloc Try.zeroValue24
theorem RA_st_24 : ∀ (b o : Nat) (vs : List Value) (w : World), vs.length = 3 → (Instr.storeAt 24 (.pointer (some ⟨b, o, none⟩)) (.agg vs.toArray)).run Try.prog w = snX Try.prog w b o vs w.heap[b]? := Fx.run_storeN' Try.sizeOf24
theorem RA_eql_4 : ∀ (x y : Operand) (a b : Bool) (w : World), (binV .eql 4 x y (.bool a) (.bool b)).run Try.prog w = .ok (.bool ((a == b))) w := Fx.run_eqlB Try.underlying4
theorem RA_fld_24_0 : ∀ (b o : Nat) (w : World), (Instr.fieldAt 24 (.pointer (some ⟨b, o, none⟩)) 0).run Try.prog w = .ok (.pointer (some ⟨b, o, none⟩)) w := Fx.run_fieldO 0 0 1 Try.underlying24 rfl Try.sizeOf4 (by decide)
theorem RA_ld_4 : ∀ (b o : Nat) (w : World), (Instr.loadAt 4 (.pointer (some ⟨b, o, none⟩))).run Try.prog w = ldX Try.prog w b o w.heap[b]? := Fx.run_load1' Try.isAgg4
theorem RA_fld_24_1 : ∀ (b o : Nat) (w : World), (Instr.fieldAt 24 (.pointer (some ⟨b, o, none⟩)) 1).run Try.prog w = .ok (.pointer (some ⟨b, o + 1, none⟩)) w := Fx.run_fieldO 1 1 1 Try.underlying24 rfl Try.sizeOf4 (by decide)
theorem RA_fld_24_2 : ∀ (b o : Nat) (w : World), (Instr.fieldAt 24 (.pointer (some ⟨b, o, none⟩)) 2).run Try.prog w = .ok (.pointer (some ⟨b, o + 2, none⟩)) w := Fx.run_fieldO 2 2 1 Try.underlying24 rfl Try.sizeOf4 (by decide)
theorem RA_call_13 : ∀ (first cap args : List Value) (w : World) (K : Value → World → Prop), kN Try.prog (callN (.func (.func 13) first.toArray cap.toArray) args.toArray) w K = callsK Try.prog 13 (first ++ args ++ cap).toArray w K := Fx.kN_callf Try.call13
theorem RA_bl_28_0_1 : ∀ (a0x0 : Int) (a1x0 : Int) (w : World), (Instr.build 28 [(0, .int .u64 a0x0), (1, .int .u64 a1x0)].toArray).run Try.prog w = .ok (.agg [.int .u64 a0x0, .int .u64 a1x0].toArray) w := fun a0x0 a1x0 w => run_build w 28 _ _ (by kernel_rfl)
theorem RA_eql_28 : ∀ (a0 b0 : Int) (a1 b1 : Int) (x y : Operand) (w : World), (binV .eql 28 x y (.agg [.int .u64 a0, .int .u64 a1].toArray) (.agg [.int .u64 b0, .int .u64 b1].toArray)).run Try.prog w = .ok (.bool (((a0 == b0) && ((a1 == b1) && true)))) w := fun a0 b0 a1 b1 x y w => Fx.eql_agg (by kernel_rfl) _ _ _ x y w (Fx.equalIn_struct (d := 9999) (by kernel_rfl) (by kernel_rfl) (q := [(22, 0), (22, 1)]) (by kernel_rfl) (by kernel_rfl) (Fx.eqQ_cons (Fx.part1 Try.isAgg22 rfl) (Fx.part1 Try.isAgg22 rfl) (run_equalIn_int _ 9998 22 .u64 .u64 _ _ Try.underlying22) (Fx.eqQ_cons (Fx.part1 Try.isAgg22 rfl) (Fx.part1 Try.isAgg22 rfl) (run_equalIn_int _ 9998 22 .u64 .u64 _ _ Try.underlying22) (Fx.eqQ_nil))))
theorem RA_bl_24_ : ∀  (w : World), (Instr.build 24 [].toArray).run Try.prog w = .ok (.agg [(.bool false), (.bool false), (.bool false)].toArray) w := fun w => run_build w 24 _ _ (by kernel_rfl)
theorem RA_bl_24_0_1_2 : ∀ (a0x0 : Bool) (a1x0 : Bool) (a2x0 : Bool) (w : World), (Instr.build 24 [(0, .bool a0x0), (1, .bool a1x0), (2, .bool a2x0)].toArray).run Try.prog w = .ok (.agg [.bool a0x0, .bool a1x0, .bool a2x0].toArray) w := fun a0x0 a1x0 a2x0 w => run_build w 24 _ _ (by kernel_rfl)
theorem RA_ld_24 : ∀ (b o : Nat) (w : World), (Instr.loadAt 24 (.pointer (some ⟨b, o, none⟩))).run Try.prog w = lnV Try.prog w b o 3 w.heap[b]? := Fx.run_loadN' Try.isAgg24 Try.sizeOf24
theorem RA_al_28 : ∀ (w : World), (Instr.alloc 28 true (.tuple #[])).run Try.prog w = .ok (.pointer (some ⟨w.heap.size, 0, none⟩)) (w.alloc (.cells #[(.int .u64 0), (.int .u64 0)] 28)) := Fx.run_alloc Try.zeroValue28
theorem RA_st_28 : ∀ (b o : Nat) (vs : List Value) (w : World), vs.length = 2 → (Instr.storeAt 28 (.pointer (some ⟨b, o, none⟩)) (.agg vs.toArray)).run Try.prog w = snX Try.prog w b o vs w.heap[b]? := Fx.run_storeN' Try.sizeOf28
theorem RA_ld_28 : ∀ (b o : Nat) (w : World), (Instr.loadAt 28 (.pointer (some ⟨b, o, none⟩))).run Try.prog w = lnV Try.prog w b o 2 w.heap[b]? := Fx.run_loadN' Try.isAgg28 Try.sizeOf28
theorem rulesA : (∀ (first cap args : List Value) (w : World) (K : Value → World → Prop), kN Try.prog (callN (.func (.func 12) first.toArray cap.toArray) args.toArray) w K = callsK Try.prog 12 (first ++ args ++ cap).toArray w K) ∧
  (∀ (w : World), (Instr.alloc 24 true (.tuple #[])).run Try.prog w = .ok (.pointer (some ⟨w.heap.size, 0, none⟩)) (w.alloc (.cells #[(.bool false), (.bool false), (.bool false)] 24))) ∧
  (∀ (b o : Nat) (vs : List Value) (w : World), vs.length = 3 → (Instr.storeAt 24 (.pointer (some ⟨b, o, none⟩)) (.agg vs.toArray)).run Try.prog w = snX Try.prog w b o vs w.heap[b]?) ∧
  (∀ (x y : Operand) (a b : Bool) (w : World), (binV .eql 4 x y (.bool a) (.bool b)).run Try.prog w = .ok (.bool ((a == b))) w) ∧
  (∀ (b o : Nat) (w : World), (Instr.fieldAt 24 (.pointer (some ⟨b, o, none⟩)) 0).run Try.prog w = .ok (.pointer (some ⟨b, o, none⟩)) w) ∧
  (∀ (b o : Nat) (w : World), (Instr.loadAt 4 (.pointer (some ⟨b, o, none⟩))).run Try.prog w = ldX Try.prog w b o w.heap[b]?) ∧
  (∀ (b o : Nat) (w : World), (Instr.fieldAt 24 (.pointer (some ⟨b, o, none⟩)) 1).run Try.prog w = .ok (.pointer (some ⟨b, o + 1, none⟩)) w) ∧
  (∀ (b o : Nat) (w : World), (Instr.fieldAt 24 (.pointer (some ⟨b, o, none⟩)) 2).run Try.prog w = .ok (.pointer (some ⟨b, o + 2, none⟩)) w) ∧
  (∀ (first cap args : List Value) (w : World) (K : Value → World → Prop), kN Try.prog (callN (.func (.func 13) first.toArray cap.toArray) args.toArray) w K = callsK Try.prog 13 (first ++ args ++ cap).toArray w K) ∧
  (∀ (a0x0 : Int) (a1x0 : Int) (w : World), (Instr.build 28 [(0, .int .u64 a0x0), (1, .int .u64 a1x0)].toArray).run Try.prog w = .ok (.agg [.int .u64 a0x0, .int .u64 a1x0].toArray) w) ∧
  (∀ (a0 b0 : Int) (a1 b1 : Int) (x y : Operand) (w : World), (binV .eql 28 x y (.agg [.int .u64 a0, .int .u64 a1].toArray) (.agg [.int .u64 b0, .int .u64 b1].toArray)).run Try.prog w = .ok (.bool (((a0 == b0) && ((a1 == b1) && true)))) w) ∧
  (∀  (w : World), (Instr.build 24 [].toArray).run Try.prog w = .ok (.agg [(.bool false), (.bool false), (.bool false)].toArray) w) ∧
  (∀ (a0x0 : Bool) (a1x0 : Bool) (a2x0 : Bool) (w : World), (Instr.build 24 [(0, .bool a0x0), (1, .bool a1x0), (2, .bool a2x0)].toArray).run Try.prog w = .ok (.agg [.bool a0x0, .bool a1x0, .bool a2x0].toArray) w) ∧
  (∀ (b o : Nat) (w : World), (Instr.loadAt 24 (.pointer (some ⟨b, o, none⟩))).run Try.prog w = lnV Try.prog w b o 3 w.heap[b]?) ∧
  (∀ (w : World), (Instr.alloc 28 true (.tuple #[])).run Try.prog w = .ok (.pointer (some ⟨w.heap.size, 0, none⟩)) (w.alloc (.cells #[(.int .u64 0), (.int .u64 0)] 28))) ∧
  (∀ (b o : Nat) (vs : List Value) (w : World), vs.length = 2 → (Instr.storeAt 28 (.pointer (some ⟨b, o, none⟩)) (.agg vs.toArray)).run Try.prog w = snX Try.prog w b o vs w.heap[b]?) ∧
  (∀ (b o : Nat) (w : World), (Instr.loadAt 28 (.pointer (some ⟨b, o, none⟩))).run Try.prog w = lnV Try.prog w b o 2 w.heap[b]?) := ⟨RA_call_12, RA_al_24, RA_st_24, RA_eql_4, RA_fld_24_0, RA_ld_4, RA_fld_24_1, RA_fld_24_2, RA_call_13, RA_bl_28_0_1, RA_eql_28, RA_bl_24_, RA_bl_24_0_1_2, RA_ld_24, RA_al_28, RA_st_28, RA_ld_28⟩

end Go.Proofs.Ytlklhempbpphhaa
