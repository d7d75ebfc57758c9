/- The rules of operations of functions of this seat; conditions: none. -/
import Derived.Test.YtobkjnmdbkieeaaDoorProg
import Derived.Test.YtobkjnmdbkieeaaDoorSlices
import Derived.KernelRfl
namespace Go.Proofs.YtobkjnmdbkieeaaDoor
open Go.Fx
set_option linter.unusedVariables false
set_option linter.constructorNameAsVariable false
set_option maxRecDepth 100000
set_option maxHeartbeats 4000000
theorem RL_call_3 : ∀ (first cap args : List Value) (w : World) (K : Value → World → Prop), kN Tryd.prog (callN (.func (.func 3) first.toArray cap.toArray) args.toArray) w K = callsK Tryd.prog 3 (first ++ args ++ cap).toArray w K := Fx.kN_callf Tryd.call3
theorem RL_len_22 : ∀ (a : Option Addr) (len cap : Nat) (w : World), (Builtin.len_ #[22] 3 #[.slice a len cap]).run Tryd.prog w = .ok (.int .i64 len) w := Fx.run_len_slice Tryd.underlying22
theorem RL_sl_22 : ∀ (b o len cap : Nat) (lo hi mx : Option Value) (w : World), (Instr.sliceAt 22 (.slice (some ⟨b, o, none⟩) len cap) lo hi mx).run Tryd.prog w = ((Instr.sliceBounds true len cap lo hi mx).run Tryd.prog w).andThen fun x w1 => .ok (.slice (some (sAt b o x.2.2 x.1 5)) (x.2.1 - x.1) (x.2.2 - x.1)) w1 := Fx.sl_slc Tryd.underlying22 Tryd.sizeOf28
theorem RL_sln_22 : ∀ (len cap : Nat) (lo hi mx : Option Value) (w : World), (Instr.sliceAt 22 (.slice none len cap) lo hi mx).run Tryd.prog w = ((Instr.sliceBounds true len cap lo hi mx).run Tryd.prog w).andThen fun x w1 => .ok (.slice none (x.2.1 - x.1) (x.2.2 - x.1)) w1 := Fx.sl_nil Tryd.underlying22 Tryd.sizeOf28
theorem RL_ix_22 : ∀ (b o len cap : Nat) (k : IntKind) (i : Int) (w : World), 0 ≤ i ∧ i < len → (Instr.indexAt 22 (.slice (some ⟨b, o, none⟩) len cap) (.int k i)).run Tryd.prog w = .ok (.pointer (some ⟨b, o + i.toNat * 5, none⟩)) w := Fx.run_index_slice Tryd.underlying22 Tryd.sizeOf28
theorem RL_ld_28 : ∀ (b o : Nat) (w : World), (Instr.loadAt 28 (.pointer (some ⟨b, o, none⟩))).run Tryd.prog w = lnV Tryd.prog w b o 5 w.heap[b]? := Fx.run_loadN' Tryd.isAgg28 Tryd.sizeOf28
theorem RL_call_5 : ∀ (first cap args : List Value) (w : World) (K : Value → World → Prop), kN Tryd.prog (callN (.func (.func 5) first.toArray cap.toArray) args.toArray) w K = callsK Tryd.prog 5 (first ++ args ++ cap).toArray w K := Fx.kN_callf Tryd.call5
theorem RL_call_6 : ∀ (first cap args : List Value) (w : World) (K : Value → World → Prop), kN Tryd.prog (callN (.func (.func 6) first.toArray cap.toArray) args.toArray) w K = callsK Tryd.prog 6 (first ++ args ++ cap).toArray w K := Fx.kN_callf Tryd.call6
theorem RL_call_7 : ∀ (first cap args : List Value) (w : World) (K : Value → World → Prop), kN Tryd.prog (callN (.func (.func 7) first.toArray cap.toArray) args.toArray) w K = callsK Tryd.prog 7 (first ++ args ++ cap).toArray w K := Fx.kN_callf Tryd.call7
theorem RL_al_28 : ∀ (w : World), (Instr.alloc 28 true (.tuple #[])).run Tryd.prog w = .ok (.pointer (some ⟨w.heap.size, 0, none⟩)) (w.alloc (.cells #[(.int .i64 0), (.int .i64 0), (.int .i64 0), (.int .i64 0), (.int .i64 0)] 28)) := Fx.run_alloc Tryd.zeroValue28
theorem RL_st_28 : ∀ (b o : Nat) (vs : List Value) (w : World), vs.length = 5 → (Instr.storeAt 28 (.pointer (some ⟨b, o, none⟩)) (.agg vs.toArray)).run Tryd.prog w = snX Tryd.prog w b o vs w.heap[b]? := Fx.run_storeN' Tryd.sizeOf28
theorem RL_neq_4 : ∀ (x y : Operand) (a b : Bool) (w : World), (binV .neq 4 x y (.bool a) (.bool b)).run Tryd.prog w = .ok (.bool (!(a == b))) w := Fx.run_neqB Tryd.underlying4
theorem RL_bs_23_1 : ∀ (v0 : Value) (w : World), [v0].all (fun v => v.oneCell') = true → (Instr.buildSlice 23 1 [(0, v0)].toArray).run Tryd.prog w = .ok (.slice (some ⟨w.heap.size, 0, none⟩) 1 1) (w.alloc (.cells [v0].toArray 24)) := fun v0 w h => Fx.run_bsS Tryd.underlying23 (by kernel_rfl) [v0] (List.all_eq_true.1 h) (by simp) w
theorem RL_call_8 : ∀ (first cap args : List Value) (w : World) (K : Value → World → Prop), kN Tryd.prog (callN (.func (.func 8) first.toArray cap.toArray) args.toArray) w K = callsK Tryd.prog 8 (first ++ args ++ cap).toArray w K := Fx.kN_callf Tryd.call8
theorem RL_len_23 : ∀ (a : Option Addr) (len cap : Nat) (w : World), (Builtin.len_ #[23] 3 #[.slice a len cap]).run Tryd.prog w = .ok (.int .i64 len) w := Fx.run_len_slice Tryd.underlying23
theorem RL_ix_23 : ∀ (b o len cap : Nat) (k : IntKind) (i : Int) (w : World), 0 ≤ i ∧ i < len → (Instr.indexAt 23 (.slice (some ⟨b, o, none⟩) len cap) (.int k i)).run Tryd.prog w = .ok (.pointer (some ⟨b, o + i.toNat * 1, none⟩)) w := Fx.run_index_slice Tryd.underlying23 Tryd.sizeOf24
theorem RL_ld_24 : ∀ (b o : Nat) (w : World), (Instr.loadAt 24 (.pointer (some ⟨b, o, none⟩))).run Tryd.prog w = ldX Tryd.prog w b o w.heap[b]? := Fx.run_load1' Tryd.isAgg24
theorem RL_call_9 : ∀ (first cap args : List Value) (w : World) (K : Value → World → Prop), kN Tryd.prog (callN (.func (.func 9) first.toArray cap.toArray) args.toArray) w K = callsK Tryd.prog 9 (first ++ args ++ cap).toArray w K := Fx.kN_callf Tryd.call9
theorem rulesL : (∀ (first cap args : List Value) (w : World) (K : Value → World → Prop), kN Tryd.prog (callN (.func (.func 3) first.toArray cap.toArray) args.toArray) w K = callsK Tryd.prog 3 (first ++ args ++ cap).toArray w K) ∧
  (∀ (a : Option Addr) (len cap : Nat) (w : World), (Builtin.len_ #[22] 3 #[.slice a len cap]).run Tryd.prog w = .ok (.int .i64 len) w) ∧
  (∀ (b o len cap : Nat) (lo hi mx : Option Value) (w : World), (Instr.sliceAt 22 (.slice (some ⟨b, o, none⟩) len cap) lo hi mx).run Tryd.prog w = ((Instr.sliceBounds true len cap lo hi mx).run Tryd.prog w).andThen fun x w1 => .ok (.slice (some (sAt b o x.2.2 x.1 5)) (x.2.1 - x.1) (x.2.2 - x.1)) w1) ∧
  (∀ (len cap : Nat) (lo hi mx : Option Value) (w : World), (Instr.sliceAt 22 (.slice none len cap) lo hi mx).run Tryd.prog w = ((Instr.sliceBounds true len cap lo hi mx).run Tryd.prog w).andThen fun x w1 => .ok (.slice none (x.2.1 - x.1) (x.2.2 - x.1)) w1) ∧
  (∀ (b o len cap : Nat) (k : IntKind) (i : Int) (w : World), 0 ≤ i ∧ i < len → (Instr.indexAt 22 (.slice (some ⟨b, o, none⟩) len cap) (.int k i)).run Tryd.prog w = .ok (.pointer (some ⟨b, o + i.toNat * 5, none⟩)) w) ∧
  (∀ (b o : Nat) (w : World), (Instr.loadAt 28 (.pointer (some ⟨b, o, none⟩))).run Tryd.prog w = lnV Tryd.prog w b o 5 w.heap[b]?) ∧
  (∀ (first cap args : List Value) (w : World) (K : Value → World → Prop), kN Tryd.prog (callN (.func (.func 5) first.toArray cap.toArray) args.toArray) w K = callsK Tryd.prog 5 (first ++ args ++ cap).toArray w K) ∧
  (∀ (first cap args : List Value) (w : World) (K : Value → World → Prop), kN Tryd.prog (callN (.func (.func 6) first.toArray cap.toArray) args.toArray) w K = callsK Tryd.prog 6 (first ++ args ++ cap).toArray w K) ∧
  (∀ (first cap args : List Value) (w : World) (K : Value → World → Prop), kN Tryd.prog (callN (.func (.func 7) first.toArray cap.toArray) args.toArray) w K = callsK Tryd.prog 7 (first ++ args ++ cap).toArray w K) ∧
  (∀ (w : World), (Instr.alloc 28 true (.tuple #[])).run Tryd.prog w = .ok (.pointer (some ⟨w.heap.size, 0, none⟩)) (w.alloc (.cells #[(.int .i64 0), (.int .i64 0), (.int .i64 0), (.int .i64 0), (.int .i64 0)] 28))) ∧
  (∀ (b o : Nat) (vs : List Value) (w : World), vs.length = 5 → (Instr.storeAt 28 (.pointer (some ⟨b, o, none⟩)) (.agg vs.toArray)).run Tryd.prog w = snX Tryd.prog w b o vs w.heap[b]?) ∧
  (∀ (x y : Operand) (a b : Bool) (w : World), (binV .neq 4 x y (.bool a) (.bool b)).run Tryd.prog w = .ok (.bool (!(a == b))) w) ∧
  (∀ (v0 : Value) (w : World), [v0].all (fun v => v.oneCell') = true → (Instr.buildSlice 23 1 [(0, v0)].toArray).run Tryd.prog w = .ok (.slice (some ⟨w.heap.size, 0, none⟩) 1 1) (w.alloc (.cells [v0].toArray 24))) ∧
  (∀ (first cap args : List Value) (w : World) (K : Value → World → Prop), kN Tryd.prog (callN (.func (.func 8) first.toArray cap.toArray) args.toArray) w K = callsK Tryd.prog 8 (first ++ args ++ cap).toArray w K) ∧
  (∀ (a : Option Addr) (len cap : Nat) (w : World), (Builtin.len_ #[23] 3 #[.slice a len cap]).run Tryd.prog w = .ok (.int .i64 len) w) ∧
  (∀ (b o len cap : Nat) (k : IntKind) (i : Int) (w : World), 0 ≤ i ∧ i < len → (Instr.indexAt 23 (.slice (some ⟨b, o, none⟩) len cap) (.int k i)).run Tryd.prog w = .ok (.pointer (some ⟨b, o + i.toNat * 1, none⟩)) w) ∧
  (∀ (b o : Nat) (w : World), (Instr.loadAt 24 (.pointer (some ⟨b, o, none⟩))).run Tryd.prog w = ldX Tryd.prog w b o w.heap[b]?) ∧
  (∀ (first cap args : List Value) (w : World) (K : Value → World → Prop), kN Tryd.prog (callN (.func (.func 9) first.toArray cap.toArray) args.toArray) w K = callsK Tryd.prog 9 (first ++ args ++ cap).toArray w K) := ⟨RL_call_3, RL_len_22, RL_sl_22, RL_sln_22, RL_ix_22, RL_ld_28, RL_call_5, RL_call_6, RL_call_7, RL_al_28, RL_st_28, RL_neq_4, RL_bs_23_1, RL_call_8, RL_len_23, RL_ix_23, RL_ld_24, RL_call_9⟩

end Go.Proofs.YtobkjnmdbkieeaaDoor
