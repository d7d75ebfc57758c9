/- The rules of operations of functions of this seat; conditions: none. -/
import Derived.Test.YtobkjnmdbkieeaaDoorProg
import Derived.Test.YtobkjnmdbkieeaaDoorSlices
import Derived.KernelRfl
namespace Go.Proofs.YtobkjnmdbkieeaaDoor
open Go.Fx
set_option linter.unusedVariables false
set_option linter.constructorNameAsVariable false
set_option maxRecDepth 100000
set_option maxHeartbeats 4000000
theorem RC_call_18 : ∀ (first cap args : List Value) (w : World) (K : Value → World → Prop), kN Tryd.prog (callN (.func (.func 18) first.toArray cap.toArray) args.toArray) w K = callsK Tryd.prog 18 (first ++ args ++ cap).toArray w K := Fx.kN_callf Tryd.call18
theorem RC_cv_2_42 : ∀ (k0 : IntKind) (a : Int) (w : World), (convert 2 42 (.int k0 a)).run Tryd.prog w = .ok (.int .u64 (IntKind.wrap .u64 a)) w := Fx.run_convert_int Tryd.underlying2 Tryd.underlying42
theorem RC_call_41 : ∀ (first cap args : List Value) (w : World) (K : Value → World → Prop), kN Tryd.prog (callN (.func (.func 41) first.toArray cap.toArray) args.toArray) w K = callsK Tryd.prog 41 (first ++ args ++ cap).toArray w K := Fx.kN_callf Tryd.call41
theorem RC_call_39 : ∀ (first cap args : List Value) (w : World) (K : Value → World → Prop), kN Tryd.prog (callN (.func (.func 39) first.toArray cap.toArray) args.toArray) w K = callsK Tryd.prog 39 (first ++ args ++ cap).toArray w K := Fx.kN_callf Tryd.call39
theorem RC_call_19 : ∀ (first cap args : List Value) (w : World) (K : Value → World → Prop), kN Tryd.prog (callN (.func (.func 19) first.toArray cap.toArray) args.toArray) w K = callsK Tryd.prog 19 (first ++ args ++ cap).toArray w K := Fx.kN_callf Tryd.call19
theorem RC_call_42 : ∀ (first cap args : List Value) (w : World) (K : Value → World → Prop), kN Tryd.prog (callN (.func (.func 42) first.toArray cap.toArray) args.toArray) w K = callsK Tryd.prog 42 (first ++ args ++ cap).toArray w K := Fx.kN_callf Tryd.call42
theorem RC_call_38 : ∀ (first cap args : List Value) (w : World) (K : Value → World → Prop), kN Tryd.prog (callN (.func (.func 38) first.toArray cap.toArray) args.toArray) w K = callsK Tryd.prog 38 (first ++ args ++ cap).toArray w K := Fx.kN_callf Tryd.call38
theorem RC_cv_42_2 : ∀ (k0 : IntKind) (a : Int) (w : World), (convert 42 2 (.int k0 a)).run Tryd.prog w = .ok (.int .i64 (IntKind.wrap .i64 a)) w := Fx.run_convert_int Tryd.underlying42 Tryd.underlying2
theorem rulesC : (∀ (first cap args : List Value) (w : World) (K : Value → World → Prop), kN Tryd.prog (callN (.func (.func 18) first.toArray cap.toArray) args.toArray) w K = callsK Tryd.prog 18 (first ++ args ++ cap).toArray w K) ∧
  (∀ (k0 : IntKind) (a : Int) (w : World), (convert 2 42 (.int k0 a)).run Tryd.prog w = .ok (.int .u64 (IntKind.wrap .u64 a)) w) ∧
  (∀ (first cap args : List Value) (w : World) (K : Value → World → Prop), kN Tryd.prog (callN (.func (.func 41) first.toArray cap.toArray) args.toArray) w K = callsK Tryd.prog 41 (first ++ args ++ cap).toArray w K) ∧
  (∀ (first cap args : List Value) (w : World) (K : Value → World → Prop), kN Tryd.prog (callN (.func (.func 39) first.toArray cap.toArray) args.toArray) w K = callsK Tryd.prog 39 (first ++ args ++ cap).toArray w K) ∧
  (∀ (first cap args : List Value) (w : World) (K : Value → World → Prop), kN Tryd.prog (callN (.func (.func 19) first.toArray cap.toArray) args.toArray) w K = callsK Tryd.prog 19 (first ++ args ++ cap).toArray w K) ∧
  (∀ (first cap args : List Value) (w : World) (K : Value → World → Prop), kN Tryd.prog (callN (.func (.func 42) first.toArray cap.toArray) args.toArray) w K = callsK Tryd.prog 42 (first ++ args ++ cap).toArray w K) ∧
  (∀ (first cap args : List Value) (w : World) (K : Value → World → Prop), kN Tryd.prog (callN (.func (.func 38) first.toArray cap.toArray) args.toArray) w K = callsK Tryd.prog 38 (first ++ args ++ cap).toArray w K) ∧
  (∀ (k0 : IntKind) (a : Int) (w : World), (convert 42 2 (.int k0 a)).run Tryd.prog w = .ok (.int .i64 (IntKind.wrap .i64 a)) w) := ⟨RC_call_18, RC_cv_2_42, RC_call_41, RC_call_39, RC_call_19, RC_call_42, RC_call_38, RC_cv_42_2⟩

end Go.Proofs.YtobkjnmdbkieeaaDoor
