/- The formulas of functions of this seat, each tied to its calls; conditions: none. -/
import Derived.Test.YtgnibcaflidjmaaProg
import Derived.Test.YtgnibcaflidjmaaFx
import Derived.KernelRfl
namespace Go.Proofs.Ytgnibcaflidjmaa
open Go.Fx
set_option linter.unusedVariables false
set_option linter.constructorNameAsVariable false
set_option maxRecDepth 100000
theorem mixedV : Try.prog.follows .mixedOrders = true := by kernel_rfl
/-- mintmark/mintmarklaw25.PaintBack -/
def F7 (P : Program) (t0 t1 : Value) (w : World) (K : Value → World → Prop) : Prop :=
  kV P (Instr.box 47 t1) w fun v3 w =>
  joinL (fun J0 =>
  kV P (Builtin.len_ #[55] 3 #[t0]) w fun v16 w =>
  kV P (binV .gtr 3 (.tmp 16) (.const (.int .i64 12)) v16 (.int .i64 12)) w fun v17 w =>
  condK v17
  (kV P (Instr.sliceAt 55 t0 none (some (.int .i64 12)) none) w fun v19 w =>
  J0 [v19] w)
  (J0 [t0] w)) fun s0 w => ∀ _ : Nat → Value,
  kV P (Instr.alloc 50 true (.tuple #[])) w fun v5 w =>
  kV P (Instr.alloc 50 true (.tuple #[])) w fun v6 w =>
  kV P (Instr.loadAt 50 v5) w fun v20 w =>
  kN P (callN (.func (.func 18) #[] #[]) #[v20, (s0.getD 0 undef)]) w fun v22 w =>
  kU P (Instr.storeAt 50 v5 v22) w fun _ w =>
  loopT (fun R2 s2 w => ∀ _ : Nat → Value,
  kV P (Builtin.len_ #[55] 3 #[(s0.getD 0 undef)]) w fun v25 w =>
  kV P (binV .lss 3 (.tmp 23) (.tmp 25) (s2.getD 0 undef) v25) w fun v26 w =>
  condK v26
  (joinL (fun J4 =>
  drewK (fun w =>
  relX fun R6 =>
  postX R6 (fun p6_29 => allX R6 w fun V6 w => True → kV P (Instr.loadAt 50 v6) w (okX R6 w p6_29)) fun p6_29 =>
  postX R6 (fun p6_30 => allX R6 w fun V6 w => True → (okX R6 w p6_30) (s0.getD 0 undef) w) fun p6_30 =>
  postX R6 (fun p6_31 => allX R6 w fun V6 w => True → (okX R6 w p6_31) (s2.getD 0 undef) w) fun p6_31 =>
  postX R6 (fun p6_32 => allX R6 w fun V6 w => p6_30 (V6 30) w ∧ p6_31 (V6 31) w ∧ True → kV P (Instr.indexAt 55 (V6 30) (V6 31)) w (okX R6 w p6_32)) fun p6_32 =>
  postX R6 (fun p6_33 => allX R6 w fun V6 w => p6_32 (V6 32) w ∧ True → kV P (Instr.loadAt 47 (V6 32)) w (okX R6 w p6_33)) fun p6_33 =>
  postX R6 (fun p6_34 => allX R6 w fun V6 w => p6_33 (V6 33) w ∧ True → kV P (Instr.buildSlice 55 1 #[(0, (V6 33))]) w (okX R6 w p6_34)) fun p6_34 =>
  allX R6 w fun V6 w => p6_29 (V6 29) w ∧ p6_30 (V6 30) w ∧ p6_31 (V6 31) w ∧ p6_32 (V6 32) w ∧ p6_33 (V6 33) w ∧ p6_34 (V6 34) w ∧ True → xDist V6 [] →
  kN P (callN (.func (.func 18) #[] #[]) #[(V6 29), (V6 34)]) w fun v35 w =>
  kU P (Instr.storeAt 50 v6 v35) w fun _ w =>
  J4 [] w) w) fun s4 w => ∀ _ : Nat → Value,
  kV P (binV .add 3 (.tmp 27) (.const (.int .i64 1)) (s2.getD 0 undef) (.int .i64 1)) w fun v28 w =>
  R2 [v28] w)
  (kV P (Instr.build 50 #[]) w fun v36 w =>
  kV P (Instr.loadAt 50 v5) w fun v37 w =>
  kN P (callN (.func (.func 23) #[] #[]) #[v37]) w fun v38 w =>
  kN P (callN (.func (.func 18) #[] #[]) #[v36, v38]) w fun v39 w =>
  kV P (Instr.alloc 50 true (.tuple #[])) w fun v8 w =>
  kU P (Instr.storeAt 50 v8 v39) w fun _ w =>
  joinL (fun J7 =>
  drewK (fun w =>
  relX fun R21 =>
  postX R21 (fun p21_40 => allX R21 w fun V21 w => True → kV P (Instr.loadAt 50 v5) w (okX R21 w p21_40)) fun p21_40 =>
  postX R21 (fun p21_41 => allX R21 w fun V21 w => p21_40 (V21 40) w ∧ True → kN P (callN (.func (.func 21) #[] #[]) #[(V21 40)]) w (okX R21 w p21_41)) fun p21_41 =>
  postX R21 (fun p21_42 => allX R21 w fun V21 w => True → kV P (Instr.loadAt 50 v6) w (okX R21 w p21_42)) fun p21_42 =>
  postX R21 (fun p21_43 => allX R21 w fun V21 w => p21_41 (V21 41) w ∧ p21_42 (V21 42) w ∧ True → kN P (callN (.func (.func 21) #[] #[]) #[(V21 42)]) w (okX R21 w p21_43)) fun p21_43 =>
  postX R21 (fun p21_44 => allX R21 w fun V21 w => p21_41 (V21 41) w ∧ p21_43 (V21 43) w ∧ True → kV P (binV .neq 3 (.tmp 41) (.tmp 43) (V21 41) (V21 43)) w (okX R21 w p21_44)) fun p21_44 =>
  postX R21 (fun p21_45 => allX R21 w fun V21 w => p21_43 (V21 43) w ∧ p21_44 (V21 44) w ∧ True → (okX R21 w p21_45) (V21 44) w) fun p21_45 =>
  postX R21 (fun p21_46 => allX R21 w fun V21 w => p21_45 (V21 45) w ∧ True → gdK (yb (V21 45)) false (fun k => kV P (Instr.loadAt 50 v8) w k) w (okX R21 w p21_46)) fun p21_46 =>
  postX R21 (fun p21_47 => allX R21 w fun V21 w => p21_45 (V21 45) w ∧ p21_46 (V21 46) w ∧ True → gdK (yb (V21 45)) false (fun k => kN P (callN (.func (.func 21) #[] #[]) #[(V21 46)]) w k) w (okX R21 w p21_47)) fun p21_47 =>
  postX R21 (fun p21_48 => allX R21 w fun V21 w => p21_45 (V21 45) w ∧ True → gdK (yb (V21 45)) false (fun k => kV P (Instr.loadAt 50 v5) w k) w (okX R21 w p21_48)) fun p21_48 =>
  postX R21 (fun p21_49 => allX R21 w fun V21 w => p21_45 (V21 45) w ∧ p21_47 (V21 47) w ∧ p21_48 (V21 48) w ∧ True → gdK (yb (V21 45)) false (fun k => kN P (callN (.func (.func 21) #[] #[]) #[(V21 48)]) w k) w (okX R21 w p21_49)) fun p21_49 =>
  postX R21 (fun p21_50 => allX R21 w fun V21 w => p21_45 (V21 45) w ∧ p21_47 (V21 47) w ∧ p21_49 (V21 49) w ∧ True → gdK (yb (V21 45)) false (fun k => kV P (binV .neq 3 (.tmp 47) (.tmp 49) (V21 47) (V21 49)) w k) w (okX R21 w p21_50)) fun p21_50 =>
  postX R21 (fun p21_51 => allX R21 w fun V21 w => p21_45 (V21 45) w ∧ p21_49 (V21 49) w ∧ p21_50 (V21 50) w ∧ True → gdK (yb (V21 45)) false (fun k => k (V21 50) w) w (okX R21 w p21_51)) fun p21_51 =>
  postX R21 (fun p21_52 => allX R21 w fun V21 w => p21_51 (V21 51) w ∧ True → gdK (yb (V21 51)) true (fun k => kV P (Instr.loadAt 50 v5) w k) w (okX R21 w p21_52)) fun p21_52 =>
  postX R21 (fun p21_53 => allX R21 w fun V21 w => p21_51 (V21 51) w ∧ p21_52 (V21 52) w ∧ True → gdK (yb (V21 51)) true (fun k => kN P (callN (.func (.func 23) #[] #[]) #[(V21 52)]) w k) w (okX R21 w p21_53)) fun p21_53 =>
  postX R21 (fun p21_54 => allX R21 w fun V21 w => p21_51 (V21 51) w ∧ p21_53 (V21 53) w ∧ True → gdK (yb (V21 51)) true (fun k => kN P (callN (.func (.func 24) #[] #[]) #[(V21 53)]) w k) w (okX R21 w p21_54)) fun p21_54 =>
  postX R21 (fun p21_55 => allX R21 w fun V21 w => p21_45 (V21 45) w ∧ p21_51 (V21 51) w ∧ p21_54 (V21 54) w ∧ True → gdK (yb (V21 45)) false (fun k => kN P (pickN (V21 51) (V21 54) (.bool false)) w k) w (okX R21 w p21_55)) fun p21_55 =>
  postX R21 (fun p21_56 => allX R21 w fun V21 w => p21_45 (V21 45) w ∧ p21_55 (V21 55) w ∧ True → kN P (pickN (V21 45) (.bool true) (V21 55)) w (okX R21 w p21_56)) fun p21_56 =>
  allX R21 w fun V21 w => p21_40 (V21 40) w ∧ p21_41 (V21 41) w ∧ p21_42 (V21 42) w ∧ p21_43 (V21 43) w ∧ p21_44 (V21 44) w ∧ p21_45 (V21 45) w ∧ p21_46 (V21 46) w ∧ p21_47 (V21 47) w ∧ p21_48 (V21 48) w ∧ p21_49 (V21 49) w ∧ p21_50 (V21 50) w ∧ p21_51 (V21 51) w ∧ p21_52 (V21 52) w ∧ p21_53 (V21 53) w ∧ p21_54 (V21 54) w ∧ p21_55 (V21 55) w ∧ p21_56 (V21 56) w ∧ True → xDist V21 [] →
  J7 [(V21 56)] w) w) fun s7 w => ∀ _ : Nat → Value,
  condK (s7.getD 0 undef)
  (K (.bool false) w)
  (kV P (Instr.fieldAt 47 v3 0) w fun v57 w =>
  kV P (Instr.loadAt 28 v57) w fun v58 w =>
  kV P (Instr.fieldAt 47 v3 1) w fun v59 w =>
  kV P (Instr.loadAt 28 v59) w fun v60 w =>
  kV P (binV .lss 28 (.tmp 58) (.tmp 60) v58 v60) w fun v61 w =>
  joinK (fun J9 : Value → World → Prop => gdK (yb v61) true (fun k => kV P (Instr.fieldAt 47 v3 1) w k) w fun v63 w =>
  gdK (yb v61) true (fun k => kV P (Instr.loadAt 28 v63) w k) w fun v64 w =>
  gdK (yb v61) true (fun k => kV P (binV .leq 28 (.tmp 64) (.const (.int .u64 274877906944)) v64 (.int .u64 274877906944)) w k) w fun v65 w =>
  kN P (pickN v61 v65 (.bool false)) w fun v66_1 w =>
  J9 v66_1 w) fun v66 w =>
  joinK (fun J10 : Value → World → Prop => gdK (yb v66) true (fun k => kV P (Instr.fieldAt 47 v3 1) w k) w fun v68 w =>
  gdK (yb v66) true (fun k => kV P (Instr.loadAt 28 v68) w k) w fun v69 w =>
  gdK (yb v66) true (fun k => kV P (Instr.fieldAt 47 v3 0) w k) w fun v70 w =>
  gdK (yb v66) true (fun k => kV P (Instr.loadAt 28 v70) w k) w fun v71 w =>
  gdK (yb v66) true (fun k => kV P (binV .sub 28 (.tmp 69) (.tmp 71) v69 v71) w k) w fun v72 w =>
  gdK (yb v66) true (fun k => kV P (binV .leq 28 (.tmp 72) (.const (.int .u64 100000)) v72 (.int .u64 100000)) w k) w fun v73 w =>
  kN P (pickN v66 v73 (.bool false)) w fun v74_1 w =>
  J10 v74_1 w) fun v74 w =>
  joinL (fun J11 =>
  condK v74
  (joinL (fun J15 =>
  drewK (fun w =>
  relX fun R20 =>
  postX R20 (fun p20_76 => allX R20 w fun V20 w => True → kV P (Instr.loadAt 50 v5) w (okX R20 w p20_76)) fun p20_76 =>
  postX R20 (fun p20_77 => allX R20 w fun V20 w => True → kV P (Instr.loadAt 47 v3) w (okX R20 w p20_77)) fun p20_77 =>
  postX R20 (fun p20_78 => allX R20 w fun V20 w => p20_77 (V20 77) w ∧ True → kV P (Instr.buildSlice 55 1 #[(0, (V20 77))]) w (okX R20 w p20_78)) fun p20_78 =>
  postX R20 (fun p20_79 => allX R20 w fun V20 w => p20_76 (V20 76) w ∧ p20_78 (V20 78) w ∧ True → kN P (callN (.func (.func 18) #[] #[]) #[(V20 76), (V20 78)]) w (okX R20 w p20_79)) fun p20_79 =>
  postX R20 (fun p20_80 => allX R20 w fun V20 w => True → kV P (Instr.loadAt 50 v5) w (okX R20 w p20_80)) fun p20_80 =>
  postX R20 (fun p20_81 => allX R20 w fun V20 w => True → kV P (Instr.loadAt 47 v3) w (okX R20 w p20_81)) fun p20_81 =>
  postX R20 (fun p20_82 => allX R20 w fun V20 w => p20_81 (V20 81) w ∧ True → kV P (Instr.buildSlice 55 1 #[(0, (V20 81))]) w (okX R20 w p20_82)) fun p20_82 =>
  postX R20 (fun p20_83 => allX R20 w fun V20 w => p20_79 (V20 79) w ∧ p20_80 (V20 80) w ∧ p20_82 (V20 82) w ∧ True → kN P (callN (.func (.func 19) #[] #[]) #[(V20 80), (V20 82)]) w (okX R20 w p20_83)) fun p20_83 =>
  postX R20 (fun p20_10 => allX R20 w fun V20 w => True → kV P (Instr.alloc 50 true (.tuple #[])) w (okX R20 w p20_10)) fun p20_10 =>
  postX R20 (fun p20_11 => allX R20 w fun V20 w => True → kV P (Instr.alloc 50 true (.tuple #[])) w (okX R20 w p20_11)) fun p20_11 =>
  allX R20 w fun V20 w => p20_76 (V20 76) w ∧ p20_77 (V20 77) w ∧ p20_78 (V20 78) w ∧ p20_79 (V20 79) w ∧ p20_80 (V20 80) w ∧ p20_81 (V20 81) w ∧ p20_82 (V20 82) w ∧ p20_83 (V20 83) w ∧ p20_10 (V20 10) w ∧ p20_11 (V20 11) w ∧ True → xDist V20 [10, 11] →
  kU P (Instr.storeAt 50 (V20 10) (V20 79)) w fun _ w =>
  kU P (Instr.storeAt 50 (V20 11) (V20 83)) w fun _ w =>
  J15 [(V20 10), (V20 11)] w) w) fun s15 w => ∀ _ : Nat → Value,
  loopT (fun R17 s17 w => ∀ _ : Nat → Value,
  kV P (binV .lss 28 (.tmp 84) (.const (.int .u64 5)) (s17.getD 0 undef) (.int .u64 5)) w fun v85 w =>
  condK v85
  (kV P (Instr.fieldAt 47 v3 0) w fun v88 w =>
  kV P (Instr.loadAt 28 v88) w fun v89 w =>
  kV P (Instr.fieldAt 47 v3 1) w fun v90 w =>
  kV P (Instr.loadAt 28 v90) w fun v91 w =>
  kV P (Instr.fieldAt 47 v3 0) w fun v92 w =>
  kV P (Instr.loadAt 28 v92) w fun v93 w =>
  kV P (binV .sub 28 (.tmp 91) (.tmp 93) v91 v93) w fun v94 w =>
  kV P (binV .sub 28 (.tmp 94) (.const (.int .u64 1)) v94 (.int .u64 1)) w fun v95 w =>
  kV P (binV .mul 28 (.tmp 95) (.tmp 96) v95 (s17.getD 0 undef)) w fun v97 w =>
  kV P (binV .quo 28 (.tmp 97) (.const (.int .u64 4)) v97 (.int .u64 4)) w fun v98 w =>
  kV P (binV .add 28 (.tmp 89) (.tmp 98) v89 v98) w fun v99 w =>
  kV P (Instr.loadAt 50 (s15.getD 0 undef)) w fun v100 w =>
  kN P (callN (.func (.func 20) #[] #[]) #[v100, v99]) w fun v102 w =>
  kV P (Op.unary .not v102) w fun v103 w =>
  joinK (fun J19 : Value → World → Prop => gdK (yb v103) false (fun k => kV P (Instr.loadAt 50 (s15.getD 1 undef)) w k) w fun v105 w =>
  gdK (yb v103) false (fun k => k v99 w) w fun v106 w =>
  gdK (yb v103) false (fun k => kN P (callN (.func (.func 20) #[] #[]) #[v105, v106]) w k) w fun v107 w =>
  kN P (pickN v103 (.bool true) v107) w fun v108_1 w =>
  J19 v108_1 w) fun v108 w =>
  condK v108
  (K (.bool false) w)
  (kV P (binV .add 28 (.tmp 86) (.const (.int .u64 1)) (s17.getD 0 undef) (.int .u64 1)) w fun v87 w =>
  R17 [v87] w))
  (J11 [] w)) [(.int .u64 0)] w)
  (J11 [] w)) fun s11 w => ∀ _ : Nat → Value,
  kV P (Instr.loadAt 50 v5) w fun v109 w =>
  kN P (callN (.func (.func 19) #[] #[]) #[v109, (s0.getD 0 undef)]) w fun v111 w =>
  kV P (Instr.alloc 50 true (.tuple #[])) w fun v14 w =>
  kU P (Instr.storeAt 50 v14 v111) w fun _ w =>
  kV P (Instr.loadAt 50 v14) w fun v112 w =>
  kN P (callN (.func (.func 21) #[] #[]) #[v112]) w fun v113 w =>
  kV P (binV .eql 3 (.tmp 113) (.const (.int .i64 0)) v113 (.int .i64 0)) w fun v114 w =>
  joinK (fun J13 : Value → World → Prop => gdK (yb v114) true (fun k => kV P (Instr.loadAt 50 v14) w k) w fun v116 w =>
  gdK (yb v114) true (fun k => kN P (callN (.func (.func 23) #[] #[]) #[v116]) w k) w fun v117 w =>
  gdK (yb v114) true (fun k => kV P (Builtin.len_ #[55] 3 #[v117]) w k) w fun v118 w =>
  gdK (yb v114) true (fun k => kV P (binV .eql 3 (.tmp 118) (.const (.int .i64 0)) v118 (.int .i64 0)) w k) w fun v119 w =>
  kN P (pickN v114 v119 (.bool false)) w fun v120_1 w =>
  J13 v120_1 w) fun v120 w =>
  joinK (fun J14 : Value → World → Prop => gdK (yb v120) true (fun k => kN P (callN (.func (.func 22) #[] #[]) #[]) w k) w fun v122 w =>
  kN P (pickN v120 v122 (.bool false)) w fun v123_1 w =>
  J14 v123_1 w) fun v123 w =>
  K v123 w))) [(.int .i64 0)] w
theorem F7_eq (P : Program) (t0 t1 : Value) (w : World) (K : Value → World → Prop) : funE P ⟨[(10, 1017), (14, 1010), (8, 1006)], [(6, [7]), (16, [12])], [(3, [0]), (11, [56]), (21, []), (15, [10, 11]), (7, [])]⟩ Try.f7 [t0, t1] w K = F7 P t0 t1 w K := by kernel_rfl
theorem F7_ok (t0 t1 : Value) (w : World) (K : Value → World → Prop) (h : F7 Try.prog t0 t1 w K) : callsK Try.prog 7 #[t0, t1] w K := calls_of_eq mixedV Try.func7 (F7_eq _ t0 t1 w K) h

/-- (mintmark/paint.Bitmap).Spans -/
def F23 (P : Program) (t0 : Value) (w : World) (K : Value → World → Prop) : Prop :=
  kV P (Instr.box 50 t0) w fun v1 w =>
  kV P (Instr.fieldAt 50 v1 0) w fun v10 w =>
  kV P (Instr.loadAt 48 v10) w fun v11 w =>
  kN P (callN (.func (.func 48) #[] #[]) #[v11]) w fun v12 w =>
  kN P (callN (.func (.func 47) #[] #[]) #[v12]) w fun v13 w =>
  kV P (Builtin.len_ #[93] 3 #[v13]) w fun v14 w =>
  loopT (fun R0 s0 w => ∀ _ : Nat → Value,
  kV P (binV .lss 3 (.tmp 15) (.tmp 14) (s0.getD 1 undef) v14) w fun v16 w =>
  condK v16
  (kV P (Instr.indexAt 93 v13 (s0.getD 1 undef)) w fun v17 w =>
  kV P (Instr.loadAt 28 v17) w fun v18 w =>
  kV P (Instr.fieldAt 50 v1 0) w fun v19 w =>
  kV P (Instr.loadAt 48 v19) w fun v20 w =>
  kV P (Instr.lookup 48 v20 v18 false) w fun v22 w =>
  kN P (callN (.func (.func 49) #[] #[]) #[v22]) w fun v23 w =>
  kV P (Builtin.len_ #[98] 3 #[v23]) w fun v24 w =>
  loopT (fun R2 s2 w => ∀ _ : Nat → Value,
  kV P (binV .lss 3 (.tmp 25) (.tmp 24) (s2.getD 1 undef) v24) w fun v26 w =>
  condK v26
  (joinL (fun J4 =>
  kV P (Instr.indexAt 98 v23 (s2.getD 1 undef)) w fun v27 w =>
  kV P (Instr.loadAt 3 v27) w fun v28 w =>
  kV P (binV .mul 28 (.tmp 29) (.const (.int .u64 4096)) v18 (.int .u64 4096)) w fun v30 w =>
  kV P (convert 3 28 v28) w fun v32 w =>
  kV P (binV .mul 28 (.tmp 32) (.const (.int .u64 16)) v32 (.int .u64 16)) w fun v33 w =>
  kV P (binV .add 28 (.tmp 30) (.tmp 33) v30 v33) w fun v34 w =>
  kV P (Builtin.len_ #[55] 3 #[(s2.getD 0 undef)]) w fun v36 w =>
  kV P (binV .sub 3 (.tmp 36) (.const (.int .i64 1)) v36 (.int .i64 1)) w fun v37 w =>
  kV P (binV .geq 3 (.tmp 38) (.const (.int .i64 0)) v37 (.int .i64 0)) w fun v39 w =>
  joinK (fun J6 : Value → World → Prop => gdK (yb v39) true (fun k => k (s2.getD 0 undef) w) w fun v41 w =>
  gdK (yb v39) true (fun k => k v37 w) w fun v42 w =>
  gdK (yb v39) true (fun k => kV P (Instr.indexAt 55 v41 v42) w k) w fun v43 w =>
  gdK (yb v39) true (fun k => kV P (Instr.fieldAt 47 v43 1) w k) w fun v44 w =>
  gdK (yb v39) true (fun k => kV P (Instr.loadAt 28 v44) w k) w fun v45 w =>
  gdK (yb v39) true (fun k => k v34 w) w fun v46 w =>
  gdK (yb v39) true (fun k => kV P (binV .eql 28 (.tmp 45) (.tmp 46) v45 v46) w k) w fun v47 w =>
  kN P (pickN v39 v47 (.bool false)) w fun v48_1 w =>
  J6 v48_1 w) fun v48 w =>
  condK v48
  (kV P (binV .add 28 (.tmp 51) (.const (.int .u64 16)) v34 (.int .u64 16)) w fun v52 w =>
  kV P (Instr.indexAt 55 (s2.getD 0 undef) v37) w fun v53 w =>
  kV P (Instr.fieldAt 47 v53 1) w fun v54 w =>
  kU P (Instr.storeAt 28 v54 v52) w fun _ w =>
  J4 [(s2.getD 0 undef)] w)
  (kV P (binV .add 28 (.tmp 57) (.const (.int .u64 16)) v34 (.int .u64 16)) w fun v58 w =>
  kV P (Instr.build 47 #[(0, v34), (1, v58)]) w fun v59 w =>
  kV P (Instr.buildSlice 55 1 #[(0, v59)]) w fun v60 w =>
  kV P (Builtin.append_ #[55, 55] 55 #[(s2.getD 0 undef), v60]) w fun v61 w =>
  J4 [v61] w)) fun s4 w => ∀ _ : Nat → Value,
  kV P (binV .add 3 (.tmp 25) (.const (.int .i64 1)) (s2.getD 1 undef) (.int .i64 1)) w fun v62 w =>
  R2 [(s4.getD 0 undef), v62] w)
  (kV P (binV .add 3 (.tmp 15) (.const (.int .i64 1)) (s0.getD 1 undef) (.int .i64 1)) w fun v63 w =>
  R0 [(s2.getD 0 undef), v63] w)) [(s0.getD 0 undef), (.int .i64 0)] w)
  (K (s0.getD 0 undef) w)) [(.slice none 0 0), (.int .i64 0)] w
theorem F23_eq (P : Program) (t0 : Value) (w : World) (K : Value → World → Prop) : funE P ⟨[], [(3, [3, 15]), (6, [3, 25])], [(13, [3])]⟩ Try.f23 [t0] w K = F23 P t0 w K := by kernel_rfl
theorem F23_ok (t0 : Value) (w : World) (K : Value → World → Prop) (h : F23 Try.prog t0 w K) : callsK Try.prog 23 #[t0] w K := calls_of_eq mixedV Try.func23 (F23_eq _ t0 w K) h

/-- mintmark/mintmarklaw25.few -/
def F24 (P : Program) (t0 : Value) (w : World) (K : Value → World → Prop) : Prop :=
  loopT (fun R0 s0 w => ∀ _ : Nat → Value,
  kV P (Builtin.len_ #[55] 3 #[t0]) w fun v6 w =>
  kV P (binV .lss 3 (.tmp 4) (.tmp 6) (s0.getD 0 undef) v6) w fun v7 w =>
  condK v7
  (drewK (fun w =>
  sV P (Instr.indexAt 55 t0 (s0.getD 0 undef)) w fun v12 =>
  sV P (Instr.fieldAt 47 v12 1) w fun v13 =>
  sV P (Instr.loadAt 28 v13) w fun v14 =>
  sV P (binV .sub 28 (.tmp 14) (.const (.int .u64 1)) v14 (.int .u64 1)) w fun v15 =>
  sV P (binV .quo 28 (.tmp 15) (.const (.int .u64 4096)) v15 (.int .u64 4096)) w fun v16 =>
  sV P (Instr.indexAt 55 t0 (s0.getD 0 undef)) w fun v19 =>
  sV P (Instr.fieldAt 47 v19 0) w fun v20 =>
  sV P (Instr.loadAt 28 v20) w fun v21 =>
  sV P (binV .quo 28 (.tmp 21) (.const (.int .u64 4096)) v21 (.int .u64 4096)) w fun v22 =>
  sV P (binV .sub 28 (.tmp 16) (.tmp 22) v16 v22) w fun v23 =>
  sV P (binV .geq 28 (.tmp 23) (.const (.int .u64 64)) v23 (.int .u64 64)) w fun v24 =>
  condK v24
  (K (.bool false) w)
  (kV P (binV .add 3 (.tmp 8) (.const (.int .i64 1)) (s0.getD 0 undef) (.int .i64 1)) w fun v9 w =>
  R0 [v9] w)) w)
  (K (.bool true) w)) [(.int .i64 0)] w
theorem F24_eq (P : Program) (t0 : Value) (w : World) (K : Value → World → Prop) : funE P ⟨[], [(2, [3])], []⟩ Try.f24 [t0] w K = F24 P t0 w K := by kernel_rfl
theorem F24_ok (t0 : Value) (w : World) (K : Value → World → Prop) (h : F24 Try.prog t0 w K) : callsK Try.prog 24 #[t0] w K := calls_of_eq mixedV Try.func24 (F24_eq _ t0 w K) h

/-- slices.Sorted[uint64] -/
def F47 (P : Program) (t0 : Value) (w : World) (K : Value → World → Prop) : Prop :=
  kN P (callN (.func (.func 67) #[] #[]) #[t0]) w fun v5 w =>
  kN P (callN (.func (.func 68) #[] #[]) #[v5]) w fun v7 w =>
  K v5 w
theorem F47_eq (P : Program) (t0 : Value) (w : World) (K : Value → World → Prop) : funE P ⟨[], [], []⟩ Try.f47 [t0] w K = F47 P t0 w K := by kernel_rfl
theorem F47_ok (t0 : Value) (w : World) (K : Value → World → Prop) (h : F47 Try.prog t0 w K) : callsK Try.prog 47 #[t0] w K := calls_of_eq mixedV Try.func47 (F47_eq _ t0 w K) h

/-- (mintmark/tags.Set).All -/
def F49 (P : Program) (t0 : Value) (w : World) (K : Value → World → Prop) : Prop :=
  kV P (Instr.box 88 t0) w fun v1 w =>
  kV P (Instr.alloc 98 true (.tuple #[])) w fun v3 w =>
  loopT (fun R0 s0 w => ∀ _ : Nat → Value,
  kV P (binV .lss 3 (.tmp 7) (.const (.int .i64 256)) (s0.getD 0 undef) (.int .i64 256)) w fun v8 w =>
  condK v8
  (kN P (callN (.func (.func 70) #[] #[v1, v3]) #[(s0.getD 0 undef)]) w fun v12 w =>
  kV P (binV .add 3 (.tmp 7) (.const (.int .i64 1)) (s0.getD 0 undef) (.int .i64 1)) w fun v13 w =>
  R0 [v13] w)
  (kV P (Instr.loadAt 98 v3) w fun v14 w =>
  K v14 w)) [(.int .i64 0)] w
theorem F49_eq (P : Program) (t0 : Value) (w : World) (K : Value → World → Prop) : funE P ⟨[], [(4, [7])], []⟩ Try.f49 [t0] w K = F49 P t0 w K := by kernel_rfl
theorem F49_ok (t0 : Value) (w : World) (K : Value → World → Prop) (h : F49 Try.prog t0 w K) : callsK Try.prog 49 #[t0] w K := calls_of_eq mixedV Try.func49 (F49_eq _ t0 w K) h

/-- slices.Collect[uint64] -/
def F67 (P : Program) (t0 : Value) (w : World) (K : Value → World → Prop) : Prop :=
  kN P (callN (.func (.func 84) #[] #[]) #[(.slice none 0 0), t0]) w fun v4 w =>
  K v4 w
theorem F67_eq (P : Program) (t0 : Value) (w : World) (K : Value → World → Prop) : funE P ⟨[], [], []⟩ Try.f67 [t0] w K = F67 P t0 w K := by kernel_rfl
theorem F67_ok (t0 : Value) (w : World) (K : Value → World → Prop) (h : F67 Try.prog t0 w K) : callsK Try.prog 67 #[t0] w K := calls_of_eq mixedV Try.func67 (F67_eq _ t0 w K) h

/-- (mintmark/tags.Set).All$1 -/
def F70 (P : Program) (t0 t1 t2 : Value) (w : World) (K : Value → World → Prop) : Prop :=
  kV P (Instr.loadAt 88 t1) w fun v4 w =>
  kN P (callN (.func (.func 45) #[] #[]) #[v4, t0]) w fun v6 w =>
  condK v6
  (kV P (Instr.loadAt 98 t2) w fun v7 w =>
  kV P (Instr.buildSlice 98 1 #[(0, t0)]) w fun v9 w =>
  kV P (Builtin.append_ #[98, 98] 98 #[v7, v9]) w fun v10 w =>
  kU P (Instr.storeAt 98 t2 v10) w fun _ w =>
  K (.tuple #[]) w)
  (K (.tuple #[]) w)
theorem F70_eq (P : Program) (t0 t1 t2 : Value) (w : World) (K : Value → World → Prop) : funE P ⟨[], [], []⟩ Try.f70 [t0, t1, t2] w K = F70 P t0 t1 t2 w K := by kernel_rfl
theorem F70_ok (t0 t1 t2 : Value) (w : World) (K : Value → World → Prop) (h : F70 Try.prog t0 t1 t2 w K) : callsK Try.prog 70 #[t0, t1, t2] w K := calls_of_eq mixedV Try.func70 (F70_eq _ t0 t1 t2 w K) h

end Go.Proofs.Ytgnibcaflidjmaa
