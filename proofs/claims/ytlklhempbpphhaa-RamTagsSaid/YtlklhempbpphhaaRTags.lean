/- A capability is loaded as it was stored, with its tag: the walk; conditions: those of each theorem. -/
import Derived.Test.YtlklhempbpphhaaCaps
import Derived.Test.YtlklhempbpphhaaArgs
namespace Go.Proofs.Ytlklhempbpphhaa
open Go.Fx
set_option maxRecDepth 100000
set_option linter.unusedSimpArgs false
set_option linter.unusedVariables false
theorem byteOf_leN {m : Nat → Int} (h : Byte m) (a : Nat) : ∀ k i, i < k → byteOf (leN m a k : Nat) i = m (a + i)
  | k + 1, i, hi => by
    have h1 := leN_lt h a k
    have h2 := h (a + k)
    have ih := byteOf_leN h a k
    unfold byteOf at ih ⊢
    rw [Int.toNat_natCast]
    unfold leN
    by_cases hik : i = k
    · subst hik
      rw [Nat.add_mul_div_right _ _ (Nat.two_pow_pos _), Nat.div_eq_of_lt h1, Nat.zero_add, Nat.mod_eq_of_lt (by omega)]
      omega
    · have := ih i (by omega)
      rw [Int.toNat_natCast] at this
      rw [← this]
      congr 1
      have e : (2 : Nat) ^ (8 * k) = 2 ^ (8 * (k - i - 1)) * 256 * 2 ^ (8 * i) := by
        rw [show (256 : Nat) = 2 ^ 8 from rfl, ← Nat.pow_add, ← Nat.pow_add]
        congr 1
        omega
      rw [e, ← Nat.mul_assoc, Nat.add_mul_div_right _ _ (Nat.two_pow_pos _), ← Nat.mul_assoc, Nat.add_mul_mod_self_right]
theorem leN_u64 {m : Nat → Int} (h : Byte m) (a : Nat) : U64 (leN m a 8 : Nat) := by
  have := leN_lt h a 8
  have e : (2 : Nat) ^ (8 * 8) = 18446744073709551616 := rfl
  unfold U64
  omega
theorem leN_one (m : Nat → Int) (a : Nat) : leN m a 1 = (m a).toNat := by simp [leN]
structure Cp where
  t : Bool
  mt : Int
  ad : Int
def cpC (c : Cp) : List Value := capC c.t c.mt c.ad
set_option maxHeartbeats 40000000 in
theorem region_spec {w0 w : World} {b3 b11 : Nat} {t td : Bool} {mt ad dm da : Int} {J3 : List Value → World → Prop} (hc5 : w.heap[b3]? = some (.cells (capC t mt ad).toArray 109 (0, 0))) (hd5 : w.heap[b11]? = some (.cells (capC td dm da).toArray 109 (0, 0))) (hm : U64 mt) (hd : U64 ad) (hdm : U64 dm) (hda : U64 da) (hx15 : Ext [] w0 w)
    (hrest : ∀ b16 b17 w6, w6.heap[b16]? = some (.cells (arC 16 (capBy mt ad)).toArray 113 (0, 0)) → w6.heap[b17]? = some (.cells (arC 16 (capBy dm da)).toArray 113 (0, 0)) → Ext [] w0 w6 → J3 [.pointer (some ⟨b16, 0, none⟩), .pointer (some ⟨b17, 0, none⟩)] w6)
    (v3 v11 : Value) (e3 : v3 = .pointer (some ⟨b3, 0, none⟩)) (e11 : v11 = .pointer (some ⟨b11, 0, none⟩)) : (drewK (fun w =>
  (kV Try.prog (Instr.loadAt 109 v3) w fun v80 w =>
  (kN Try.prog (callN (.func (.func 45) #[] #[]) #[v80]) w fun v81 w =>
  (kV Try.prog (Instr.loadAt 109 v11) w fun v82 w =>
  (kN Try.prog (callN (.func (.func 45) #[] #[]) #[v82]) w fun v83 w =>
  (kV Try.prog (Instr.alloc 113 true (.tuple #[])) w fun v16 w =>
  kV Try.prog (Instr.alloc 113 true (.tuple #[])) w fun v17 w =>
  kU Try.prog (Instr.storeAt 113 v16 v81) w fun _ w =>
  kU Try.prog (Instr.storeAt 113 v17 v83) w fun _ w =>
  J3 [v16, v17] w) ∧
  (kV Try.prog (Instr.alloc 113 true (.tuple #[])) w fun v17_1 w =>
  kV Try.prog (Instr.alloc 113 true (.tuple #[])) w fun v16_1 w =>
  kU Try.prog (Instr.storeAt 113 v16_1 v81) w fun _ w =>
  kU Try.prog (Instr.storeAt 113 v17_1 v83) w fun _ w =>
  J3 [v16_1, v17_1] w)) ∧
  (kV Try.prog (Instr.alloc 113 true (.tuple #[])) w fun v16_2 w =>
  (kN Try.prog (callN (.func (.func 45) #[] #[]) #[v82]) w fun v83_1 w =>
  kV Try.prog (Instr.alloc 113 true (.tuple #[])) w fun v17_2 w =>
  kU Try.prog (Instr.storeAt 113 v16_2 v81) w fun _ w =>
  kU Try.prog (Instr.storeAt 113 v17_2 v83_1) w fun _ w =>
  J3 [v16_2, v17_2] w) ∧
  (kV Try.prog (Instr.alloc 113 true (.tuple #[])) w fun v17_3 w =>
  kN Try.prog (callN (.func (.func 45) #[] #[]) #[v82]) w fun v83_2 w =>
  kU Try.prog (Instr.storeAt 113 v16_2 v81) w fun _ w =>
  kU Try.prog (Instr.storeAt 113 v17_3 v83_2) w fun _ w =>
  J3 [v16_2, v17_3] w)) ∧
  (kV Try.prog (Instr.alloc 113 true (.tuple #[])) w fun v17_4 w =>
  (kN Try.prog (callN (.func (.func 45) #[] #[]) #[v82]) w fun v83_3 w =>
  kV Try.prog (Instr.alloc 113 true (.tuple #[])) w fun v16_3 w =>
  kU Try.prog (Instr.storeAt 113 v16_3 v81) w fun _ w =>
  kU Try.prog (Instr.storeAt 113 v17_4 v83_3) w fun _ w =>
  J3 [v16_3, v17_4] w) ∧
  (kV Try.prog (Instr.alloc 113 true (.tuple #[])) w fun v16_4 w =>
  kN Try.prog (callN (.func (.func 45) #[] #[]) #[v82]) w fun v83_4 w =>
  kU Try.prog (Instr.storeAt 113 v16_4 v81) w fun _ w =>
  kU Try.prog (Instr.storeAt 113 v17_4 v83_4) w fun _ w =>
  J3 [v16_4, v17_4] w))) ∧
  (kV Try.prog (Instr.alloc 113 true (.tuple #[])) w fun v16_5 w =>
  (kV Try.prog (Instr.loadAt 109 v11) w fun v82_1 w =>
  (kN Try.prog (callN (.func (.func 45) #[] #[]) #[v82_1]) w fun v83_5 w =>
  kV Try.prog (Instr.alloc 113 true (.tuple #[])) w fun v17_5 w =>
  kU Try.prog (Instr.storeAt 113 v16_5 v81) w fun _ w =>
  kU Try.prog (Instr.storeAt 113 v17_5 v83_5) w fun _ w =>
  J3 [v16_5, v17_5] w) ∧
  (kV Try.prog (Instr.alloc 113 true (.tuple #[])) w fun v17_6 w =>
  kN Try.prog (callN (.func (.func 45) #[] #[]) #[v82_1]) w fun v83_6 w =>
  kU Try.prog (Instr.storeAt 113 v16_5 v81) w fun _ w =>
  kU Try.prog (Instr.storeAt 113 v17_6 v83_6) w fun _ w =>
  J3 [v16_5, v17_6] w)) ∧
  (kV Try.prog (Instr.alloc 113 true (.tuple #[])) w fun v17_7 w =>
  kV Try.prog (Instr.loadAt 109 v11) w fun v82_2 w =>
  kN Try.prog (callN (.func (.func 45) #[] #[]) #[v82_2]) w fun v83_7 w =>
  kU Try.prog (Instr.storeAt 113 v16_5 v81) w fun _ w =>
  kU Try.prog (Instr.storeAt 113 v17_7 v83_7) w fun _ w =>
  J3 [v16_5, v17_7] w)) ∧
  (kV Try.prog (Instr.alloc 113 true (.tuple #[])) w fun v17_8 w =>
  (kV Try.prog (Instr.loadAt 109 v11) w fun v82_3 w =>
  (kN Try.prog (callN (.func (.func 45) #[] #[]) #[v82_3]) w fun v83_8 w =>
  kV Try.prog (Instr.alloc 113 true (.tuple #[])) w fun v16_6 w =>
  kU Try.prog (Instr.storeAt 113 v16_6 v81) w fun _ w =>
  kU Try.prog (Instr.storeAt 113 v17_8 v83_8) w fun _ w =>
  J3 [v16_6, v17_8] w) ∧
  (kV Try.prog (Instr.alloc 113 true (.tuple #[])) w fun v16_7 w =>
  kN Try.prog (callN (.func (.func 45) #[] #[]) #[v82_3]) w fun v83_9 w =>
  kU Try.prog (Instr.storeAt 113 v16_7 v81) w fun _ w =>
  kU Try.prog (Instr.storeAt 113 v17_8 v83_9) w fun _ w =>
  J3 [v16_7, v17_8] w)) ∧
  (kV Try.prog (Instr.alloc 113 true (.tuple #[])) w fun v16_8 w =>
  kV Try.prog (Instr.loadAt 109 v11) w fun v82_4 w =>
  kN Try.prog (callN (.func (.func 45) #[] #[]) #[v82_4]) w fun v83_10 w =>
  kU Try.prog (Instr.storeAt 113 v16_8 v81) w fun _ w =>
  kU Try.prog (Instr.storeAt 113 v17_8 v83_10) w fun _ w =>
  J3 [v16_8, v17_8] w))) ∧
  (kV Try.prog (Instr.loadAt 109 v11) w fun v82_5 w =>
  (kN Try.prog (callN (.func (.func 45) #[] #[]) #[v80]) w fun v81_1 w =>
  (kN Try.prog (callN (.func (.func 45) #[] #[]) #[v82_5]) w fun v83_11 w =>
  (kV Try.prog (Instr.alloc 113 true (.tuple #[])) w fun v16_9 w =>
  kV Try.prog (Instr.alloc 113 true (.tuple #[])) w fun v17_9 w =>
  kU Try.prog (Instr.storeAt 113 v16_9 v81_1) w fun _ w =>
  kU Try.prog (Instr.storeAt 113 v17_9 v83_11) w fun _ w =>
  J3 [v16_9, v17_9] w) ∧
  (kV Try.prog (Instr.alloc 113 true (.tuple #[])) w fun v17_10 w =>
  kV Try.prog (Instr.alloc 113 true (.tuple #[])) w fun v16_10 w =>
  kU Try.prog (Instr.storeAt 113 v16_10 v81_1) w fun _ w =>
  kU Try.prog (Instr.storeAt 113 v17_10 v83_11) w fun _ w =>
  J3 [v16_10, v17_10] w)) ∧
  (kV Try.prog (Instr.alloc 113 true (.tuple #[])) w fun v16_11 w =>
  (kN Try.prog (callN (.func (.func 45) #[] #[]) #[v82_5]) w fun v83_12 w =>
  kV Try.prog (Instr.alloc 113 true (.tuple #[])) w fun v17_11 w =>
  kU Try.prog (Instr.storeAt 113 v16_11 v81_1) w fun _ w =>
  kU Try.prog (Instr.storeAt 113 v17_11 v83_12) w fun _ w =>
  J3 [v16_11, v17_11] w) ∧
  (kV Try.prog (Instr.alloc 113 true (.tuple #[])) w fun v17_12 w =>
  kN Try.prog (callN (.func (.func 45) #[] #[]) #[v82_5]) w fun v83_13 w =>
  kU Try.prog (Instr.storeAt 113 v16_11 v81_1) w fun _ w =>
  kU Try.prog (Instr.storeAt 113 v17_12 v83_13) w fun _ w =>
  J3 [v16_11, v17_12] w)) ∧
  (kV Try.prog (Instr.alloc 113 true (.tuple #[])) w fun v17_13 w =>
  (kN Try.prog (callN (.func (.func 45) #[] #[]) #[v82_5]) w fun v83_14 w =>
  kV Try.prog (Instr.alloc 113 true (.tuple #[])) w fun v16_12 w =>
  kU Try.prog (Instr.storeAt 113 v16_12 v81_1) w fun _ w =>
  kU Try.prog (Instr.storeAt 113 v17_13 v83_14) w fun _ w =>
  J3 [v16_12, v17_13] w) ∧
  (kV Try.prog (Instr.alloc 113 true (.tuple #[])) w fun v16_13 w =>
  kN Try.prog (callN (.func (.func 45) #[] #[]) #[v82_5]) w fun v83_15 w =>
  kU Try.prog (Instr.storeAt 113 v16_13 v81_1) w fun _ w =>
  kU Try.prog (Instr.storeAt 113 v17_13 v83_15) w fun _ w =>
  J3 [v16_13, v17_13] w))) ∧
  (kV Try.prog (Instr.alloc 113 true (.tuple #[])) w fun v16_14 w =>
  (kN Try.prog (callN (.func (.func 45) #[] #[]) #[v80]) w fun v81_2 w =>
  (kN Try.prog (callN (.func (.func 45) #[] #[]) #[v82_5]) w fun v83_16 w =>
  kV Try.prog (Instr.alloc 113 true (.tuple #[])) w fun v17_14 w =>
  kU Try.prog (Instr.storeAt 113 v16_14 v81_2) w fun _ w =>
  kU Try.prog (Instr.storeAt 113 v17_14 v83_16) w fun _ w =>
  J3 [v16_14, v17_14] w) ∧
  (kV Try.prog (Instr.alloc 113 true (.tuple #[])) w fun v17_15 w =>
  kN Try.prog (callN (.func (.func 45) #[] #[]) #[v82_5]) w fun v83_17 w =>
  kU Try.prog (Instr.storeAt 113 v16_14 v81_2) w fun _ w =>
  kU Try.prog (Instr.storeAt 113 v17_15 v83_17) w fun _ w =>
  J3 [v16_14, v17_15] w)) ∧
  (kV Try.prog (Instr.alloc 113 true (.tuple #[])) w fun v17_16 w =>
  kN Try.prog (callN (.func (.func 45) #[] #[]) #[v80]) w fun v81_3 w =>
  kN Try.prog (callN (.func (.func 45) #[] #[]) #[v82_5]) w fun v83_18 w =>
  kU Try.prog (Instr.storeAt 113 v16_14 v81_3) w fun _ w =>
  kU Try.prog (Instr.storeAt 113 v17_16 v83_18) w fun _ w =>
  J3 [v16_14, v17_16] w)) ∧
  (kV Try.prog (Instr.alloc 113 true (.tuple #[])) w fun v17_17 w =>
  (kN Try.prog (callN (.func (.func 45) #[] #[]) #[v80]) w fun v81_4 w =>
  (kN Try.prog (callN (.func (.func 45) #[] #[]) #[v82_5]) w fun v83_19 w =>
  kV Try.prog (Instr.alloc 113 true (.tuple #[])) w fun v16_15 w =>
  kU Try.prog (Instr.storeAt 113 v16_15 v81_4) w fun _ w =>
  kU Try.prog (Instr.storeAt 113 v17_17 v83_19) w fun _ w =>
  J3 [v16_15, v17_17] w) ∧
  (kV Try.prog (Instr.alloc 113 true (.tuple #[])) w fun v16_16 w =>
  kN Try.prog (callN (.func (.func 45) #[] #[]) #[v82_5]) w fun v83_20 w =>
  kU Try.prog (Instr.storeAt 113 v16_16 v81_4) w fun _ w =>
  kU Try.prog (Instr.storeAt 113 v17_17 v83_20) w fun _ w =>
  J3 [v16_16, v17_17] w)) ∧
  (kV Try.prog (Instr.alloc 113 true (.tuple #[])) w fun v16_17 w =>
  kN Try.prog (callN (.func (.func 45) #[] #[]) #[v80]) w fun v81_5 w =>
  kN Try.prog (callN (.func (.func 45) #[] #[]) #[v82_5]) w fun v83_21 w =>
  kU Try.prog (Instr.storeAt 113 v16_17 v81_5) w fun _ w =>
  kU Try.prog (Instr.storeAt 113 v17_17 v83_21) w fun _ w =>
  J3 [v16_17, v17_17] w))) ∧
  (kV Try.prog (Instr.alloc 113 true (.tuple #[])) w fun v16_18 w =>
  (kN Try.prog (callN (.func (.func 45) #[] #[]) #[v80]) w fun v81_6 w =>
  (kV Try.prog (Instr.loadAt 109 v11) w fun v82_6 w =>
  (kN Try.prog (callN (.func (.func 45) #[] #[]) #[v82_6]) w fun v83_22 w =>
  kV Try.prog (Instr.alloc 113 true (.tuple #[])) w fun v17_18 w =>
  kU Try.prog (Instr.storeAt 113 v16_18 v81_6) w fun _ w =>
  kU Try.prog (Instr.storeAt 113 v17_18 v83_22) w fun _ w =>
  J3 [v16_18, v17_18] w) ∧
  (kV Try.prog (Instr.alloc 113 true (.tuple #[])) w fun v17_19 w =>
  kN Try.prog (callN (.func (.func 45) #[] #[]) #[v82_6]) w fun v83_23 w =>
  kU Try.prog (Instr.storeAt 113 v16_18 v81_6) w fun _ w =>
  kU Try.prog (Instr.storeAt 113 v17_19 v83_23) w fun _ w =>
  J3 [v16_18, v17_19] w)) ∧
  (kV Try.prog (Instr.alloc 113 true (.tuple #[])) w fun v17_20 w =>
  kV Try.prog (Instr.loadAt 109 v11) w fun v82_7 w =>
  kN Try.prog (callN (.func (.func 45) #[] #[]) #[v82_7]) w fun v83_24 w =>
  kU Try.prog (Instr.storeAt 113 v16_18 v81_6) w fun _ w =>
  kU Try.prog (Instr.storeAt 113 v17_20 v83_24) w fun _ w =>
  J3 [v16_18, v17_20] w)) ∧
  (kV Try.prog (Instr.loadAt 109 v11) w fun v82_8 w =>
  (kN Try.prog (callN (.func (.func 45) #[] #[]) #[v80]) w fun v81_7 w =>
  (kN Try.prog (callN (.func (.func 45) #[] #[]) #[v82_8]) w fun v83_25 w =>
  kV Try.prog (Instr.alloc 113 true (.tuple #[])) w fun v17_21 w =>
  kU Try.prog (Instr.storeAt 113 v16_18 v81_7) w fun _ w =>
  kU Try.prog (Instr.storeAt 113 v17_21 v83_25) w fun _ w =>
  J3 [v16_18, v17_21] w) ∧
  (kV Try.prog (Instr.alloc 113 true (.tuple #[])) w fun v17_22 w =>
  kN Try.prog (callN (.func (.func 45) #[] #[]) #[v82_8]) w fun v83_26 w =>
  kU Try.prog (Instr.storeAt 113 v16_18 v81_7) w fun _ w =>
  kU Try.prog (Instr.storeAt 113 v17_22 v83_26) w fun _ w =>
  J3 [v16_18, v17_22] w)) ∧
  (kV Try.prog (Instr.alloc 113 true (.tuple #[])) w fun v17_23 w =>
  kN Try.prog (callN (.func (.func 45) #[] #[]) #[v80]) w fun v81_8 w =>
  kN Try.prog (callN (.func (.func 45) #[] #[]) #[v82_8]) w fun v83_27 w =>
  kU Try.prog (Instr.storeAt 113 v16_18 v81_8) w fun _ w =>
  kU Try.prog (Instr.storeAt 113 v17_23 v83_27) w fun _ w =>
  J3 [v16_18, v17_23] w)) ∧
  (kV Try.prog (Instr.alloc 113 true (.tuple #[])) w fun v17_24 w =>
  (kN Try.prog (callN (.func (.func 45) #[] #[]) #[v80]) w fun v81_9 w =>
  kV Try.prog (Instr.loadAt 109 v11) w fun v82_9 w =>
  kN Try.prog (callN (.func (.func 45) #[] #[]) #[v82_9]) w fun v83_28 w =>
  kU Try.prog (Instr.storeAt 113 v16_18 v81_9) w fun _ w =>
  kU Try.prog (Instr.storeAt 113 v17_24 v83_28) w fun _ w =>
  J3 [v16_18, v17_24] w) ∧
  (kV Try.prog (Instr.loadAt 109 v11) w fun v82_10 w =>
  kN Try.prog (callN (.func (.func 45) #[] #[]) #[v80]) w fun v81_10 w =>
  kN Try.prog (callN (.func (.func 45) #[] #[]) #[v82_10]) w fun v83_29 w =>
  kU Try.prog (Instr.storeAt 113 v16_18 v81_10) w fun _ w =>
  kU Try.prog (Instr.storeAt 113 v17_24 v83_29) w fun _ w =>
  J3 [v16_18, v17_24] w))) ∧
  (kV Try.prog (Instr.alloc 113 true (.tuple #[])) w fun v17_25 w =>
  (kN Try.prog (callN (.func (.func 45) #[] #[]) #[v80]) w fun v81_11 w =>
  (kV Try.prog (Instr.loadAt 109 v11) w fun v82_11 w =>
  (kN Try.prog (callN (.func (.func 45) #[] #[]) #[v82_11]) w fun v83_30 w =>
  kV Try.prog (Instr.alloc 113 true (.tuple #[])) w fun v16_19 w =>
  kU Try.prog (Instr.storeAt 113 v16_19 v81_11) w fun _ w =>
  kU Try.prog (Instr.storeAt 113 v17_25 v83_30) w fun _ w =>
  J3 [v16_19, v17_25] w) ∧
  (kV Try.prog (Instr.alloc 113 true (.tuple #[])) w fun v16_20 w =>
  kN Try.prog (callN (.func (.func 45) #[] #[]) #[v82_11]) w fun v83_31 w =>
  kU Try.prog (Instr.storeAt 113 v16_20 v81_11) w fun _ w =>
  kU Try.prog (Instr.storeAt 113 v17_25 v83_31) w fun _ w =>
  J3 [v16_20, v17_25] w)) ∧
  (kV Try.prog (Instr.alloc 113 true (.tuple #[])) w fun v16_21 w =>
  kV Try.prog (Instr.loadAt 109 v11) w fun v82_12 w =>
  kN Try.prog (callN (.func (.func 45) #[] #[]) #[v82_12]) w fun v83_32 w =>
  kU Try.prog (Instr.storeAt 113 v16_21 v81_11) w fun _ w =>
  kU Try.prog (Instr.storeAt 113 v17_25 v83_32) w fun _ w =>
  J3 [v16_21, v17_25] w)) ∧
  (kV Try.prog (Instr.loadAt 109 v11) w fun v82_13 w =>
  (kN Try.prog (callN (.func (.func 45) #[] #[]) #[v80]) w fun v81_12 w =>
  (kN Try.prog (callN (.func (.func 45) #[] #[]) #[v82_13]) w fun v83_33 w =>
  kV Try.prog (Instr.alloc 113 true (.tuple #[])) w fun v16_22 w =>
  kU Try.prog (Instr.storeAt 113 v16_22 v81_12) w fun _ w =>
  kU Try.prog (Instr.storeAt 113 v17_25 v83_33) w fun _ w =>
  J3 [v16_22, v17_25] w) ∧
  (kV Try.prog (Instr.alloc 113 true (.tuple #[])) w fun v16_23 w =>
  kN Try.prog (callN (.func (.func 45) #[] #[]) #[v82_13]) w fun v83_34 w =>
  kU Try.prog (Instr.storeAt 113 v16_23 v81_12) w fun _ w =>
  kU Try.prog (Instr.storeAt 113 v17_25 v83_34) w fun _ w =>
  J3 [v16_23, v17_25] w)) ∧
  (kV Try.prog (Instr.alloc 113 true (.tuple #[])) w fun v16_24 w =>
  kN Try.prog (callN (.func (.func 45) #[] #[]) #[v80]) w fun v81_13 w =>
  kN Try.prog (callN (.func (.func 45) #[] #[]) #[v82_13]) w fun v83_35 w =>
  kU Try.prog (Instr.storeAt 113 v16_24 v81_13) w fun _ w =>
  kU Try.prog (Instr.storeAt 113 v17_25 v83_35) w fun _ w =>
  J3 [v16_24, v17_25] w)) ∧
  (kV Try.prog (Instr.alloc 113 true (.tuple #[])) w fun v16_25 w =>
  (kN Try.prog (callN (.func (.func 45) #[] #[]) #[v80]) w fun v81_14 w =>
  kV Try.prog (Instr.loadAt 109 v11) w fun v82_14 w =>
  kN Try.prog (callN (.func (.func 45) #[] #[]) #[v82_14]) w fun v83_36 w =>
  kU Try.prog (Instr.storeAt 113 v16_25 v81_14) w fun _ w =>
  kU Try.prog (Instr.storeAt 113 v17_25 v83_36) w fun _ w =>
  J3 [v16_25, v17_25] w) ∧
  (kV Try.prog (Instr.loadAt 109 v11) w fun v82_15 w =>
  kN Try.prog (callN (.func (.func 45) #[] #[]) #[v80]) w fun v81_15 w =>
  kN Try.prog (callN (.func (.func 45) #[] #[]) #[v82_15]) w fun v83_37 w =>
  kU Try.prog (Instr.storeAt 113 v16_25 v81_15) w fun _ w =>
  kU Try.prog (Instr.storeAt 113 v17_25 v83_37) w fun _ w =>
  J3 [v16_25, v17_25] w)))) ∧
  (kV Try.prog (Instr.loadAt 109 v11) w fun v82_16 w =>
  (kV Try.prog (Instr.loadAt 109 v3) w fun v80_1 w =>
  (kN Try.prog (callN (.func (.func 45) #[] #[]) #[v80_1]) w fun v81_16 w =>
  (kN Try.prog (callN (.func (.func 45) #[] #[]) #[v82_16]) w fun v83_38 w =>
  (kV Try.prog (Instr.alloc 113 true (.tuple #[])) w fun v16_26 w =>
  kV Try.prog (Instr.alloc 113 true (.tuple #[])) w fun v17_26 w =>
  kU Try.prog (Instr.storeAt 113 v16_26 v81_16) w fun _ w =>
  kU Try.prog (Instr.storeAt 113 v17_26 v83_38) w fun _ w =>
  J3 [v16_26, v17_26] w) ∧
  (kV Try.prog (Instr.alloc 113 true (.tuple #[])) w fun v17_27 w =>
  kV Try.prog (Instr.alloc 113 true (.tuple #[])) w fun v16_27 w =>
  kU Try.prog (Instr.storeAt 113 v16_27 v81_16) w fun _ w =>
  kU Try.prog (Instr.storeAt 113 v17_27 v83_38) w fun _ w =>
  J3 [v16_27, v17_27] w)) ∧
  (kV Try.prog (Instr.alloc 113 true (.tuple #[])) w fun v16_28 w =>
  (kN Try.prog (callN (.func (.func 45) #[] #[]) #[v82_16]) w fun v83_39 w =>
  kV Try.prog (Instr.alloc 113 true (.tuple #[])) w fun v17_28 w =>
  kU Try.prog (Instr.storeAt 113 v16_28 v81_16) w fun _ w =>
  kU Try.prog (Instr.storeAt 113 v17_28 v83_39) w fun _ w =>
  J3 [v16_28, v17_28] w) ∧
  (kV Try.prog (Instr.alloc 113 true (.tuple #[])) w fun v17_29 w =>
  kN Try.prog (callN (.func (.func 45) #[] #[]) #[v82_16]) w fun v83_40 w =>
  kU Try.prog (Instr.storeAt 113 v16_28 v81_16) w fun _ w =>
  kU Try.prog (Instr.storeAt 113 v17_29 v83_40) w fun _ w =>
  J3 [v16_28, v17_29] w)) ∧
  (kV Try.prog (Instr.alloc 113 true (.tuple #[])) w fun v17_30 w =>
  (kN Try.prog (callN (.func (.func 45) #[] #[]) #[v82_16]) w fun v83_41 w =>
  kV Try.prog (Instr.alloc 113 true (.tuple #[])) w fun v16_29 w =>
  kU Try.prog (Instr.storeAt 113 v16_29 v81_16) w fun _ w =>
  kU Try.prog (Instr.storeAt 113 v17_30 v83_41) w fun _ w =>
  J3 [v16_29, v17_30] w) ∧
  (kV Try.prog (Instr.alloc 113 true (.tuple #[])) w fun v16_30 w =>
  kN Try.prog (callN (.func (.func 45) #[] #[]) #[v82_16]) w fun v83_42 w =>
  kU Try.prog (Instr.storeAt 113 v16_30 v81_16) w fun _ w =>
  kU Try.prog (Instr.storeAt 113 v17_30 v83_42) w fun _ w =>
  J3 [v16_30, v17_30] w))) ∧
  (kV Try.prog (Instr.alloc 113 true (.tuple #[])) w fun v16_31 w =>
  (kN Try.prog (callN (.func (.func 45) #[] #[]) #[v80_1]) w fun v81_17 w =>
  (kN Try.prog (callN (.func (.func 45) #[] #[]) #[v82_16]) w fun v83_43 w =>
  kV Try.prog (Instr.alloc 113 true (.tuple #[])) w fun v17_31 w =>
  kU Try.prog (Instr.storeAt 113 v16_31 v81_17) w fun _ w =>
  kU Try.prog (Instr.storeAt 113 v17_31 v83_43) w fun _ w =>
  J3 [v16_31, v17_31] w) ∧
  (kV Try.prog (Instr.alloc 113 true (.tuple #[])) w fun v17_32 w =>
  kN Try.prog (callN (.func (.func 45) #[] #[]) #[v82_16]) w fun v83_44 w =>
  kU Try.prog (Instr.storeAt 113 v16_31 v81_17) w fun _ w =>
  kU Try.prog (Instr.storeAt 113 v17_32 v83_44) w fun _ w =>
  J3 [v16_31, v17_32] w)) ∧
  (kV Try.prog (Instr.alloc 113 true (.tuple #[])) w fun v17_33 w =>
  kN Try.prog (callN (.func (.func 45) #[] #[]) #[v80_1]) w fun v81_18 w =>
  kN Try.prog (callN (.func (.func 45) #[] #[]) #[v82_16]) w fun v83_45 w =>
  kU Try.prog (Instr.storeAt 113 v16_31 v81_18) w fun _ w =>
  kU Try.prog (Instr.storeAt 113 v17_33 v83_45) w fun _ w =>
  J3 [v16_31, v17_33] w)) ∧
  (kV Try.prog (Instr.alloc 113 true (.tuple #[])) w fun v17_34 w =>
  (kN Try.prog (callN (.func (.func 45) #[] #[]) #[v80_1]) w fun v81_19 w =>
  (kN Try.prog (callN (.func (.func 45) #[] #[]) #[v82_16]) w fun v83_46 w =>
  kV Try.prog (Instr.alloc 113 true (.tuple #[])) w fun v16_32 w =>
  kU Try.prog (Instr.storeAt 113 v16_32 v81_19) w fun _ w =>
  kU Try.prog (Instr.storeAt 113 v17_34 v83_46) w fun _ w =>
  J3 [v16_32, v17_34] w) ∧
  (kV Try.prog (Instr.alloc 113 true (.tuple #[])) w fun v16_33 w =>
  kN Try.prog (callN (.func (.func 45) #[] #[]) #[v82_16]) w fun v83_47 w =>
  kU Try.prog (Instr.storeAt 113 v16_33 v81_19) w fun _ w =>
  kU Try.prog (Instr.storeAt 113 v17_34 v83_47) w fun _ w =>
  J3 [v16_33, v17_34] w)) ∧
  (kV Try.prog (Instr.alloc 113 true (.tuple #[])) w fun v16_34 w =>
  kN Try.prog (callN (.func (.func 45) #[] #[]) #[v80_1]) w fun v81_20 w =>
  kN Try.prog (callN (.func (.func 45) #[] #[]) #[v82_16]) w fun v83_48 w =>
  kU Try.prog (Instr.storeAt 113 v16_34 v81_20) w fun _ w =>
  kU Try.prog (Instr.storeAt 113 v17_34 v83_48) w fun _ w =>
  J3 [v16_34, v17_34] w))) ∧
  (kV Try.prog (Instr.alloc 113 true (.tuple #[])) w fun v16_35 w =>
  (kV Try.prog (Instr.loadAt 109 v3) w fun v80_2 w =>
  (kN Try.prog (callN (.func (.func 45) #[] #[]) #[v80_2]) w fun v81_21 w =>
  (kN Try.prog (callN (.func (.func 45) #[] #[]) #[v82_16]) w fun v83_49 w =>
  kV Try.prog (Instr.alloc 113 true (.tuple #[])) w fun v17_35 w =>
  kU Try.prog (Instr.storeAt 113 v16_35 v81_21) w fun _ w =>
  kU Try.prog (Instr.storeAt 113 v17_35 v83_49) w fun _ w =>
  J3 [v16_35, v17_35] w) ∧
  (kV Try.prog (Instr.alloc 113 true (.tuple #[])) w fun v17_36 w =>
  kN Try.prog (callN (.func (.func 45) #[] #[]) #[v82_16]) w fun v83_50 w =>
  kU Try.prog (Instr.storeAt 113 v16_35 v81_21) w fun _ w =>
  kU Try.prog (Instr.storeAt 113 v17_36 v83_50) w fun _ w =>
  J3 [v16_35, v17_36] w)) ∧
  (kV Try.prog (Instr.alloc 113 true (.tuple #[])) w fun v17_37 w =>
  kN Try.prog (callN (.func (.func 45) #[] #[]) #[v80_2]) w fun v81_22 w =>
  kN Try.prog (callN (.func (.func 45) #[] #[]) #[v82_16]) w fun v83_51 w =>
  kU Try.prog (Instr.storeAt 113 v16_35 v81_22) w fun _ w =>
  kU Try.prog (Instr.storeAt 113 v17_37 v83_51) w fun _ w =>
  J3 [v16_35, v17_37] w)) ∧
  (kV Try.prog (Instr.alloc 113 true (.tuple #[])) w fun v17_38 w =>
  kV Try.prog (Instr.loadAt 109 v3) w fun v80_3 w =>
  kN Try.prog (callN (.func (.func 45) #[] #[]) #[v80_3]) w fun v81_23 w =>
  kN Try.prog (callN (.func (.func 45) #[] #[]) #[v82_16]) w fun v83_52 w =>
  kU Try.prog (Instr.storeAt 113 v16_35 v81_23) w fun _ w =>
  kU Try.prog (Instr.storeAt 113 v17_38 v83_52) w fun _ w =>
  J3 [v16_35, v17_38] w)) ∧
  (kV Try.prog (Instr.alloc 113 true (.tuple #[])) w fun v17_39 w =>
  (kV Try.prog (Instr.loadAt 109 v3) w fun v80_4 w =>
  (kN Try.prog (callN (.func (.func 45) #[] #[]) #[v80_4]) w fun v81_24 w =>
  (kN Try.prog (callN (.func (.func 45) #[] #[]) #[v82_16]) w fun v83_53 w =>
  kV Try.prog (Instr.alloc 113 true (.tuple #[])) w fun v16_36 w =>
  kU Try.prog (Instr.storeAt 113 v16_36 v81_24) w fun _ w =>
  kU Try.prog (Instr.storeAt 113 v17_39 v83_53) w fun _ w =>
  J3 [v16_36, v17_39] w) ∧
  (kV Try.prog (Instr.alloc 113 true (.tuple #[])) w fun v16_37 w =>
  kN Try.prog (callN (.func (.func 45) #[] #[]) #[v82_16]) w fun v83_54 w =>
  kU Try.prog (Instr.storeAt 113 v16_37 v81_24) w fun _ w =>
  kU Try.prog (Instr.storeAt 113 v17_39 v83_54) w fun _ w =>
  J3 [v16_37, v17_39] w)) ∧
  (kV Try.prog (Instr.alloc 113 true (.tuple #[])) w fun v16_38 w =>
  kN Try.prog (callN (.func (.func 45) #[] #[]) #[v80_4]) w fun v81_25 w =>
  kN Try.prog (callN (.func (.func 45) #[] #[]) #[v82_16]) w fun v83_55 w =>
  kU Try.prog (Instr.storeAt 113 v16_38 v81_25) w fun _ w =>
  kU Try.prog (Instr.storeAt 113 v17_39 v83_55) w fun _ w =>
  J3 [v16_38, v17_39] w)) ∧
  (kV Try.prog (Instr.alloc 113 true (.tuple #[])) w fun v16_39 w =>
  kV Try.prog (Instr.loadAt 109 v3) w fun v80_5 w =>
  kN Try.prog (callN (.func (.func 45) #[] #[]) #[v80_5]) w fun v81_26 w =>
  kN Try.prog (callN (.func (.func 45) #[] #[]) #[v82_16]) w fun v83_56 w =>
  kU Try.prog (Instr.storeAt 113 v16_39 v81_26) w fun _ w =>
  kU Try.prog (Instr.storeAt 113 v17_39 v83_56) w fun _ w =>
  J3 [v16_39, v17_39] w))) ∧
  (kV Try.prog (Instr.alloc 113 true (.tuple #[])) w fun v16_40 w =>
  (kV Try.prog (Instr.loadAt 109 v3) w fun v80_6 w =>
  (kN Try.prog (callN (.func (.func 45) #[] #[]) #[v80_6]) w fun v81_27 w =>
  (kV Try.prog (Instr.loadAt 109 v11) w fun v82_17 w =>
  (kN Try.prog (callN (.func (.func 45) #[] #[]) #[v82_17]) w fun v83_57 w =>
  kV Try.prog (Instr.alloc 113 true (.tuple #[])) w fun v17_40 w =>
  kU Try.prog (Instr.storeAt 113 v16_40 v81_27) w fun _ w =>
  kU Try.prog (Instr.storeAt 113 v17_40 v83_57) w fun _ w =>
  J3 [v16_40, v17_40] w) ∧
  (kV Try.prog (Instr.alloc 113 true (.tuple #[])) w fun v17_41 w =>
  kN Try.prog (callN (.func (.func 45) #[] #[]) #[v82_17]) w fun v83_58 w =>
  kU Try.prog (Instr.storeAt 113 v16_40 v81_27) w fun _ w =>
  kU Try.prog (Instr.storeAt 113 v17_41 v83_58) w fun _ w =>
  J3 [v16_40, v17_41] w)) ∧
  (kV Try.prog (Instr.alloc 113 true (.tuple #[])) w fun v17_42 w =>
  kV Try.prog (Instr.loadAt 109 v11) w fun v82_18 w =>
  kN Try.prog (callN (.func (.func 45) #[] #[]) #[v82_18]) w fun v83_59 w =>
  kU Try.prog (Instr.storeAt 113 v16_40 v81_27) w fun _ w =>
  kU Try.prog (Instr.storeAt 113 v17_42 v83_59) w fun _ w =>
  J3 [v16_40, v17_42] w)) ∧
  (kV Try.prog (Instr.loadAt 109 v11) w fun v82_19 w =>
  (kN Try.prog (callN (.func (.func 45) #[] #[]) #[v80_6]) w fun v81_28 w =>
  (kN Try.prog (callN (.func (.func 45) #[] #[]) #[v82_19]) w fun v83_60 w =>
  kV Try.prog (Instr.alloc 113 true (.tuple #[])) w fun v17_43 w =>
  kU Try.prog (Instr.storeAt 113 v16_40 v81_28) w fun _ w =>
  kU Try.prog (Instr.storeAt 113 v17_43 v83_60) w fun _ w =>
  J3 [v16_40, v17_43] w) ∧
  (kV Try.prog (Instr.alloc 113 true (.tuple #[])) w fun v17_44 w =>
  kN Try.prog (callN (.func (.func 45) #[] #[]) #[v82_19]) w fun v83_61 w =>
  kU Try.prog (Instr.storeAt 113 v16_40 v81_28) w fun _ w =>
  kU Try.prog (Instr.storeAt 113 v17_44 v83_61) w fun _ w =>
  J3 [v16_40, v17_44] w)) ∧
  (kV Try.prog (Instr.alloc 113 true (.tuple #[])) w fun v17_45 w =>
  kN Try.prog (callN (.func (.func 45) #[] #[]) #[v80_6]) w fun v81_29 w =>
  kN Try.prog (callN (.func (.func 45) #[] #[]) #[v82_19]) w fun v83_62 w =>
  kU Try.prog (Instr.storeAt 113 v16_40 v81_29) w fun _ w =>
  kU Try.prog (Instr.storeAt 113 v17_45 v83_62) w fun _ w =>
  J3 [v16_40, v17_45] w)) ∧
  (kV Try.prog (Instr.alloc 113 true (.tuple #[])) w fun v17_46 w =>
  (kN Try.prog (callN (.func (.func 45) #[] #[]) #[v80_6]) w fun v81_30 w =>
  kV Try.prog (Instr.loadAt 109 v11) w fun v82_20 w =>
  kN Try.prog (callN (.func (.func 45) #[] #[]) #[v82_20]) w fun v83_63 w =>
  kU Try.prog (Instr.storeAt 113 v16_40 v81_30) w fun _ w =>
  kU Try.prog (Instr.storeAt 113 v17_46 v83_63) w fun _ w =>
  J3 [v16_40, v17_46] w) ∧
  (kV Try.prog (Instr.loadAt 109 v11) w fun v82_21 w =>
  kN Try.prog (callN (.func (.func 45) #[] #[]) #[v80_6]) w fun v81_31 w =>
  kN Try.prog (callN (.func (.func 45) #[] #[]) #[v82_21]) w fun v83_64 w =>
  kU Try.prog (Instr.storeAt 113 v16_40 v81_31) w fun _ w =>
  kU Try.prog (Instr.storeAt 113 v17_46 v83_64) w fun _ w =>
  J3 [v16_40, v17_46] w))) ∧
  (kV Try.prog (Instr.loadAt 109 v11) w fun v82_22 w =>
  (kV Try.prog (Instr.loadAt 109 v3) w fun v80_7 w =>
  (kN Try.prog (callN (.func (.func 45) #[] #[]) #[v80_7]) w fun v81_32 w =>
  (kN Try.prog (callN (.func (.func 45) #[] #[]) #[v82_22]) w fun v83_65 w =>
  kV Try.prog (Instr.alloc 113 true (.tuple #[])) w fun v17_47 w =>
  kU Try.prog (Instr.storeAt 113 v16_40 v81_32) w fun _ w =>
  kU Try.prog (Instr.storeAt 113 v17_47 v83_65) w fun _ w =>
  J3 [v16_40, v17_47] w) ∧
  (kV Try.prog (Instr.alloc 113 true (.tuple #[])) w fun v17_48 w =>
  kN Try.prog (callN (.func (.func 45) #[] #[]) #[v82_22]) w fun v83_66 w =>
  kU Try.prog (Instr.storeAt 113 v16_40 v81_32) w fun _ w =>
  kU Try.prog (Instr.storeAt 113 v17_48 v83_66) w fun _ w =>
  J3 [v16_40, v17_48] w)) ∧
  (kV Try.prog (Instr.alloc 113 true (.tuple #[])) w fun v17_49 w =>
  kN Try.prog (callN (.func (.func 45) #[] #[]) #[v80_7]) w fun v81_33 w =>
  kN Try.prog (callN (.func (.func 45) #[] #[]) #[v82_22]) w fun v83_67 w =>
  kU Try.prog (Instr.storeAt 113 v16_40 v81_33) w fun _ w =>
  kU Try.prog (Instr.storeAt 113 v17_49 v83_67) w fun _ w =>
  J3 [v16_40, v17_49] w)) ∧
  (kV Try.prog (Instr.alloc 113 true (.tuple #[])) w fun v17_50 w =>
  kV Try.prog (Instr.loadAt 109 v3) w fun v80_8 w =>
  kN Try.prog (callN (.func (.func 45) #[] #[]) #[v80_8]) w fun v81_34 w =>
  kN Try.prog (callN (.func (.func 45) #[] #[]) #[v82_22]) w fun v83_68 w =>
  kU Try.prog (Instr.storeAt 113 v16_40 v81_34) w fun _ w =>
  kU Try.prog (Instr.storeAt 113 v17_50 v83_68) w fun _ w =>
  J3 [v16_40, v17_50] w)) ∧
  (kV Try.prog (Instr.alloc 113 true (.tuple #[])) w fun v17_51 w =>
  (kV Try.prog (Instr.loadAt 109 v3) w fun v80_9 w =>
  (kN Try.prog (callN (.func (.func 45) #[] #[]) #[v80_9]) w fun v81_35 w =>
  kV Try.prog (Instr.loadAt 109 v11) w fun v82_23 w =>
  kN Try.prog (callN (.func (.func 45) #[] #[]) #[v82_23]) w fun v83_69 w =>
  kU Try.prog (Instr.storeAt 113 v16_40 v81_35) w fun _ w =>
  kU Try.prog (Instr.storeAt 113 v17_51 v83_69) w fun _ w =>
  J3 [v16_40, v17_51] w) ∧
  (kV Try.prog (Instr.loadAt 109 v11) w fun v82_24 w =>
  kN Try.prog (callN (.func (.func 45) #[] #[]) #[v80_9]) w fun v81_36 w =>
  kN Try.prog (callN (.func (.func 45) #[] #[]) #[v82_24]) w fun v83_70 w =>
  kU Try.prog (Instr.storeAt 113 v16_40 v81_36) w fun _ w =>
  kU Try.prog (Instr.storeAt 113 v17_51 v83_70) w fun _ w =>
  J3 [v16_40, v17_51] w)) ∧
  (kV Try.prog (Instr.loadAt 109 v11) w fun v82_25 w =>
  kV Try.prog (Instr.loadAt 109 v3) w fun v80_10 w =>
  kN Try.prog (callN (.func (.func 45) #[] #[]) #[v80_10]) w fun v81_37 w =>
  kN Try.prog (callN (.func (.func 45) #[] #[]) #[v82_25]) w fun v83_71 w =>
  kU Try.prog (Instr.storeAt 113 v16_40 v81_37) w fun _ w =>
  kU Try.prog (Instr.storeAt 113 v17_51 v83_71) w fun _ w =>
  J3 [v16_40, v17_51] w))) ∧
  (kV Try.prog (Instr.alloc 113 true (.tuple #[])) w fun v17_52 w =>
  (kV Try.prog (Instr.loadAt 109 v3) w fun v80_11 w =>
  (kN Try.prog (callN (.func (.func 45) #[] #[]) #[v80_11]) w fun v81_38 w =>
  (kV Try.prog (Instr.loadAt 109 v11) w fun v82_26 w =>
  (kN Try.prog (callN (.func (.func 45) #[] #[]) #[v82_26]) w fun v83_72 w =>
  kV Try.prog (Instr.alloc 113 true (.tuple #[])) w fun v16_41 w =>
  kU Try.prog (Instr.storeAt 113 v16_41 v81_38) w fun _ w =>
  kU Try.prog (Instr.storeAt 113 v17_52 v83_72) w fun _ w =>
  J3 [v16_41, v17_52] w) ∧
  (kV Try.prog (Instr.alloc 113 true (.tuple #[])) w fun v16_42 w =>
  kN Try.prog (callN (.func (.func 45) #[] #[]) #[v82_26]) w fun v83_73 w =>
  kU Try.prog (Instr.storeAt 113 v16_42 v81_38) w fun _ w =>
  kU Try.prog (Instr.storeAt 113 v17_52 v83_73) w fun _ w =>
  J3 [v16_42, v17_52] w)) ∧
  (kV Try.prog (Instr.alloc 113 true (.tuple #[])) w fun v16_43 w =>
  kV Try.prog (Instr.loadAt 109 v11) w fun v82_27 w =>
  kN Try.prog (callN (.func (.func 45) #[] #[]) #[v82_27]) w fun v83_74 w =>
  kU Try.prog (Instr.storeAt 113 v16_43 v81_38) w fun _ w =>
  kU Try.prog (Instr.storeAt 113 v17_52 v83_74) w fun _ w =>
  J3 [v16_43, v17_52] w)) ∧
  (kV Try.prog (Instr.loadAt 109 v11) w fun v82_28 w =>
  (kN Try.prog (callN (.func (.func 45) #[] #[]) #[v80_11]) w fun v81_39 w =>
  (kN Try.prog (callN (.func (.func 45) #[] #[]) #[v82_28]) w fun v83_75 w =>
  kV Try.prog (Instr.alloc 113 true (.tuple #[])) w fun v16_44 w =>
  kU Try.prog (Instr.storeAt 113 v16_44 v81_39) w fun _ w =>
  kU Try.prog (Instr.storeAt 113 v17_52 v83_75) w fun _ w =>
  J3 [v16_44, v17_52] w) ∧
  (kV Try.prog (Instr.alloc 113 true (.tuple #[])) w fun v16_45 w =>
  kN Try.prog (callN (.func (.func 45) #[] #[]) #[v82_28]) w fun v83_76 w =>
  kU Try.prog (Instr.storeAt 113 v16_45 v81_39) w fun _ w =>
  kU Try.prog (Instr.storeAt 113 v17_52 v83_76) w fun _ w =>
  J3 [v16_45, v17_52] w)) ∧
  (kV Try.prog (Instr.alloc 113 true (.tuple #[])) w fun v16_46 w =>
  kN Try.prog (callN (.func (.func 45) #[] #[]) #[v80_11]) w fun v81_40 w =>
  kN Try.prog (callN (.func (.func 45) #[] #[]) #[v82_28]) w fun v83_77 w =>
  kU Try.prog (Instr.storeAt 113 v16_46 v81_40) w fun _ w =>
  kU Try.prog (Instr.storeAt 113 v17_52 v83_77) w fun _ w =>
  J3 [v16_46, v17_52] w)) ∧
  (kV Try.prog (Instr.alloc 113 true (.tuple #[])) w fun v16_47 w =>
  (kN Try.prog (callN (.func (.func 45) #[] #[]) #[v80_11]) w fun v81_41 w =>
  kV Try.prog (Instr.loadAt 109 v11) w fun v82_29 w =>
  kN Try.prog (callN (.func (.func 45) #[] #[]) #[v82_29]) w fun v83_78 w =>
  kU Try.prog (Instr.storeAt 113 v16_47 v81_41) w fun _ w =>
  kU Try.prog (Instr.storeAt 113 v17_52 v83_78) w fun _ w =>
  J3 [v16_47, v17_52] w) ∧
  (kV Try.prog (Instr.loadAt 109 v11) w fun v82_30 w =>
  kN Try.prog (callN (.func (.func 45) #[] #[]) #[v80_11]) w fun v81_42 w =>
  kN Try.prog (callN (.func (.func 45) #[] #[]) #[v82_30]) w fun v83_79 w =>
  kU Try.prog (Instr.storeAt 113 v16_47 v81_42) w fun _ w =>
  kU Try.prog (Instr.storeAt 113 v17_52 v83_79) w fun _ w =>
  J3 [v16_47, v17_52] w))) ∧
  (kV Try.prog (Instr.loadAt 109 v11) w fun v82_31 w =>
  (kV Try.prog (Instr.loadAt 109 v3) w fun v80_12 w =>
  (kN Try.prog (callN (.func (.func 45) #[] #[]) #[v80_12]) w fun v81_43 w =>
  (kN Try.prog (callN (.func (.func 45) #[] #[]) #[v82_31]) w fun v83_80 w =>
  kV Try.prog (Instr.alloc 113 true (.tuple #[])) w fun v16_48 w =>
  kU Try.prog (Instr.storeAt 113 v16_48 v81_43) w fun _ w =>
  kU Try.prog (Instr.storeAt 113 v17_52 v83_80) w fun _ w =>
  J3 [v16_48, v17_52] w) ∧
  (kV Try.prog (Instr.alloc 113 true (.tuple #[])) w fun v16_49 w =>
  kN Try.prog (callN (.func (.func 45) #[] #[]) #[v82_31]) w fun v83_81 w =>
  kU Try.prog (Instr.storeAt 113 v16_49 v81_43) w fun _ w =>
  kU Try.prog (Instr.storeAt 113 v17_52 v83_81) w fun _ w =>
  J3 [v16_49, v17_52] w)) ∧
  (kV Try.prog (Instr.alloc 113 true (.tuple #[])) w fun v16_50 w =>
  kN Try.prog (callN (.func (.func 45) #[] #[]) #[v80_12]) w fun v81_44 w =>
  kN Try.prog (callN (.func (.func 45) #[] #[]) #[v82_31]) w fun v83_82 w =>
  kU Try.prog (Instr.storeAt 113 v16_50 v81_44) w fun _ w =>
  kU Try.prog (Instr.storeAt 113 v17_52 v83_82) w fun _ w =>
  J3 [v16_50, v17_52] w)) ∧
  (kV Try.prog (Instr.alloc 113 true (.tuple #[])) w fun v16_51 w =>
  kV Try.prog (Instr.loadAt 109 v3) w fun v80_13 w =>
  kN Try.prog (callN (.func (.func 45) #[] #[]) #[v80_13]) w fun v81_45 w =>
  kN Try.prog (callN (.func (.func 45) #[] #[]) #[v82_31]) w fun v83_83 w =>
  kU Try.prog (Instr.storeAt 113 v16_51 v81_45) w fun _ w =>
  kU Try.prog (Instr.storeAt 113 v17_52 v83_83) w fun _ w =>
  J3 [v16_51, v17_52] w)) ∧
  (kV Try.prog (Instr.alloc 113 true (.tuple #[])) w fun v16_52 w =>
  (kV Try.prog (Instr.loadAt 109 v3) w fun v80_14 w =>
  (kN Try.prog (callN (.func (.func 45) #[] #[]) #[v80_14]) w fun v81_46 w =>
  kV Try.prog (Instr.loadAt 109 v11) w fun v82_32 w =>
  kN Try.prog (callN (.func (.func 45) #[] #[]) #[v82_32]) w fun v83_84 w =>
  kU Try.prog (Instr.storeAt 113 v16_52 v81_46) w fun _ w =>
  kU Try.prog (Instr.storeAt 113 v17_52 v83_84) w fun _ w =>
  J3 [v16_52, v17_52] w) ∧
  (kV Try.prog (Instr.loadAt 109 v11) w fun v82_33 w =>
  kN Try.prog (callN (.func (.func 45) #[] #[]) #[v80_14]) w fun v81_47 w =>
  kN Try.prog (callN (.func (.func 45) #[] #[]) #[v82_33]) w fun v83_85 w =>
  kU Try.prog (Instr.storeAt 113 v16_52 v81_47) w fun _ w =>
  kU Try.prog (Instr.storeAt 113 v17_52 v83_85) w fun _ w =>
  J3 [v16_52, v17_52] w)) ∧
  (kV Try.prog (Instr.loadAt 109 v11) w fun v82_34 w =>
  kV Try.prog (Instr.loadAt 109 v3) w fun v80_15 w =>
  kN Try.prog (callN (.func (.func 45) #[] #[]) #[v80_15]) w fun v81_48 w =>
  kN Try.prog (callN (.func (.func 45) #[] #[]) #[v82_34]) w fun v83_86 w =>
  kU Try.prog (Instr.storeAt 113 v16_52 v81_48) w fun _ w =>
  kU Try.prog (Instr.storeAt 113 v17_52 v83_86) w fun _ w =>
  J3 [v16_52, v17_52] w)))) w) := by
  subst e3 e11
  have l5 := lt_of_at hd5
  have l6 := lt_of_at hc5
  have hsubd : ∀ (t : Bool) (x y : Int), sub (capC t x y) 0 3 = capC t x y := fun _ _ _ => by simp [capC, sub]
  simp (disch := first | assumption | omega | (simp only [szR, tgC_len, tgC_all, arC_len, arC_all, capC_len, capC_all] <;> omega) | rfl | decide) only [gen0, gen1, gen2, rulesM, litR, bolR, Nat.reduceAdd, Nat.reduceLeDiff, numR, memR, valR, heapR, updR, intR, decR, extR, slR, segR, thenR, pnR, Int.reduceToNat, Int.reduceAdd, Int.reduceSub, Int.reduceLT, Int.reduceLE, Nat.reduceSub, Nat.reduceMul, Nat.reduceEqDiff, hd5, hc5, hsubd, and_self]
  repeat' (with_reducible apply And.intro)
  all_goals refine capBytes_spec (by assumption) (by assumption) fun w6 hx6 => ?_
  all_goals
    have hk6 := kept0 hx6
    have hs6 := hx6.size
    try simp only [szR] at hs6
    have hy6 : Ext [] w0 w6 := Ext.trans (S := []) (by (repeat first | assumption | exact Ext.refl | apply Ext.alloc | apply Ext.drew | (refine Ext.updN ?_ ?_; (focus first | omega | (simp only [szR] <;> omega))) | (refine Ext.updI ?_ ?_; (focus (simp; done))))) hx6 (by simp)
    simp (disch := first | assumption | omega | (simp only [szR, tgC_len, tgC_all, arC_len, arC_all, capC_len, capC_all] <;> omega) | rfl | decide) only [gen0, gen1, gen2, rulesM, litR, bolR, Nat.reduceAdd, Nat.reduceLeDiff, numR, memR, valR, heapR, updR, intR, decR, extR, slR, segR, thenR, pnR, Int.reduceToNat, Int.reduceAdd, Int.reduceSub, Int.reduceLT, Int.reduceLE, Nat.reduceSub, Nat.reduceMul, Nat.reduceEqDiff, hk6, hd5, hc5, hsubd, and_self]
  all_goals repeat' (with_reducible apply And.intro)
  all_goals refine capBytes_spec (by assumption) (by assumption) fun w7 hx7 => ?_
  all_goals
    have hk7 := kept0 hx7
    have hs7 := hx7.size
    try simp only [szR] at hs7
    have hy7 : Ext [] w0 w7 := Ext.trans (S := []) (by (repeat first | assumption | exact Ext.refl | apply Ext.alloc | apply Ext.drew | (refine Ext.updN ?_ ?_; (focus first | omega | (simp only [szR] <;> omega))) | (refine Ext.updI ?_ ?_; (focus (simp; done))))) hx7 (by simp)
    have hz5 := hx15.size
    have hz6 := hy6.size
    have hz7 := hy7.size
    simp (disch := first | assumption | omega | (simp only [szR, tgC_len, tgC_all, arC_len, arC_all, capC_len, capC_all] <;> omega) | rfl | decide) only [gen0, gen1, gen2, rulesM, litR, bolR, Nat.reduceAdd, Nat.reduceLeDiff, numR, memR, valR, heapR, updR, intR, decR, extR, slR, segR, thenR, pnR, Int.reduceToNat, Int.reduceAdd, Int.reduceSub, Int.reduceLT, Int.reduceLE, Nat.reduceSub, Nat.reduceMul, Nat.reduceEqDiff, hk7, hk6, hd5, hc5, hsubd, arZ, arC_over, arC_len, arC_tail, and_self]
  all_goals repeat' (with_reducible apply And.intro)
  all_goals refine hrest _ _ _ (by first | with_reducible rfl | assumption | (simp (disch := first | assumption | omega | (simp only [szR, tgC_len, tgC_all, arC_len, arC_all, capC_len, capC_all] <;> omega) | rfl | decide) only [gen0, gen1, gen2, rulesM, litR, bolR, Nat.reduceAdd, Nat.reduceLeDiff, numR, memR, valR, heapR, updR, intR, decR, extR, slR, segR, thenR, pnR, Int.reduceToNat, Int.reduceAdd, Int.reduceSub, Int.reduceLT, Int.reduceLE, Nat.reduceSub, Nat.reduceMul, Nat.reduceEqDiff, hk7, hk6, arZ, arC_len, arC_tail] <;> rfl) | simp (disch := first | assumption | omega | (simp only [szR, tgC_len, tgC_all, arC_len, arC_all, capC_len, capC_all] <;> omega) | rfl | decide) only [gen0, gen1, gen2, rulesM, litR, bolR, Nat.reduceAdd, Nat.reduceLeDiff, numR, memR, valR, heapR, updR, intR, decR, extR, slR, segR, thenR, pnR, Int.reduceToNat, Int.reduceAdd, Int.reduceSub, Int.reduceLT, Int.reduceLE, Nat.reduceSub, Nat.reduceMul, Nat.reduceEqDiff, hk7, hk6, arZ, arC_len, arC_tail]) (by first | with_reducible rfl | assumption | (simp (disch := first | assumption | omega | (simp only [szR, tgC_len, tgC_all, arC_len, arC_all, capC_len, capC_all] <;> omega) | rfl | decide) only [gen0, gen1, gen2, rulesM, litR, bolR, Nat.reduceAdd, Nat.reduceLeDiff, numR, memR, valR, heapR, updR, intR, decR, extR, slR, segR, thenR, pnR, Int.reduceToNat, Int.reduceAdd, Int.reduceSub, Int.reduceLT, Int.reduceLE, Nat.reduceSub, Nat.reduceMul, Nat.reduceEqDiff, hk7, hk6, arZ, arC_len, arC_tail] <;> rfl) | simp (disch := first | assumption | omega | (simp only [szR, tgC_len, tgC_all, arC_len, arC_all, capC_len, capC_all] <;> omega) | rfl | decide) only [gen0, gen1, gen2, rulesM, litR, bolR, Nat.reduceAdd, Nat.reduceLeDiff, numR, memR, valR, heapR, updR, intR, decR, extR, slR, segR, thenR, pnR, Int.reduceToNat, Int.reduceAdd, Int.reduceSub, Int.reduceLT, Int.reduceLE, Nat.reduceSub, Nat.reduceMul, Nat.reduceEqDiff, hk7, hk6, arZ, arC_len, arC_tail]) (by (repeat first | assumption | exact Ext.refl | apply Ext.alloc | apply Ext.drew | (refine Ext.updN ?_ ?_; (focus first | omega | (simp only [szR] <;> omega))) | (refine Ext.updI ?_ ?_; (focus (simp; done)))))
set_option maxHeartbeats 4000000 in
theorem tags_spec {w : World} {c : Cp} {a1 a2 : Int} (hm : U64 c.mt) (hd : U64 c.ad) {K : Value → World → Prop} (hK : ∀ w', Ext [] w w' → K (.bool true) w') : callsK Try.prog 10 #[.agg (cpC c).toArray, .int .i64 a1, .int .i64 a2] w K := by
  unfold cpC
  obtain ⟨t, mt, ad⟩ := c
  simp only at hm hd ⊢
  apply F10_ok
  unfold F10
  simp (disch := first | assumption | omega | (simp only [szR, tgC_len, tgC_all, arC_len, arC_all, capC_len, capC_all] <;> omega) | rfl | decide) only [gen0, gen1, gen2, rulesM, litR, bolR, Nat.reduceAdd, Nat.reduceLeDiff, numR, memR, valR, heapR, updR, intR, decR, extR, slR, segR, thenR, pnR, Int.reduceToNat, Int.reduceAdd, Int.reduceSub, Int.reduceLT, Int.reduceLE, Nat.reduceSub, Nat.reduceMul, Nat.reduceEqDiff]
  have hx0 : Ext [] w (w.alloc (.cells (capC t mt ad).toArray 109)) := by (repeat first | assumption | exact Ext.refl | apply Ext.alloc | apply Ext.drew | (refine Ext.updN ?_ ?_; (focus first | omega | (simp only [szR] <;> omega))) | (refine Ext.updI ?_ ?_; (focus (simp; done))))
  refine New_spec (n := 2) (by omega) fun w1 hm1 hx1 => ?_
  simp only [szR] at hm1
  have hc3 := hx1.at (b := w.heap.size) (o := .cells (capC t mt ad).toArray 109) (by simp (disch := first | assumption | omega | (simp only [szR, tgC_len, tgC_all, arC_len, arC_all, capC_len, capC_all] <;> omega) | rfl | decide) only [gen0, gen1, gen2, rulesM, litR, bolR, Nat.reduceAdd, Nat.reduceLeDiff, numR, memR, valR, heapR, updR, intR, decR, extR, slR, segR, thenR, pnR, Int.reduceToNat, Int.reduceAdd, Int.reduceSub, Int.reduceLT, Int.reduceLE, Nat.reduceSub, Nat.reduceMul, Nat.reduceEqDiff]) (by simp)
  have hmask : bitI .and .i64 a1 511 = a1 % 512 := and_mask (k := .i64) (n := 9) (by decide)
  have hmask2 : bitI .and .i64 a2 8191 = a2 % 8192 := and_mask (k := .i64) (n := 13) (by decide)
  obtain ⟨P, hP⟩ : ∃ P : Nat, a1 % 512 = P := ⟨(a1 % 512).toNat, by omega⟩
  obtain ⟨O, hO⟩ : ∃ O : Nat, a2 % 8192 = O := ⟨(a2 % 8192).toNat, by omega⟩
  have hP2 : P < 512 := by omega
  have hO2 : O < 8192 := by omega
  rw [hP] at hmask
  rw [hO] at hmask2
  have e16 : (P : Int) * 16 = ((P * 16 : Nat) : Int) := by omega
  have hsub3 : sub (capC t mt ad) 0 3 = capC t mt ad := by simp [capC, sub]
  have hx01 := hx0.trans hx1 (by simp)
  simp (disch := first | assumption | omega | (simp only [szR, tgC_len, tgC_all, arC_len, arC_all, capC_len, capC_all] <;> omega) | rfl | decide) only [gen0, gen1, gen2, rulesM, litR, bolR, Nat.reduceAdd, Nat.reduceLeDiff, numR, memR, valR, heapR, updR, intR, decR, extR, slR, segR, thenR, pnR, Int.reduceToNat, Int.reduceAdd, Int.reduceSub, Int.reduceLT, Int.reduceLE, Nat.reduceSub, Nat.reduceMul, Nat.reduceEqDiff, joinBR, hmask, e16, hc3, hsub3, Option.isNone_some]
  refine StoreCap_spec hm1 (by omega) (by omega) (by omega) hm hd fun g2 w2 hm2 hb2 hx2 => ?_
  simp (disch := first | assumption | omega | (simp only [szR, tgC_len, tgC_all, arC_len, arC_all, capC_len, capC_all] <;> omega) | rfl | decide) only [gen0, gen1, gen2, rulesM, litR, bolR, Nat.reduceAdd, Nat.reduceLeDiff, numR, memR, valR, heapR, updR, intR, decR, extR, slR, segR, thenR, pnR, Int.reduceToNat, Int.reduceAdd, Int.reduceSub, Int.reduceLT, Int.reduceLE, Nat.reduceSub, Nat.reduceMul, Nat.reduceEqDiff, hmask2]
  refine Store_spec (s := 1) (v := 171) hm2 (by omega) (by omega) (.inl rfl) (by omega) (by omega) fun g3 w3 hm3 hb3 hx3 => ?_
  have hx13 : Ext [] w w3 := ((hx01.trans hx2 (by simp)).trans hx3 (by simp))
  simp (disch := first | assumption | omega | (simp only [szR, tgC_len, tgC_all, arC_len, arC_all, capC_len, capC_all] <;> omega) | rfl | decide) only [gen0, gen1, gen2, rulesM, litR, bolR, Nat.reduceAdd, Nat.reduceLeDiff, numR, memR, valR, heapR, updR, intR, decR, extR, slR, segR, thenR, pnR, Int.reduceToNat, Int.reduceAdd, Int.reduceSub, Int.reduceLT, Int.reduceLE, Nat.reduceSub, Nat.reduceMul, Nat.reduceEqDiff]
  refine LoadCap_spec hm3 (by omega) (by omega) (by omega) fun w4 hx4 => ?_
  rw [show P * 16 / 16 = P by omega]
  have hbP : bit g3 P = (t && !decide (P = O / 16)) := by
    rw [hb3 P (by omega), hb2 P (by omega), if_pos (by omega)]
  have hmm : ∀ i, i < 16 → stored (laid (fun _ => 0) (P * 16) 16 (capBy mt ad)) O 1 171 (P * 16 + i) = if O = P * 16 + i then 171 else capBy mt ad i := by
    intro i hi
    unfold stored laid
    by_cases h : O = P * 16 + i
    · rw [if_pos (by omega), if_pos h, h, Nat.sub_self]
      rfl
    · rw [if_neg (by omega), if_neg h, if_pos (by omega), Nat.add_sub_cancel_left]
  have hmO : stored (laid (fun _ => 0) (P * 16) 16 (capBy mt ad)) O 1 171 O = 171 := by
    unfold stored
    rw [if_pos (by omega), Nat.sub_self]
    rfl
  have hbm := hm3.byte
  generalize stored (laid (fun _ => 0) (P * 16) 16 (capBy mt ad)) O 1 171 = mm at hm3 hmm hmO hbm
  rw [hbP]
  have hdm := leN_u64 hbm (P * 16 + 8)
  have hda := leN_u64 hbm (P * 16)
  have hy1 : ∀ i, i < 16 → capBy (leN mm (P * 16 + 8) 8 : Nat) (leN mm (P * 16) 8 : Nat) i = if O = P * 16 + i then 171 else capBy mt ad i := by
    intro i hi
    rw [← hmm i hi]
    unfold capBy
    by_cases h : i < 8
    · rw [if_pos h, byteOf_leN hbm _ 8 i h]
    · rw [if_neg h, byteOf_leN hbm _ 8 (i - 8) (by omega), show P * 16 + 8 + (i - 8) = P * 16 + i by omega]
  have hsame : P ≠ O / 16 → ((leN mm (P * 16 + 8) 8 : Nat) : Int) = mt ∧ ((leN mm (P * 16) 8 : Nat) : Int) = ad := by
    intro hne
    have hb : ∀ v : Int, U64 v → leN (byteOf v) 0 8 = v.toNat := by
      intro v hv
      rw [leN_byteOf]
      exact Nat.mod_eq_of_lt (by have := hv.2; have := hv.1; simp; omega)
    have e1 : leN mm (P * 16 + 8) 8 = leN (byteOf mt) 0 8 := by
      rw [← leN_shift]
      refine leN_congr fun j hj => ?_
      rw [Nat.zero_add, show P * 16 + 8 + j = P * 16 + (8 + j) by omega, hmm _ (by omega), if_neg (by omega)]
      unfold capBy
      rw [if_neg (by omega), Nat.add_sub_cancel_left]
    have e2 : leN mm (P * 16) 8 = leN (byteOf ad) 0 8 := by
      rw [← leN_shift]
      refine leN_congr fun j hj => ?_
      rw [Nat.zero_add, hmm _ (by omega), if_neg (by omega)]
      unfold capBy
      rw [if_pos (by omega)]
    rw [e1, e2, hb _ hm, hb _ hd]
    unfold U64 at hm hd
    omega
  have hx14 := hx13.trans hx4 (by simp)
  have hm4 := hm3.ext hx4 (by simp) (by simp)
  have hl3 := lt_of_at hc3
  have hc34 := hx4.at (hx3.at (hx2.at hc3 (by simp <;> omega)) (by simp <;> omega)) (by simp)
  generalize leN mm (P * 16 + 8) 8 = dm at hdm hy1 hsame
  generalize leN mm (P * 16) 8 = da at hda hy1 hsame
  have hsubd : ∀ (t : Bool) (x y : Int), sub (capC t x y) 0 3 = capC t x y := fun _ _ _ => by simp [capC, sub]
  have hdt : (P = O / 16 ∧ (t && !decide (P = O / 16)) = false) ∨ (P ≠ O / 16 ∧ (t && !decide (P = O / 16)) = t ∧ (dm : Int) = mt ∧ (da : Int) = ad) := by
    by_cases h : P = O / 16
    · exact .inl ⟨h, by simp [h]⟩
    · exact .inr ⟨h, by simp [h], hsame h⟩
  generalize (t && !decide (P = O / 16)) = td at hdt
  simp (disch := first | assumption | omega | (simp only [szR, tgC_len, tgC_all, arC_len, arC_all, capC_len, capC_all] <;> omega) | rfl | decide) only [gen0, gen1, gen2, rulesM, litR, bolR, Nat.reduceAdd, Nat.reduceLeDiff, numR, memR, valR, heapR, updR, intR, decR, extR, slR, segR, thenR, pnR, Int.reduceToNat, Int.reduceAdd, Int.reduceSub, Int.reduceLT, Int.reduceLE, Nat.reduceSub, Nat.reduceMul, Nat.reduceEqDiff, capC_len]
  have hx45 : Ext [] w4 (w4.alloc (.cells (capC td dm da).toArray 109)) := by (repeat first | assumption | exact Ext.refl | apply Ext.alloc | apply Ext.drew | (refine Ext.updN ?_ ?_; (focus first | omega | (simp only [szR] <;> omega))) | (refine Ext.updI ?_ ?_; (focus (simp; done))))
  refine Load_spec (s := 1) (hm4.ext hx45 (by simp) (by simp)) (by omega) (by omega) (.inl rfl) (by omega) fun w5 hx5 => ?_
  rw [leN_one, hmO]
  have hd5 := hx5.at (b := w4.heap.size) (o := .cells (capC td dm da).toArray 109) (by simp (disch := first | assumption | omega | (simp only [szR, tgC_len, tgC_all, arC_len, arC_all, capC_len, capC_all] <;> omega) | rfl | decide) only [gen0, gen1, gen2, rulesM, litR, bolR, Nat.reduceAdd, Nat.reduceLeDiff, numR, memR, valR, heapR, updR, intR, decR, extR, slR, segR, thenR, pnR, Int.reduceToNat, Int.reduceAdd, Int.reduceSub, Int.reduceLT, Int.reduceLE, Nat.reduceSub, Nat.reduceMul, Nat.reduceEqDiff]) (by simp)
  have hc5 := hx5.at (hx45.at hc34 (by simp)) (by simp)
  have hx15 : Ext [] w w5 := (hx14.trans hx45 (by simp)).trans hx5 (by simp)
  have l5 := lt_of_at hd5
  have l6 := lt_of_at hc5
  have hq1 : ((P * 16 : Nat) : Int) / 16 = P := by omega
  have hd0 : ∀ (t : Bool) (x y : Int), (capC t x y)[0]? = some (.bool t) := fun _ _ _ => by simp [capC]
  clear hm4 hm3 hm2 hm1 hmm hbm hc34 hc3 hx4 hx13 hx3 hx2 hx1 hb2 hb3 hbP hmO
  have hneq : P ≠ O / 16 → ∀ x y w, (binV .neq 109 x y (.agg (capC td dm da).toArray) (.agg (capC t mt ad).toArray)).run Try.prog w = .ok (.bool false) w := by
    intro hne x y w
    rcases hdt with ⟨h, -⟩ | ⟨-, e1, e2, e3⟩
    · exact absurd h hne
    · rw [e1, e2, e3]
      simp only [capC]
      simp (disch := first | assumption | omega | (simp only [szR, tgC_len, tgC_all, arC_len, arC_all, capC_len, capC_all] <;> omega) | rfl | decide) only [gen0, gen1, gen2, rulesM, litR, bolR, Nat.reduceAdd, Nat.reduceLeDiff, numR, memR, valR, heapR, updR, intR, decR, extR, slR, segR, thenR, pnR, Int.reduceToNat, Int.reduceAdd, Int.reduceSub, Int.reduceLT, Int.reduceLE, Nat.reduceSub, Nat.reduceMul, Nat.reduceEqDiff]
      simp
  by_cases hin : P = O / 16
  · have htd : td = false := by
      rcases hdt with ⟨-, h⟩ | ⟨h, -⟩
      · exact h
      · exact absurd hin h
    simp (disch := first | assumption | omega | (simp only [szR, tgC_len, tgC_all, arC_len, arC_all, capC_len, capC_all] <;> omega) | rfl | decide) only [gen0, gen1, gen2, rulesM, litR, bolR, Nat.reduceAdd, Nat.reduceLeDiff, numR, memR, valR, heapR, updR, intR, decR, extR, slR, segR, thenR, pnR, Int.reduceToNat, Int.reduceAdd, Int.reduceSub, Int.reduceLT, Int.reduceLE, Nat.reduceSub, Nat.reduceMul, Nat.reduceEqDiff, joinBR, hq1, hd5, hd0, htd, Int.toNat_natCast]
    refine joinL.intro fun J3 hJ3 => ?_
    have hrest : ∀ b16 b17 w6, w6.heap[b16]? = some (.cells (arC 16 (capBy mt ad)).toArray 113 (0, 0)) → w6.heap[b17]? = some (.cells (arC 16 (capBy dm da)).toArray 113 (0, 0)) → Ext [] w w6 → J3 [.pointer (some ⟨b16, 0, none⟩), .pointer (some ⟨b17, 0, none⟩)] w6 := by
      intro b16 b17 w6 g1 g2 g3
      apply hJ3
      intro _
      refine loopT.intro (fun st w' => ∃ (k : Nat) (z : Int), k ≤ 16 ∧ st = [.int .i64 z] ∧ z = k ∧ Ext [] w6 w')
        (fun st _ => match st with
          | [.int _ z] => 16 - z.toNat
          | _ => 0) ⟨0, 0, by omega, rfl, rfl, Ext.refl⟩ ?_
      rintro st w7 ⟨k, z, hk, rfl, rfl, hx7⟩ _
      have k1 := hx7.at g1 (by simp)
      have k2 := hx7.at g2 (by simp)
      by_cases hk16 : k < 16
      · have hyk := hy1 k hk16
        have hrem : (O : Int) % 16 = ((O % 16 : Nat) : Int) := by omega
        by_cases hOk : O = P * 16 + k
        · rw [if_pos hOk] at hyk
          have hO16 : ((O % 16 : Nat) : Int) = k := by omega
          by_cases hc : capBy mt ad k = 171
          · simp (disch := first | assumption | omega | (simp only [szR, tgC_len, tgC_all, arC_len, arC_all, capC_len, capC_all] <;> omega) | rfl | decide) only [gen0, gen1, gen2, rulesM, litR, bolR, Nat.reduceAdd, Nat.reduceLeDiff, numR, memR, valR, heapR, updR, intR, decR, extR, slR, segR, thenR, pnR, Int.reduceToNat, Int.reduceAdd, Int.reduceSub, Int.reduceLT, Int.reduceLE, Nat.reduceSub, Nat.reduceMul, Nat.reduceEqDiff, joinBR, k1, k2, arC_get, hyk, hc]
            exact ⟨⟨k + 1, (k : Int) + 1, by omega, rfl, by omega, hx7.drew⟩, by first | omega | (simp <;> omega)⟩
          · simp (disch := first | assumption | omega | (simp only [szR, tgC_len, tgC_all, arC_len, arC_all, capC_len, capC_all] <;> omega) | rfl | decide) only [gen0, gen1, gen2, rulesM, litR, bolR, Nat.reduceAdd, Nat.reduceLeDiff, numR, memR, valR, heapR, updR, intR, decR, extR, slR, segR, thenR, pnR, Int.reduceToNat, Int.reduceAdd, Int.reduceSub, Int.reduceLT, Int.reduceLE, Nat.reduceSub, Nat.reduceMul, Nat.reduceEqDiff, joinBR, k1, k2, arC_get, hyk, hrem, hO16]
            exact ⟨⟨k + 1, (k : Int) + 1, by omega, rfl, by omega, hx7.drew⟩, by first | omega | (simp <;> omega)⟩
        · rw [if_neg hOk] at hyk
          simp (disch := first | assumption | omega | (simp only [szR, tgC_len, tgC_all, arC_len, arC_all, capC_len, capC_all] <;> omega) | rfl | decide) only [gen0, gen1, gen2, rulesM, litR, bolR, Nat.reduceAdd, Nat.reduceLeDiff, numR, memR, valR, heapR, updR, intR, decR, extR, slR, segR, thenR, pnR, Int.reduceToNat, Int.reduceAdd, Int.reduceSub, Int.reduceLT, Int.reduceLE, Nat.reduceSub, Nat.reduceMul, Nat.reduceEqDiff, joinBR, k1, k2, arC_get, hyk]
          exact ⟨⟨k + 1, (k : Int) + 1, by omega, rfl, by omega, hx7.drew⟩, by first | omega | (simp <;> omega)⟩
      · simp (disch := first | assumption | omega | (simp only [szR, tgC_len, tgC_all, arC_len, arC_all, capC_len, capC_all] <;> omega) | rfl | decide) only [gen0, gen1, gen2, rulesM, litR, bolR, Nat.reduceAdd, Nat.reduceLeDiff, numR, memR, valR, heapR, updR, intR, decR, extR, slR, segR, thenR, pnR, Int.reduceToNat, Int.reduceAdd, Int.reduceSub, Int.reduceLT, Int.reduceLE, Nat.reduceSub, Nat.reduceMul, Nat.reduceEqDiff]
        exact hK _ (g3.trans hx7 (by simp))
    exact region_spec hc5 hd5 hm hd hdm hda hx15 hrest _ _ rfl rfl
  · have hne := hneq hin
    simp (disch := first | assumption | omega | (simp only [szR, tgC_len, tgC_all, arC_len, arC_all, capC_len, capC_all] <;> omega) | rfl | decide) only [gen0, gen1, gen2, rulesM, litR, bolR, Nat.reduceAdd, Nat.reduceLeDiff, numR, memR, valR, heapR, updR, intR, decR, extR, slR, segR, thenR, pnR, Int.reduceToNat, Int.reduceAdd, Int.reduceSub, Int.reduceLT, Int.reduceLE, Nat.reduceSub, Nat.reduceMul, Nat.reduceEqDiff, joinBR, hq1, hd5, hc5, hsubd, hne, Int.toNat_natCast]
    refine joinL.intro fun J3 hJ3 => ?_
    have hrest : ∀ b16 b17 w6, w6.heap[b16]? = some (.cells (arC 16 (capBy mt ad)).toArray 113 (0, 0)) → w6.heap[b17]? = some (.cells (arC 16 (capBy dm da)).toArray 113 (0, 0)) → Ext [] w w6 → J3 [.pointer (some ⟨b16, 0, none⟩), .pointer (some ⟨b17, 0, none⟩)] w6 := by
      intro b16 b17 w6 g1 g2 g3
      apply hJ3
      intro _
      refine loopT.intro (fun st w' => ∃ (k : Nat) (z : Int), k ≤ 16 ∧ st = [.int .i64 z] ∧ z = k ∧ Ext [] w6 w')
        (fun st _ => match st with
          | [.int _ z] => 16 - z.toNat
          | _ => 0) ⟨0, 0, by omega, rfl, rfl, Ext.refl⟩ ?_
      rintro st w7 ⟨k, z, hk, rfl, rfl, hx7⟩ _
      have k1 := hx7.at g1 (by simp)
      have k2 := hx7.at g2 (by simp)
      by_cases hk16 : k < 16
      · have hyk := hy1 k hk16
        have hrem : (O : Int) % 16 = ((O % 16 : Nat) : Int) := by omega
        by_cases hOk : O = P * 16 + k
        · rw [if_pos hOk] at hyk
          exact absurd (show P = O / 16 by omega) hin
        · rw [if_neg hOk] at hyk
          simp (disch := first | assumption | omega | (simp only [szR, tgC_len, tgC_all, arC_len, arC_all, capC_len, capC_all] <;> omega) | rfl | decide) only [gen0, gen1, gen2, rulesM, litR, bolR, Nat.reduceAdd, Nat.reduceLeDiff, numR, memR, valR, heapR, updR, intR, decR, extR, slR, segR, thenR, pnR, Int.reduceToNat, Int.reduceAdd, Int.reduceSub, Int.reduceLT, Int.reduceLE, Nat.reduceSub, Nat.reduceMul, Nat.reduceEqDiff, joinBR, k1, k2, arC_get, hyk]
          exact ⟨⟨k + 1, (k : Int) + 1, by omega, rfl, by omega, hx7.drew⟩, by first | omega | (simp <;> omega)⟩
      · simp (disch := first | assumption | omega | (simp only [szR, tgC_len, tgC_all, arC_len, arC_all, capC_len, capC_all] <;> omega) | rfl | decide) only [gen0, gen1, gen2, rulesM, litR, bolR, Nat.reduceAdd, Nat.reduceLeDiff, numR, memR, valR, heapR, updR, intR, decR, extR, slR, segR, thenR, pnR, Int.reduceToNat, Int.reduceAdd, Int.reduceSub, Int.reduceLT, Int.reduceLE, Nat.reduceSub, Nat.reduceMul, Nat.reduceEqDiff]
        exact hK _ (g3.trans hx7 (by simp))
    exact region_spec hc5 hd5 hm hd hdm hda hx15 hrest _ _ rfl rfl
end Go.Proofs.Ytlklhempbpphhaa
