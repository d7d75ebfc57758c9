/- Part 7 of what the law ExecLays stands on: formulas of the functions that it reaches, and what each of them does; conditions: those of each theorem. -/
import Derived.Test.YtldkfbelnndaoaaGreatDoorP6
set_option linter.unusedVariables false
set_option linter.unusedSimpArgs false
namespace Go.Proofs.YtldkfbelnndaoaaGreatDoor
open Go.Fx
set_option maxRecDepth 100000
theorem pN_pickE {P : Program} {c : Bool} {a b : Value} {K : Value -> Prop} : pN P (pickN (.bool c) a b) K = K (if c then a else b) := by
 apply propext
 constructor
 ·rintro ⟨v, h, hk⟩
  have h1 := h default
  have h2 : (pickN (.bool c) a b).run P default = .ok (.value (if c then a else b)) default := by cases c <;> rfl
  have h3 := h1.symm.trans h2
  have h4 : v = if c then a else b := by
   injection h3 with h4
   injection h4
  exact h4 ▸ hk
 ·exact pN_pick
theorem gdPR : (∀ (A : (Value -> Prop) -> Prop) (K : Value -> Prop), gdP (yb (.bool true)) true A K = A K) /\ (∀ (A : (Value -> Prop) -> Prop) (K : Value -> Prop), gdP (yb (.bool false)) false A K = A K) /\ (∀ (A : (Value -> Prop) -> Prop) (K : Value -> Prop), gdP (yb (.bool false)) true A K = K undef) /\
  (∀ (A : (Value -> Prop) -> Prop) (K : Value -> Prop), gdP (yb (.bool true)) false A K = K undef) /\ (∀ (want : Bool) (A : (Value -> Prop) -> Prop) (K : Value -> Prop), gdP (yb undef) want A K = K undef) :=
 ⟨fun _ _ => gdP_yes, fun _ _ => gdP_yes, fun _ _ => gdP_no1, fun _ _ => gdP_no2, fun _ _ _ => by simp [gdP, yb, undef]⟩
theorem wordF_val {B T E : Nat} (hB : B < 16384) (hT : T < 4096) (hE : E < 64) : wordF B T E 3 = B + T * 16384 + E * 67108864 := by
 show 0 + B % 2 ^ 14 * 2 ^ 0 + T % 2 ^ 12 * 2 ^ 14 + E % 2 ^ 6 * 2 ^ 26 = _
 rw [Nat.mod_eq_of_lt (show B < 2 ^ 14 by simpa using hB), Nat.mod_eq_of_lt (show T < 2 ^ 12 by simpa using hT), Nat.mod_eq_of_lt (show E < 2 ^ 6 by simpa using hE)]
 simp
theorem neqF134 (B T E : Nat) (x y : Operand) (w : World) : (binV .neq 226 x y (.agg (fdsC B T E).toArray) (.agg (fdsC B T E).toArray)).run Tryz.prog w = .ok (.bool false) w := by
 have := RC_neq_226 B B T T E E x y w
 simpa [fdsC] using this
theorem fdsC_at (B T E : Nat) : (fdsC B T E)[0]? = some (.int .u64 B) /\ (fdsC B T E)[1]? = some (.int .u64 T) /\ (fdsC B T E)[2]? = some (.int .u64 E) := ⟨rfl, rfl, rfl⟩
theorem spC_none : spC none = [.int .u64 0, .int .u64 0] := rfl
theorem or_half {n : Nat} (h : n < 4096) : bitI .or .u64 (n : Int) 4096 = ((n + 4096 : Nat) : Int) := by
 have := or_u64 (a := (n : Int)) (b := 4096) (by omega) (by omega)
 have e : n ||| 4096 = n + 4096 := by
  have := Nat.two_pow_add_eq_or_of_lt (i := 12) (b := n) (by simpa using h) 1
  rw [Nat.or_comm]
  simp at this
  omega
 rw [this]
 simp [e]
theorem wrapMod (z : Int) : IntKind.u64.wrap z = z % 18446744073709551616 := by
 simp only [IntKind.wrap, IntKind.signed, IntKind.bits]
 simp
theorem mask12 (z : Int) : bitI .and .u64 z 4095 = z % 4096 := and_mask (k := .u64) (n := 12) (by decide)
theorem mask14 (z : Int) : bitI .and .u64 z 16383 = z % 16384 := and_mask (k := .u64) (n := 14) (by decide)
theorem subMask12 {x y : Nat} (hx : x < 18446744073709551616) (hy : y <= 16384) : bitI .and .u64 (IntKind.u64.wrap ((x : Int) - y)) 4095 = (((x + 16384 - y) % 4096 : Nat) : Int) := by
 rw [mask12, wrapMod]
 omega
theorem subMask14 {x y : Nat} (hx : x < 18446744073709551616) (hy : y <= 16384) : bitI .and .u64 (IntKind.u64.wrap (IntKind.u64.wrap ((x : Int) - y) + 4096)) 16383 = (((x + 16384 - y + 4096) % 16384 : Nat) : Int) := by
 rw [mask14, wrapMod, wrapMod]
 omega
theorem Decode_spec {w : World} {B T E a : Nat} (hB : B < 16384) (hT : T < 4096) (hE : E < 64) (ha : a < 18446744073709551616) {K : Value -> World -> Prop} (hK : ∀ w', Ext [] w w' -> K (.tuple #[.agg (spC (spn B T E a)).toArray, .bool (spn B T E a).isSome]) w') :
  callsK Tryz.prog 136 #[.agg (fdsC B T E).toArray, .int .u64 a] w K := by
 have hwv := wordF_val hB hT hE
 apply F136_ok
 unfold F136
 simp (disch := first | exact qD9 | fail) only [qG0, Nat.reduceAdd, Nat.reduceLeDiff, Int.reduceToNat, Int.reduceAdd, Int.reduceSub, Int.reduceLT, Int.reduceLE, Nat.reduceSub, Nat.reduceMul, Nat.reduceEqDiff]
 refine joinL.intro fun J0 hJ0 => ?_
 have hb : ∀ w1 b, b = decide (37 < E ∨ 281474976710656 <= a) -> w1.heap[w.heap.size]? = some (.cells (fdsC B T E).toArray 226 (0, 0)) -> w1.heap[w.heap.size + 1]? = some (.cells [.int .u64 0, .int .u64 0].toArray 158 (0, 0)) -> Ext [] w w1 -> J0 [.bool b] w1 := by
  rintro w1 b hb c2 c4 hx1
  have l4 := lt_of_at c4
  apply hJ0
  intro _
  by_cases h37 : 37 < E ∨ 281474976710656 <= a
  ·have e : spn B T E a = none := by unfold spn; rw [if_pos h37]
   rw [decide_eq_true h37] at hb
   subst hb
   rw [e] at hK
   simp only [spC_none] at hK
   simp (disch := first | exact qD9 | fail) only [qG0, Nat.reduceAdd, Nat.reduceLeDiff, Int.reduceToNat, Int.reduceAdd, Int.reduceSub, Int.reduceLT, Int.reduceLE, Nat.reduceSub, Nat.reduceMul, Nat.reduceEqDiff, c4]
   exact hK _ qX
  ·rw [decide_eq_false h37] at hb
   subst hb
   have hn := subMask12 (x := T) (y := B) (by omega) (by omega)
   have hfd := fdivP (v := a) (E - 1)
   have hfq : (281474976710656 : Int).fdiv (2 ^ (E - 1)) = ((281474976710656 / 2 ^ (E - 1) : Nat) : Int) := fdivP (v := 281474976710656) (E - 1)
   have hqm := Nat.div_mul_le_self 281474976710656 (2 ^ (E - 1))
   have hm1 := fun v => mulP (v := v) (E - 1)
   have hle := Nat.div_le_self a (2 ^ (E - 1))
   have hq1 := Nat.div_le_self 281474976710656 (2 ^ (E - 1))
   have hnl : (T + 16384 - B) % 4096 < 4096 := Nat.mod_lt _ (by decide)
   have hspn : spn B T E a = if a / 2 ^ (E - 1) + 4096 < (a / 2 ^ (E - 1) + 16384 - B + 4096) % 16384 then none
 else if 281474976710656 / 2 ^ (E - 1) < a / 2 ^ (E - 1) + 4096 - (a / 2 ^ (E - 1) + 16384 - B + 4096) % 16384 + ((T + 16384 - B) % 4096 + if 0 < E then 4096 else 0) then none
 else some ((a / 2 ^ (E - 1) + 4096 - (a / 2 ^ (E - 1) + 16384 - B + 4096) % 16384) * 2 ^ (E - 1), (a / 2 ^ (E - 1) + 4096 - (a / 2 ^ (E - 1) + 16384 - B + 4096) % 16384 + ((T + 16384 - B) % 4096 + if 0 < E then 4096 else 0)) * 2 ^ (E - 1)) := by
    unfold spn
    rw [if_neg h37]
   rw [hspn] at hK
   clear hspn
   simp (disch := first | exact qD9 | fail) only [qG0, Nat.reduceAdd, Nat.reduceLeDiff, Int.reduceToNat, Int.reduceAdd, Int.reduceSub, Int.reduceLT, Int.reduceLE, Nat.reduceSub, Nat.reduceMul, Nat.reduceEqDiff, c2, fdsC_at]
   refine shift_spec hE ?_
   simp (disch := first | exact qD9 | fail) only [qG0, Nat.reduceAdd, Nat.reduceLeDiff, Int.reduceToNat, Int.reduceAdd, Int.reduceSub, Int.reduceLT, Int.reduceLE, Nat.reduceSub, Nat.reduceMul, Nat.reduceEqDiff, c2, fdsC_at, hn]
   refine joinL.intro fun J3 hJ3 => ?_
   have h3 : ∀ n : Nat, n = (T + 16384 - B) % 4096 + (if 0 < E then 4096 else 0) -> J3 [.int .u64 (n : Int)] w1 := by
    intro n hn'
    rw [<- hn'] at hK
    have hn8 : n < 8192 := by rw [hn']; split <;> omega
    clear hn'
    apply hJ3
    intro _
    have hd := subMask14 (x := a / 2 ^ (E - 1)) (y := B) (by omega) (by omega)
    have hd14 : (a / 2 ^ (E - 1) + 16384 - B + 4096) % 16384 < 16384 := Nat.mod_lt _ (by decide)
    generalize 2 ^ (E - 1) = p at *
    generalize a / p = at0 at *
    generalize 281474976710656 / p = qq at *
    generalize (at0 + 16384 - B + 4096) % 16384 = d at *
    by_cases hlt : at0 + 4096 < d
    ·rw [if_pos hlt] at hK
     simp only [spC_none] at hK
     simp (disch := first | exact qD9 | fail) only [qG0, Nat.reduceAdd, Nat.reduceLeDiff, Int.reduceToNat, Int.reduceAdd, Int.reduceSub, Int.reduceLT, Int.reduceLE, Nat.reduceSub, Nat.reduceMul, Nat.reduceEqDiff, c2, c4, fdsC_at, hfd, hd]
     exact hK _ qX
    ·rw [if_neg hlt] at hK
     have e57 : (at0 : Int) + 4096 - (d : Int) = ((at0 + 4096 - d : Nat) : Int) := by omega
     by_cases hq2 : qq < at0 + 4096 - d + n
     ·rw [if_pos hq2] at hK
      simp only [spC_none] at hK
      generalize at0 + 4096 - d = bs at *
      simp (disch := first | exact qD9 | fail) only [qG0, Nat.reduceAdd, Nat.reduceLeDiff, Int.reduceToNat, Int.reduceAdd, Int.reduceSub, Int.reduceLT, Int.reduceLE, Nat.reduceSub, Nat.reduceMul, Nat.reduceEqDiff, c2, c4, fdsC_at, hfd, hfq, hd, e57]
      exact hK _ qX
     ·rw [if_neg hq2] at hK
      generalize at0 + 4096 - d = bs at *
      have hmb : (bs + n) * p <= qq * p := Nat.mul_le_mul_right _ (by omega)
      have hmb2 : bs * p <= (bs + n) * p := Nat.mul_le_mul_right _ (by omega)
      have e60 : (bs : Int) + (n : Int) = ((bs + n : Nat) : Int) := by omega
      have hs1 := hm1 bs (by omega)
      have hs2 := hm1 (bs + n) (by omega)
      have hK' : ∀ w', Ext [] w w' -> K (.tuple #[.agg [.int .u64 ((bs * p : Nat) : Int), .int .u64 (((bs + n) * p : Nat) : Int)].toArray, .bool true]) w' := hK
      clear hK
      simp (disch := first | exact qD9 | fail) only [qG0, Nat.reduceAdd, Nat.reduceLeDiff, Int.reduceToNat, Int.reduceAdd, Int.reduceSub, Int.reduceLT, Int.reduceLE, Nat.reduceSub, Nat.reduceMul, Nat.reduceEqDiff, c2, c4, fdsC_at, hfd, hfq, hd, e57, e60, hs1, hs2]
      exact hK' _ qX
   clear hJ3 hK
   by_cases hE0 : 0 < E
   ·have hor := or_half hnl
    simp (disch := first | exact qD9 | fail) only [qG0, Nat.reduceAdd, Nat.reduceLeDiff, Int.reduceToNat, Int.reduceAdd, Int.reduceSub, Int.reduceLT, Int.reduceLE, Nat.reduceSub, Nat.reduceMul, Nat.reduceEqDiff, c2, fdsC_at, hor]
    exact h3 _ (by rw [if_pos hE0])
   ·obtain rfl : E = 0 := by omega
    simp (disch := first | exact qD9 | fail) only [qG0, Nat.reduceAdd, Nat.reduceLeDiff, Int.reduceToNat, Int.reduceAdd, Int.reduceSub, Int.reduceLT, Int.reduceLE, Nat.reduceSub, Nat.reduceMul, Nat.reduceEqDiff, c2, fdsC_at]
    exact h3 _ rfl
 clear hJ0 hK
 simp (disch := first | exact qD9 | fail) only [qG0, Nat.reduceAdd, Nat.reduceLeDiff, Int.reduceToNat, Int.reduceAdd, Int.reduceSub, Int.reduceLT, Int.reduceLE, Nat.reduceSub, Nat.reduceMul, Nat.reduceEqDiff, fdsC_at, fdsC_sub]
 repeat' (with_reducible apply And.intro)
 all_goals
  refine BWord_spec (by omega) (by omega) (by omega) fun w2 hx2 => ?_
  have hk2 := kept0 hx2
  have d2 : w2.heap[w.heap.size]? = some (.cells (fdsC B T E).toArray 226 (0, 0)) := (by first | with_reducible rfl | assumption | (simp (disch := first | exact qD9 | fail) only [qG0, Nat.reduceAdd, Nat.reduceLeDiff, Int.reduceToNat, Int.reduceAdd, Int.reduceSub, Int.reduceLT, Int.reduceLE, Nat.reduceSub, Nat.reduceMul, Nat.reduceEqDiff, hk2] <;> rfl))
  have d4 : w2.heap[w.heap.size + 1]? = some (.cells [.int .u64 0, .int .u64 0].toArray 158 (0, 0)) := (by first | with_reducible rfl | assumption | (simp (disch := first | exact qD9 | fail) only [qG0, Nat.reduceAdd, Nat.reduceLeDiff, Int.reduceToNat, Int.reduceAdd, Int.reduceSub, Int.reduceLT, Int.reduceLE, Nat.reduceSub, Nat.reduceMul, Nat.reduceEqDiff, hk2] <;> rfl))
  have hxw2 : Ext [] w w2 := Ext.trans (S := []) qX hx2 (by simp)
  rw [hwv]
  simp (disch := first | exact qD9 | fail) only [qG0, Nat.reduceAdd, Nat.reduceLeDiff, Int.reduceToNat, Int.reduceAdd, Int.reduceSub, Int.reduceLT, Int.reduceLE, Nat.reduceSub, Nat.reduceMul, Nat.reduceEqDiff, d2, fdsC_sub]
  repeat' (with_reducible apply And.intro)
 all_goals
  refine BOf_spec (by omega) fun w3 hx3 => ?_
  have e1 : (B + T * 16384 + E * 67108864) % 16384 = B := by omega
  have e2 : (B + T * 16384 + E * 67108864) / 16384 % 4096 = T := by omega
  have e3 : (B + T * 16384 + E * 67108864) / 67108864 % 64 = E := by omega
  rw [e1, e2, e3]
  have d3 := hx3.at d2 (by simp)
  have d5 := hx3.at d4 (by simp)
  by_cases h37 : 37 < E
  ·simp (disch := first | exact qD9 | fail) only [qG0, Nat.reduceAdd, Nat.reduceLeDiff, Int.reduceToNat, Int.reduceAdd, Int.reduceSub, Int.reduceLT, Int.reduceLE, Nat.reduceSub, Nat.reduceMul, Nat.reduceEqDiff, gdPR, pN_pickE, d3, fdsC_sub, fdsC_at, neqF134]
   exact hb w3 _ (by simp [h37]) d3 d5 (hxw2.trans hx3 (by simp))
  ·by_cases h48 : 281474976710656 <= a
   ·simp (disch := first | exact qD9 | fail) only [qG0, Nat.reduceAdd, Nat.reduceLeDiff, Int.reduceToNat, Int.reduceAdd, Int.reduceSub, Int.reduceLT, Int.reduceLE, Nat.reduceSub, Nat.reduceMul, Nat.reduceEqDiff, gdPR, pN_pickE, d3, fdsC_sub, fdsC_at, neqF134]
    exact hb w3 _ (by simp [h48]) d3 d5 (hxw2.trans hx3 (by simp))
   ·simp (disch := first | exact qD9 | fail) only [qG0, Nat.reduceAdd, Nat.reduceLeDiff, Int.reduceToNat, Int.reduceAdd, Int.reduceSub, Int.reduceLT, Int.reduceLE, Nat.reduceSub, Nat.reduceMul, Nat.reduceEqDiff, gdPR, pN_pickE, d3, fdsC_sub, fdsC_at, neqF134]
    exact hb w3 _ (by simp [h37, h48]) d3 d5 (hxw2.trans hx3 (by simp))
open Go.Fx
set_option maxRecDepth 100000
theorem spC_len (o : Option (Nat × Nat)) : (spC o).length = 2 := by simp [spC]
theorem spC_all (o : Option (Nat × Nat)) : (spC o).all (fun v => v.oneCell') = true := by simp [spC]; exact ⟨rfl, rfl⟩
theorem spC_over (o : Option (Nat × Nat)) : splice [.int .u64 0, .int .u64 0] 0 (spC o) = spC o := rfl
theorem spC_put (o : Option (Nat × Nat)) : spC o ++ List.drop (spC o).length [.int .u64 0, .int .u64 0] = spC o := by simp [spC]
def spM (m a : Nat) : Option (Nat × Nat) := spn (m % 16384) (m / 16384 % 4096) (m / 67108864 % 64) a
def cpC (t : Bool) (m a : Nat) : List Value := [.bool t, .int .u64 m, .int .u64 a]
def vwC (m a : Nat) : List Value := [.int .u64 (spB (spM m a) : Nat), .int .u64 (spT (spM m a) : Nat), .int .u64 (m / 4294967296 % 512 : Nat), .int .u64 (m / 281474976710656 % 4096 : Nat)]
theorem qZ10 : type_of% (And.intro @szR (And.intro @fdsC_len (And.intro @fdsC_all (And.intro @wdsC_len (And.intro @wdsC_all (And.intro @spC_len (@spC_all))))))) := ⟨@szR, @fdsC_len, @fdsC_all, @wdsC_len, @wdsC_all, @spC_len, @spC_all⟩
theorem qD10 {p : Prop} (h : p := by first | assumption | omega | (simp only [qZ10] <;> omega) | rfl | decide) : p := h
theorem Look_spec {w : World} {t : Bool} {m a : Nat} (hm : m < 18446744073709551616) (ha : a < 18446744073709551616) {K : Value -> World -> Prop} (hK : ∀ w', Ext [] w w' -> K (.tuple #[.agg (vwC m a).toArray, .bool (spM m a).isSome]) w') :
  callsK Tryz.prog 105 #[.agg (cpC t m a).toArray] w K := by
 have hB : m % 16384 < 16384 := Nat.mod_lt _ (by decide)
 have hT : m / 16384 % 4096 < 4096 := Nat.mod_lt _ (by decide)
 have hE : m / 67108864 % 64 < 64 := Nat.mod_lt _ (by decide)
 apply F105_ok
 unfold F105
 simp only [cpC]
 simp (disch := first | exact qD10 | fail) only [qG0, Nat.reduceAdd, Nat.reduceLeDiff, Int.reduceToNat, Int.reduceAdd, Int.reduceSub, Int.reduceLT, Int.reduceLE, Nat.reduceSub, Nat.reduceMul, Nat.reduceEqDiff]
 refine joinL.intro fun J0 hJ0 => ?_
 have hfin : ∀ b4 w1, w1.heap[w.heap.size]? = some (.cells [.bool t, .int .u64 m, .int .u64 a].toArray 37 (0, 0)) -> w1.heap[w.heap.size + 1]? = some (.cells [.int .u64 0, .int .u64 0, .int .u64 0, .int .u64 0].toArray 160 (0, 0)) -> w.heap.size + 1 < b4 -> w1.heap[b4]? = some (.cells (spC (spM m a)).toArray 158 (0, 0)) -> Ext [] w w1 -> J0 [.pointer (some ⟨b4, 0, none⟩), .bool (spM m a).isSome] w1 := by
  intro b4 w1 c1 c2 hb4 c4 hx1
  have l4 := lt_of_at c4
  simp only [spC] at c4
  have hK' : ∀ w', Ext [] w w' -> K (.tuple #[.agg [.int .u64 (spB (spM m a) : Nat), .int .u64 (spT (spM m a) : Nat), .int .u64 ((m / 2 ^ 32 % 2 ^ 9 : Nat) : Int), .int .u64 ((m / 2 ^ 48 % 2 ^ 12 : Nat) : Int)].toArray, .bool (spM m a).isSome]) w' := hK
  clear hK
  generalize (spM m a).isSome = ok at *
  generalize spB (spM m a) = sb at *
  generalize spT (spM m a) = st at *
  apply hJ0
  intro _
  clear hJ0
  simp (disch := first | exact qD10 | fail) only [qG0, Nat.reduceAdd, Nat.reduceLeDiff, Int.reduceToNat, Int.reduceAdd, Int.reduceSub, Int.reduceLT, Int.reduceLE, Nat.reduceSub, Nat.reduceMul, Nat.reduceEqDiff, c1, c2, c4]
  repeat' (with_reducible apply And.intro)
  all_goals
   refine fGet_spec (by omega) (by omega) (by omega) hm fun w2 hx2 => ?_
   have d1 := hx2.at c1 (by simp)
   have d2 := hx2.at c2 (by simp)
   have d4 := hx2.at c4 (by simp)
   simp (disch := first | exact qD10 | fail) only [qG0, Nat.reduceAdd, Nat.reduceLeDiff, Int.reduceToNat, Int.reduceAdd, Int.reduceSub, Int.reduceLT, Int.reduceLE, Nat.reduceSub, Nat.reduceMul, Nat.reduceEqDiff, d1, d2, d4]
   repeat' (with_reducible apply And.intro)
  all_goals
   refine fGet_spec (by omega) (by omega) (by omega) hm fun w3 hx3 => ?_
   have e1 := hx3.at d1 (by simp)
   have e2 := hx3.at d2 (by simp)
   have e4 := hx3.at d4 (by simp)
   have hxw2 : Ext [] w w2 := Ext.trans (S := []) qX hx2 (by simp)
   have hxw3 : Ext [] w w3 := Ext.trans (S := []) qX hx3 (by simp)
   have l2 := lt_of_at e2
   simp (disch := first | exact qD10 | fail) only [qG0, Nat.reduceAdd, Nat.reduceLeDiff, Int.reduceToNat, Int.reduceAdd, Int.reduceSub, Int.reduceLT, Int.reduceLE, Nat.reduceSub, Nat.reduceMul, Nat.reduceEqDiff, e1, e2, e4]
   exact hK' _ qX
 clear hJ0 hK
 simp (disch := first | exact qD10 | fail) only [qG0, Nat.reduceAdd, Nat.reduceLeDiff, Int.reduceToNat, Int.reduceAdd, Int.reduceSub, Int.reduceLT, Int.reduceLE, Nat.reduceSub, Nat.reduceMul, Nat.reduceEqDiff]
 repeat' (with_reducible apply And.intro)
 all_goals
  refine BOf_spec hm fun w2 hx2 => ?_
  have hk2 := kept0 hx2
  have c1 : w2.heap[w.heap.size]? = some (.cells [.bool t, .int .u64 m, .int .u64 a].toArray 37 (0, 0)) := (by first | with_reducible rfl | assumption | (simp (disch := first | exact qD10 | fail) only [qG0, Nat.reduceAdd, Nat.reduceLeDiff, Int.reduceToNat, Int.reduceAdd, Int.reduceSub, Int.reduceLT, Int.reduceLE, Nat.reduceSub, Nat.reduceMul, Nat.reduceEqDiff, hk2] <;> rfl))
  have c2 : w2.heap[w.heap.size + 1]? = some (.cells [.int .u64 0, .int .u64 0, .int .u64 0, .int .u64 0].toArray 160 (0, 0)) := (by first | with_reducible rfl | assumption | (simp (disch := first | exact qD10 | fail) only [qG0, Nat.reduceAdd, Nat.reduceLeDiff, Int.reduceToNat, Int.reduceAdd, Int.reduceSub, Int.reduceLT, Int.reduceLE, Nat.reduceSub, Nat.reduceMul, Nat.reduceEqDiff, hk2] <;> rfl))
  have l2 := lt_of_at c2
  have hs2 := hx2.size
  try simp only [szR] at hs2
  have hxw2 : Ext [] w w2 := Ext.trans (S := []) qX hx2 (by simp)
  simp (disch := first | exact qD10 | fail) only [qG0, Nat.reduceAdd, Nat.reduceLeDiff, Int.reduceToNat, Int.reduceAdd, Int.reduceSub, Int.reduceLT, Int.reduceLE, Nat.reduceSub, Nat.reduceMul, Nat.reduceEqDiff, c1]
  repeat' (with_reducible apply And.intro)
 all_goals
  refine Decode_spec hB hT hE ha fun w3 hx3 => ?_
  have hk3 := kept0 hx3
  have hs3 := hx3.size
  try simp only [szR] at hs3
  have hx23 : Ext [] w2 w3 := Ext.trans (S := []) qX hx3 (by simp)
  have d1 := hx23.at c1 (by simp)
  have d2 := hx23.at c2 (by simp)
  have hxw3 := hxw2.trans hx23 (by simp)
  simp (disch := first | exact qD10 | fail) only [qG0, Nat.reduceAdd, Nat.reduceLeDiff, Int.reduceToNat, Int.reduceAdd, Int.reduceSub, Int.reduceLT, Int.reduceLE, Nat.reduceSub, Nat.reduceMul, Nat.reduceEqDiff, hk3, hk2, spC_over]
  refine hfin _ _ (by first | with_reducible rfl | assumption | (simp (disch := first | exact qD10 | fail) only [qG0, Nat.reduceAdd, Nat.reduceLeDiff, Int.reduceToNat, Int.reduceAdd, Int.reduceSub, Int.reduceLT, Int.reduceLE, Nat.reduceSub, Nat.reduceMul, Nat.reduceEqDiff, d1] <;> rfl)) (by first | with_reducible rfl | assumption | (simp (disch := first | exact qD10 | fail) only [qG0, Nat.reduceAdd, Nat.reduceLeDiff, Int.reduceToNat, Int.reduceAdd, Int.reduceSub, Int.reduceLT, Int.reduceLE, Nat.reduceSub, Nat.reduceMul, Nat.reduceEqDiff, d2] <;> rfl)) ?_ ?_ ?_
  ·first | omega | (simp only [szR] <;> omega)
  ·first | ((first | with_reducible rfl | assumption | (simp (disch := first | exact qD10 | fail) only [qG0, Nat.reduceAdd, Nat.reduceLeDiff, Int.reduceToNat, Int.reduceAdd, Int.reduceSub, Int.reduceLT, Int.reduceLE, Nat.reduceSub, Nat.reduceMul, Nat.reduceEqDiff, hk3, hk2, spC_put, spC_over] <;> try rfl)); done) | exact congrArg (fun l : List Value => some (Obj.cells l.toArray 158 (0, 0))) (spC_put _)
  ·exact qX
open Go.Fx
set_option maxRecDepth 100000
theorem cpC_len (t : Bool) (m a : Nat) : (cpC t m a).length = 3 := by simp [cpC]
theorem cpC_all (t : Bool) (m a : Nat) : (cpC t m a).all (fun v => v.oneCell') = true := by simp [cpC]; exact ⟨rfl, rfl, rfl⟩
theorem vwC_len (m a : Nat) : (vwC m a).length = 4 := by simp [vwC]
theorem vwC_all (m a : Nat) : (vwC m a).all (fun v => v.oneCell') = true := by simp [vwC]; exact ⟨rfl, rfl, rfl, rfl⟩
theorem cpC_sub (t : Bool) (m a : Nat) : sub (cpC t m a) 0 3 = cpC t m a := rfl
theorem vwC_sub (m a : Nat) : sub (vwC m a) 0 4 = vwC m a := rfl
/-- a part: where it begins, its width, its number. -/
def ptC (p : Nat × Nat × Nat) : List Value := [.int .i64 (p.1 : Nat), .int .i64 (p.2.1 : Nat), .int .u64 (p.2.2 : Nat)]
theorem ptC_len (p : Nat × Nat × Nat) : (ptC p).length = 3 := by simp [ptC]
theorem ptC_all (p : Nat × Nat × Nat) : (ptC p).all (fun v => v.oneCell') = true := by simp [ptC]; exact ⟨rfl, rfl, rfl⟩
theorem ptC_sub (p : Nat × Nat × Nat) : sub (ptC p) 0 3 = ptC p := rfl
theorem ptC_over (p : Nat × Nat × Nat) : splice [.int .i64 0, .int .i64 0, .int .u64 0] 0 (ptC p) = ptC p := rfl
theorem ptC_over2 (p : Nat × Nat × Nat) : ptC p ++ List.drop (ptC p).length [.int .i64 0, .int .i64 0, .int .u64 0] = ptC p := by simp [ptC]
def ptOk (p : Nat × Nat × Nat) : Prop := 0 < p.2.1 /\ p.2.1 < 64 /\ p.1 + p.2.1 <= 64 /\ p.2.2 < 18446744073709551616
def putN (x : Nat) (p : Nat × Nat × Nat) : Nat := x + p.2.2 % 2 ^ p.2.1 * 2 ^ p.1
theorem qZ11 : type_of% (And.intro @szR (And.intro @fdsC_len (And.intro @fdsC_all (And.intro @spC_len (And.intro @spC_all (And.intro @cpC_len (And.intro @vwC_len (And.intro @cpC_all (And.intro @vwC_all (And.intro @ptC_len (@ptC_all))))))))))) := ⟨@szR, @fdsC_len, @fdsC_all, @spC_len, @spC_all, @cpC_len, @vwC_len, @cpC_all, @vwC_all, @ptC_len, @ptC_all⟩
theorem qD11 {p : Prop} (h : p := by first | assumption | omega | (simp only [qZ11] <;> omega) | rfl | decide) : p := h
theorem LayF_spec {w : World} {x b : Nat} {p : Nat × Nat × Nat} {t : TypeId} (hp : ptOk p) (hx : x < 2 ^ p.1) (hb : w.heap[b]? = some (.cells [.int .u64 (x : Nat)].toArray t (0, 0))) {K : Value -> World -> Prop}
  (hK : ∀ w', w'.heap[b]? = some (.cells [.int .u64 (putN x p : Nat)].toArray t (0, 0)) -> Ext [b] w w' -> K (.tuple #[]) w') : callsK Tryz.prog 180 #[.agg (ptC p).toArray, .pointer (some ⟨b, 0, none⟩)] w K := by
 obtain ⟨h1, h2, h3, h4⟩ := hp
 have hlt := lt_of_at hb
 apply F180_ok
 unfold F180
 have g : ∀ k, (ptC p)[k]? = if k = 0 then some (.int .i64 (p.1 : Nat)) else if k = 1 then some (.int .i64 (p.2.1 : Nat)) else if k = 2 then some (.int .u64 (p.2.2 : Nat)) else none := by
  intro k
  match k with
  | 0 => rfl
  | 1 => rfl
  | 2 => rfl
  | k + 3 => simp [ptC]
 have g0 := g 0
 have g1 := g 1
 have g2 := g 2
 simp only [if_true, if_neg (show ¬ (1 : Nat) = 0 by omega), if_neg (show ¬ (2 : Nat) = 0 by omega), if_neg (show ¬ (2 : Nat) = 1 by omega)] at g0 g1 g2
 simp (disch := first | exact qD11 | fail) only [qG1, Nat.reduceAdd, Nat.reduceLeDiff, Int.reduceToNat, Int.reduceAdd, Int.reduceSub, Int.reduceLT, Int.reduceLE, Nat.reduceSub, Nat.reduceMul, Nat.reduceEqDiff, hb, g0, g1, g2]
 refine fPut_spec (by omega) (by omega) (by omega) (by simpa using hx) h4 fun w' hx' => ?_
 have hx2 : Ext [] w w' := Ext.trans qX hx' (by simp)
 have hb' := hx2.at hb (by simp)
 simp (disch := first | exact qD11 | fail) only [qG1, Nat.reduceAdd, Nat.reduceLeDiff, Int.reduceToNat, Int.reduceAdd, Int.reduceSub, Int.reduceLT, Int.reduceLE, Nat.reduceSub, Nat.reduceMul, Nat.reduceEqDiff, hb', List.set_cons_zero]
 have hx3 : Ext [b] w w' := hx2.mono nofun
 have hx4 : Ext [b] w (World.upd w' b [.int .u64 (putN x p : Nat)]) := qX
 have := hK _ (upd_at (l := [.int .u64 (putN x p : Nat)]) hb') hx4
 exact this
theorem Lay_spec {w : World} {v : Value} {ps : List (Nat × Nat × Nat)} (hv : RowsAt w v 3 (ps.map ptC)) (hp : ∀ p ∈ ps, ptOk p) (hx : ∀ k p, ps[k]? = some p -> (ps.take k).foldl putN 0 < 2 ^ p.1) {K : Value -> World -> Prop}
  (hK : ∀ w', Ext [] w w' -> K (.int .u64 (ps.foldl putN 0 : Nat)) w') : callsK Tryz.prog 166 #[v] w K := by
 apply F166_ok
 unfold F166
 have hcap : ps.length <= maxLen := by
  obtain ⟨_, _, _, ⟨hc1, hc2⟩, _⟩ := id hv
  rw [List.length_map] at hc1
  omega
 simp only [maxLen] at hcap
 have hlen : (ps.map ptC).length = ps.length := by simp
 obtain ⟨a, cap, rfl⟩ := hv.len
 simp (disch := first | exact qD11 | fail) only [qG1, Nat.reduceAdd, Nat.reduceLeDiff, Int.reduceToNat, Int.reduceAdd, Int.reduceSub, Int.reduceLT, Int.reduceLE, Nat.reduceSub, Nat.reduceMul, Nat.reduceEqDiff]
 refine loopT.intro (fun st w' => ∃ (k : Nat), k <= ps.length /\ st = [.int .i64 (k : Nat)] /\ w'.heap[w.heap.size]? = some (.cells [.int .u64 ((ps.take k).foldl putN 0 : Nat)].toArray 35 (0, 0)) /\ Ext [] w w')
  (fun st _ => match st with
   | [.int _ z] => ps.length - z.toNat
   | _ => 0) ⟨0, Nat.zero_le _, rfl, by simp (disch := first | exact qD11 | fail) only [qG1, Nat.reduceAdd, Nat.reduceLeDiff, Int.reduceToNat, Int.reduceAdd, Int.reduceSub, Int.reduceLT, Int.reduceLE, Nat.reduceSub, Nat.reduceMul, Nat.reduceEqDiff]; rfl, qX⟩ ?_
 rintro st w' ⟨k, hk, rfl, h1, hx'⟩ _
 have l1 := lt_of_at h1
 by_cases h4 : k < ps.length
 ·obtain ⟨p, hpk⟩ : ∃ p, ps[k]? = some p := ⟨_, List.getElem?_eq_getElem h4⟩
  have hrow : (ps.map ptC)[k]? = some (ptC p) := by rw [List.getElem?_map, hpk]; rfl
  obtain ⟨b0, o0, lb, E0, f0, hix, hb0, hfit, hblt, hbk, hsub, hget⟩ := RowsAt.ixR Tryz.underlying273 Tryz.sizeOf256 hv hrow
  have hb3 := hx'.at hb0 (by simp)
  have hs := hsub o0 rfl
  simp (disch := first | exact qD11 | fail) only [qG1, Nat.reduceAdd, Nat.reduceLeDiff, Int.reduceToNat, Int.reduceAdd, Int.reduceSub, Int.reduceLT, Int.reduceLE, Nat.reduceSub, Nat.reduceMul, Nat.reduceEqDiff, hix, hb3, hs, ptC_over, ptC_over2, ptC_sub]
  have hx2 : Ext [] w' (w'.alloc (.cells (ptC p).toArray 256)) := qX
  refine LayF_spec (hp p (List.mem_of_getElem? hpk)) (hx k p hpk) (hx2.at h1 (by simp)) fun w2 h2 hx3 => ?_
  simp (disch := first | exact qD11 | fail) only [qG1, Nat.reduceAdd, Nat.reduceLeDiff, Int.reduceToNat, Int.reduceAdd, Int.reduceSub, Int.reduceLT, Int.reduceLE, Nat.reduceSub, Nat.reduceMul, Nat.reduceEqDiff]
  have htk : (ps.take (k + 1)).foldl putN 0 = putN ((ps.take k).foldl putN 0) p := by
   rw [List.take_add_one, hpk, List.foldl_append]
   rfl
  exact ⟨⟨k + 1, by omega, rfl, by rw [htk]; exact h2, (hx'.trans hx2 (by simp)).trans hx3 (by simp)⟩, by first | omega | (simp <;> omega)⟩
 ·obtain rfl : k = ps.length := by omega
  rw [List.take_length] at h1
  simp (disch := first | exact qD11 | fail) only [qG1, Nat.reduceAdd, Nat.reduceLeDiff, Int.reduceToNat, Int.reduceAdd, Int.reduceSub, Int.reduceLT, Int.reduceLE, Nat.reduceSub, Nat.reduceMul, Nat.reduceEqDiff, h1]
  exact hK _ hx'
theorem bs3 (a b c : List Value) (h1 : a.length = 3) (h2 : b.length = 3) (h3 : c.length = 3) (w : World) : (Instr.buildSlice 273 3 #[(0, .agg a.toArray), (1, .agg b.toArray), (2, .agg c.toArray)]).run Tryz.prog w = .ok (.slice (some ⟨w.heap.size, 0, none⟩) 3 3) (w.alloc (.cells (a ++ (b ++ c)).toArray 256)) := by
 have := run_bs Tryz.underlying273 (e := 256) (size := 3) (by kernel_rfl) [.agg a.toArray, .agg b.toArray, .agg c.toArray] (by simp [Value.cells, h1, h2, h3]) (by simp) w
 simpa [Value.cells, partsFrom] using this
theorem rows3 {w : World} {E : TypeId} {f : Nat × Nat} {g : Nat} {p q r : Nat × Nat × Nat} (h : w.heap[g]? = some (.cells (ptC p ++ (ptC q ++ ptC r)).toArray E f)) : RowsAt w (.slice (some ⟨g, 0, none⟩) 3 3) 3 ([p, q, r].map ptC) :=
 ⟨_, 3, rfl, ⟨Nat.le_refl _, by simp [maxLen]⟩, .inr ⟨g, 0, _, E, f, rfl, h, by simp [ptC_len], fun i r hi => by
  match i, hi with
  | 0, hi => simp at hi; subst hi; simp [sub, ptC]
  | 1, hi => simp at hi; subst hi; simp [sub, ptC]
  | 2, hi => simp at hi; subst hi; simp [sub, ptC]⟩⟩
theorem putN_eq (x a k v : Nat) : putN x (a, k, v) = x + v % 2 ^ k * 2 ^ a := rfl
/-- a word, permissions, and a type, as they are kept. -/
def mtN (x p t : Nat) : Nat := putN (putN (putN 0 (0, 32, x)) (32, 9, p)) (48, 12, t)
theorem put_one (x : Nat) : putN 0 (0, 32, x) < 2 ^ 32 := by
 have p32 : (2 : Nat) ^ 32 = 4294967296 := by decide
 rw [putN_eq, p32, Nat.pow_zero, Nat.mul_one, Nat.zero_add]
 exact Nat.mod_lt _ (by decide)
theorem put_two (x p : Nat) : putN (putN 0 (0, 32, x)) (32, 9, p) < 2 ^ 48 := by
 have p32 : (2 : Nat) ^ 32 = 4294967296 := by decide
 have p48 : (2 : Nat) ^ 48 = 281474976710656 := by decide
 have p9 : (2 : Nat) ^ 9 = 512 := by decide
 rw [putN_eq, putN_eq, p32, p48, p9, Nat.pow_zero, Nat.mul_one, Nat.zero_add]
 omega
theorem fold3 (x p t : Nat) : [((0 : Nat), (32 : Nat), x), (32, 9, p), (48, 12, t)].foldl putN 0 = mtN x p t := by
 unfold mtN
 rw [List.foldl_cons, List.foldl_cons, List.foldl_cons, List.foldl_nil]
theorem fold3_lt (x p t : Nat) : ∀ k q, [((0 : Nat), (32 : Nat), x), (32, 9, p), (48, 12, t)][k]? = some q -> (([((0 : Nat), (32 : Nat), x), (32, 9, p), (48, 12, t)].take k).foldl putN 0) < 2 ^ q.1 := by
 intro k q hq
 match k, hq with
 | 0, hq => exact Nat.two_pow_pos _
 | 1, hq =>
  simp only [List.getElem?_cons_succ, List.getElem?_cons_zero, Option.some.injEq] at hq
  rw [<- hq, List.take_succ_cons, List.take_zero, List.foldl_cons, List.foldl_nil]
  exact put_one x
 | 2, hq =>
  simp only [List.getElem?_cons_succ, List.getElem?_cons_zero, Option.some.injEq] at hq
  rw [<- hq, List.take_succ_cons, List.take_succ_cons, List.take_zero, List.foldl_cons, List.foldl_cons, List.foldl_nil]
  exact put_two x p
 | k + 3, hq => simp at hq
theorem pts3 {x p t : Nat} (hw : x < 18446744073709551616) (hp : p < 18446744073709551616) (ht : t < 18446744073709551616) : ∀ q ∈ [((0 : Nat), (32 : Nat), x), (32, 9, p), (48, 12, t)], ptOk q := by
 intro q hq
 simp only [List.mem_cons, List.not_mem_nil, or_false] at hq
 rcases hq with rfl | rfl | rfl
 ·exact ⟨by simp, by simp, by simp, hw⟩
 ·exact ⟨by simp, by simp, by simp, hp⟩
 ·exact ⟨by simp, by simp, by simp, ht⟩
theorem meta_spec {w : World} {B T E : Nat} {b0 b1 : Value} {p t : Nat} (hB : B < 18446744073709551616) (hT : T < 18446744073709551616) (hE : E < 18446744073709551616) (hw : wordF B T E 3 < 18446744073709551616) (hp : p < 18446744073709551616) (ht : t < 18446744073709551616) {K : Value -> World -> Prop}
  (hK : ∀ w', Ext [] w w' -> K (.int .u64 (mtN (wordF B T E 3) p t : Nat)) w') : callsK Tryz.prog 138 #[.agg (fdsC B T E).toArray, .agg [b0, b1, .int .u64 (p : Nat), .int .u64 (t : Nat)].toArray] w K := by
 apply F138_ok
 unfold F138
 simp (disch := first | exact qD11 | fail) only [qG1, Nat.reduceAdd, Nat.reduceLeDiff, Int.reduceToNat, Int.reduceAdd, Int.reduceSub, Int.reduceLT, Int.reduceLE, Nat.reduceSub, Nat.reduceMul, Nat.reduceEqDiff]
 have hd0 : Ext [] w ((w.alloc (.cells (fdsC B T E).toArray 226)).alloc (.cells [b0, b1, .int .u64 (p : Nat), .int .u64 (t : Nat)].toArray 160)).drew := qX
 have h2 : ((w.alloc (.cells (fdsC B T E).toArray 226)).alloc (.cells [b0, b1, .int .u64 (p : Nat), .int .u64 (t : Nat)].toArray 160)).drew.heap[w.heap.size]? = some (.cells (fdsC B T E).toArray 226 (0, 0)) := (by first | with_reducible rfl | assumption | (simp (disch := first | exact qD11 | fail) only [qG1, Nat.reduceAdd, Nat.reduceLeDiff, Int.reduceToNat, Int.reduceAdd, Int.reduceSub, Int.reduceLT, Int.reduceLE, Nat.reduceSub, Nat.reduceMul, Nat.reduceEqDiff] <;> rfl))
 have h3 : ((w.alloc (.cells (fdsC B T E).toArray 226)).alloc (.cells [b0, b1, .int .u64 (p : Nat), .int .u64 (t : Nat)].toArray 160)).drew.heap[w.heap.size + 1]? = some (.cells [b0, b1, .int .u64 (p : Nat), .int .u64 (t : Nat)].toArray 160 (0, 0)) := (by first | with_reducible rfl | assumption | (simp (disch := first | exact qD11 | fail) only [qG1, Nat.reduceAdd, Nat.reduceLeDiff, Int.reduceToNat, Int.reduceAdd, Int.reduceSub, Int.reduceLT, Int.reduceLE, Nat.reduceSub, Nat.reduceMul, Nat.reduceEqDiff] <;> rfl))
 generalize ((w.alloc (.cells (fdsC B T E).toArray 226)).alloc (.cells [b0, b1, .int .u64 (p : Nat), .int .u64 (t : Nat)].toArray 160)).drew = w1 at *
 have e1 : sub (fdsC B T E) 0 3 = fdsC B T E := rfl
 refine relX.ext [] ?_
 refine postX.is (.agg (fdsC B T E).toArray) (fun v w' hR _ => by
  have e := hR.at h2 (by simp)
  simp (disch := first | exact qD11 | fail) only [qG1, Nat.reduceAdd, Nat.reduceLeDiff, Int.reduceToNat, Int.reduceAdd, Int.reduceSub, Int.reduceLT, Int.reduceLE, Nat.reduceSub, Nat.reduceMul, Nat.reduceEqDiff, e, e1]
  exact okX.is) ?_
 refine postX.is (.int .u64 (wordF B T E 3 : Nat)) (fun v w' hR hd => by
  obtain ⟨d1, -⟩ := hd
  simp (disch := first | exact qD11 | fail) only [qG1, Nat.reduceAdd, Nat.reduceLeDiff, Int.reduceToNat, Int.reduceAdd, Int.reduceSub, Int.reduceLT, Int.reduceLE, Nat.reduceSub, Nat.reduceMul, Nat.reduceEqDiff, d1]
  exact BWord_spec hB hT hE fun w'' hx => okX.mk hx rfl) ?_
 refine postX.is (.agg (ptC (0, 32, wordF B T E 3)).toArray) (fun v w' hR hd => by
  obtain ⟨d1, -⟩ := hd
  simp (disch := first | exact qD11 | fail) only [qG1, Nat.reduceAdd, Nat.reduceLeDiff, Int.reduceToNat, Int.reduceAdd, Int.reduceSub, Int.reduceLT, Int.reduceLE, Nat.reduceSub, Nat.reduceMul, Nat.reduceEqDiff, d1]
  exact okX.is) ?_
 refine postX.is (.pointer (some ⟨w.heap.size + 1, 2, none⟩)) (fun v w' hR _ => by simp (disch := first | exact qD11 | fail) only [qG1, Nat.reduceAdd, Nat.reduceLeDiff, Int.reduceToNat, Int.reduceAdd, Int.reduceSub, Int.reduceLT, Int.reduceLE, Nat.reduceSub, Nat.reduceMul, Nat.reduceEqDiff]; exact okX.is) ?_
 refine postX.is (.int .u64 (p : Nat)) (fun v w' hR hd => by
  obtain ⟨d1, -⟩ := hd
  have e := hR.at h3 (by simp)
  simp (disch := first | exact qD11 | fail) only [qG1, Nat.reduceAdd, Nat.reduceLeDiff, Int.reduceToNat, Int.reduceAdd, Int.reduceSub, Int.reduceLT, Int.reduceLE, Nat.reduceSub, Nat.reduceMul, Nat.reduceEqDiff, d1, e]
  exact okX.is) ?_
 refine postX.is (.agg (ptC (32, 9, p)).toArray) (fun v w' hR hd => by
  obtain ⟨d1, -⟩ := hd
  simp (disch := first | exact qD11 | fail) only [qG1, Nat.reduceAdd, Nat.reduceLeDiff, Int.reduceToNat, Int.reduceAdd, Int.reduceSub, Int.reduceLT, Int.reduceLE, Nat.reduceSub, Nat.reduceMul, Nat.reduceEqDiff, d1]
  exact okX.is) ?_
 refine postX.is (.pointer (some ⟨w.heap.size + 1, 3, none⟩)) (fun v w' hR _ => by simp (disch := first | exact qD11 | fail) only [qG1, Nat.reduceAdd, Nat.reduceLeDiff, Int.reduceToNat, Int.reduceAdd, Int.reduceSub, Int.reduceLT, Int.reduceLE, Nat.reduceSub, Nat.reduceMul, Nat.reduceEqDiff]; exact okX.is) ?_
 refine postX.is (.int .u64 (t : Nat)) (fun v w' hR hd => by
  obtain ⟨d1, -⟩ := hd
  have e := hR.at h3 (by simp)
  simp (disch := first | exact qD11 | fail) only [qG1, Nat.reduceAdd, Nat.reduceLeDiff, Int.reduceToNat, Int.reduceAdd, Int.reduceSub, Int.reduceLT, Int.reduceLE, Nat.reduceSub, Nat.reduceMul, Nat.reduceEqDiff, d1, e]
  exact okX.is) ?_
 refine postX.is (.agg (ptC (48, 12, t)).toArray) (fun v w' hR hd => by
  obtain ⟨d1, -⟩ := hd
  simp (disch := first | exact qD11 | fail) only [qG1, Nat.reduceAdd, Nat.reduceLeDiff, Int.reduceToNat, Int.reduceAdd, Int.reduceSub, Int.reduceLT, Int.reduceLE, Nat.reduceSub, Nat.reduceMul, Nat.reduceEqDiff, d1]
  exact okX.is) ?_
 intro v w2 hR hd _
 obtain ⟨-, -, d7, -, -, d10, -, -, d13, -⟩ := hd
 rw [d7, d10, d13]
 have hbs := bs3 (ptC (0, 32, wordF B T E 3)) (ptC (32, 9, p)) (ptC (48, 12, t)) rfl rfl rfl
 simp (disch := first | exact qD11 | fail) only [qG1, Nat.reduceAdd, Nat.reduceLeDiff, Int.reduceToNat, Int.reduceAdd, Int.reduceSub, Int.reduceLT, Int.reduceLE, Nat.reduceSub, Nat.reduceMul, Nat.reduceEqDiff, hbs]
 have hx3 : Ext [] w2 (w2.alloc (.cells (ptC (0, 32, wordF B T E 3) ++ (ptC (32, 9, p) ++ ptC (48, 12, t))).toArray 256)) := qX
 have hrow : RowsAt (w2.alloc (.cells (ptC (0, 32, wordF B T E 3) ++ (ptC (32, 9, p) ++ ptC (48, 12, t))).toArray 256)) (.slice (some ⟨w2.heap.size, 0, none⟩) 3 3) 3 ([(0, 32, wordF B T E 3), (32, 9, p), (48, 12, t)].map ptC) := rows3 (E := 256) (f := (0, 0)) (by first | with_reducible rfl | assumption | (simp (disch := first | exact qD11 | fail) only [qG1, Nat.reduceAdd, Nat.reduceLeDiff, Int.reduceToNat, Int.reduceAdd, Int.reduceSub, Int.reduceLT, Int.reduceLE, Nat.reduceSub, Nat.reduceMul, Nat.reduceEqDiff] <;> rfl))
 refine Lay_spec hrow (pts3 hw hp ht) (fold3_lt _ _ _) fun w3 hx4 => ?_
 rw [fold3]
 exact hK w3 (hd0.trans (hR.trans (hx3.trans hx4 (by simp)) (by simp)) (by simp))
open Go.Fx
set_option maxRecDepth 100000
/-- may it have a tag? -/
def rightM (m a : Nat) : Bool := (spM m a).isSome && decide (mtN (m % 4294967296) (m / 4294967296 % 512) (m / 281474976710656 % 4096) = m)
theorem vw_over (m a : Nat) : splice [.int .u64 0, .int .u64 0, .int .u64 0, .int .u64 0] 0 (vwC m a) = vwC m a := rfl
theorem vw_over2 (m a : Nat) : vwC m a ++ List.drop (vwC m a).length [.int .u64 0, .int .u64 0, .int .u64 0, .int .u64 0] = vwC m a := by simp [vwC]
theorem wordM (m : Nat) : wordF (m % 16384) (m / 16384 % 4096) (m / 67108864 % 64) 3 = m % 4294967296 := by
 rw [wordF_val (Nat.mod_lt _ (by decide)) (Nat.mod_lt _ (by decide)) (Nat.mod_lt _ (by decide))]
 omega
theorem qZ12 : type_of% (And.intro @szR (And.intro @fdsC_len (And.intro @fdsC_all (And.intro @spC_len (And.intro @spC_all (And.intro @cpC_len (And.intro @vwC_len (And.intro @cpC_all (@vwC_all))))))))) := ⟨@szR, @fdsC_len, @fdsC_all, @spC_len, @spC_all, @cpC_len, @vwC_len, @cpC_all, @vwC_all⟩
theorem qD12 {p : Prop} (h : p := by first | assumption | omega | (simp only [qZ12] <;> omega) | rfl | decide) : p := h
theorem Right_spec {w : World} {t : Bool} {m a : Nat} (hm : m < 18446744073709551616) (ha : a < 18446744073709551616) {K : Value -> World -> Prop} (hK : ∀ w', Ext [] w w' -> K (.bool (rightM m a)) w') : callsK Tryz.prog 106 #[.agg (cpC t m a).toArray] w K := by
 apply F106_ok
 unfold F106
 simp (disch := first | exact qD12 | fail) only [qG1, Nat.reduceAdd, Nat.reduceLeDiff, Int.reduceToNat, Int.reduceAdd, Int.reduceSub, Int.reduceLT, Int.reduceLE, Nat.reduceSub, Nat.reduceMul, Nat.reduceEqDiff, cpC_sub]
 refine Look_spec hm ha fun w1 hx1 => ?_
 have hxa : Ext [] w w1 := Ext.trans qX hx1 (by simp)
 have h1 := hx1.at (b := w.heap.size) (o := .cells (cpC t m a).toArray 37 (0, 0)) (by first | with_reducible rfl | assumption | (simp (disch := first | exact qD12 | fail) only [qG1, Nat.reduceAdd, Nat.reduceLeDiff, Int.reduceToNat, Int.reduceAdd, Int.reduceSub, Int.reduceLT, Int.reduceLE, Nat.reduceSub, Nat.reduceMul, Nat.reduceEqDiff] <;> rfl)) (by simp)
 have l1 := lt_of_at h1
 simp (disch := first | exact qD12 | fail) only [qG1, Nat.reduceAdd, Nat.reduceLeDiff, Int.reduceToNat, Int.reduceAdd, Int.reduceSub, Int.reduceLT, Int.reduceLE, Nat.reduceSub, Nat.reduceMul, Nat.reduceEqDiff, vw_over, vw_over2]
 have hxb : Ext [] w (w1.alloc (.cells (vwC m a).toArray 160)).drew := qX
 have h2 : (w1.alloc (.cells (vwC m a).toArray 160)).drew.heap[w.heap.size]? = some (.cells (cpC t m a).toArray 37 (0, 0)) := (by first | with_reducible rfl | assumption | (simp (disch := first | exact qD12 | fail) only [qG1, Nat.reduceAdd, Nat.reduceLeDiff, Int.reduceToNat, Int.reduceAdd, Int.reduceSub, Int.reduceLT, Int.reduceLE, Nat.reduceSub, Nat.reduceMul, Nat.reduceEqDiff, h1] <;> rfl))
 have h3 : (w1.alloc (.cells (vwC m a).toArray 160)).drew.heap[w1.heap.size]? = some (.cells (vwC m a).toArray 160 (0, 0)) := (by first | with_reducible rfl | assumption | (simp (disch := first | exact qD12 | fail) only [qG1, Nat.reduceAdd, Nat.reduceLeDiff, Int.reduceToNat, Int.reduceAdd, Int.reduceSub, Int.reduceLT, Int.reduceLE, Nat.reduceSub, Nat.reduceMul, Nat.reduceEqDiff] <;> rfl))
 generalize (w1.alloc (.cells (vwC m a).toArray 160)).drew = w2 at *
 have g1 : (cpC t m a)[1]? = some (.int .u64 (m : Nat)) := rfl
 have hR' : rightM m a = ((spM m a).isSome && decide (mtN (m % 4294967296) (m / 4294967296 % 512) (m / 281474976710656 % 4096) = m)) := rfl
 rw [hR'] at hK
 have hw := wordM m
 obtain ⟨X, hX⟩ : ∃ X, X = (spM m a).isSome := ⟨_, rfl⟩
 obtain ⟨q, hq⟩ : ∃ q, q = mtN (m % 4294967296) (m / 4294967296 % 512) (m / 281474976710656 % 4096) := ⟨_, rfl⟩
 rw [<- hX, <- hq] at hK
 rw [<- hX]
 refine relX.ext [] ?_
 refine postX.is (.bool X) (fun v w' hR _ => okX.is) ?_
 refine postX.is (.bool X) (fun v w' hR hd => by
  obtain ⟨d1, -⟩ := hd
  rw [d1]
  exact okX.is) ?_
 refine postX.is (bif X then .pointer (some ⟨w.heap.size, 1, none⟩) else undef) (fun v w' hR hd => by
  obtain ⟨d1, -⟩ := hd
  cases X <;> simp (disch := first | exact qD12 | fail) only [qG1, Nat.reduceAdd, Nat.reduceLeDiff, Int.reduceToNat, Int.reduceAdd, Int.reduceSub, Int.reduceLT, Int.reduceLE, Nat.reduceSub, Nat.reduceMul, Nat.reduceEqDiff, d1, cond_true, cond_false] <;> exact okX.is) ?_
 refine postX.is (bif X then .int .u64 (m : Nat) else undef) (fun v w' hR hd => by
  obtain ⟨d1, d2, -⟩ := hd
  have e := hR.at h2 (by simp)
  cases X <;> simp (disch := first | exact qD12 | fail) only [qG1, Nat.reduceAdd, Nat.reduceLeDiff, Int.reduceToNat, Int.reduceAdd, Int.reduceSub, Int.reduceLT, Int.reduceLE, Nat.reduceSub, Nat.reduceMul, Nat.reduceEqDiff, d1, d2, e, g1, cond_true, cond_false] <;> exact okX.is) ?_
 refine postX.is (bif X then .agg (fdsC (m % 16384) (m / 16384 % 4096) (m / 67108864 % 64)).toArray else undef) (fun v w' hR hd => by
  obtain ⟨d1, d2, -⟩ := hd
  cases X <;> simp (disch := first | exact qD12 | fail) only [qG1, Nat.reduceAdd, Nat.reduceLeDiff, Int.reduceToNat, Int.reduceAdd, Int.reduceSub, Int.reduceLT, Int.reduceLE, Nat.reduceSub, Nat.reduceMul, Nat.reduceEqDiff, d1, d2, cond_true, cond_false]
  ·exact okX.is
  ·exact BOf_spec hm fun w'' hx => okX.mk hx rfl) ?_
 refine postX.is (bif X then .agg (vwC m a).toArray else undef) (fun v w' hR hd => by
  obtain ⟨d1, -⟩ := hd
  have e := hR.at h3 (by simp)
  cases X <;> simp (disch := first | exact qD12 | fail) only [qG1, Nat.reduceAdd, Nat.reduceLeDiff, Int.reduceToNat, Int.reduceAdd, Int.reduceSub, Int.reduceLT, Int.reduceLE, Nat.reduceSub, Nat.reduceMul, Nat.reduceEqDiff, d1, e, vwC_sub, cond_true, cond_false] <;> exact okX.is) ?_
 refine postX.is (bif X then .int .u64 (q : Nat) else undef) (fun v w' hR hd => by
  obtain ⟨d1, d2, d3, -⟩ := hd
  cases X <;> simp (disch := first | exact qD12 | fail) only [qG1, Nat.reduceAdd, Nat.reduceLeDiff, Int.reduceToNat, Int.reduceAdd, Int.reduceSub, Int.reduceLT, Int.reduceLE, Nat.reduceSub, Nat.reduceMul, Nat.reduceEqDiff, d1, d2, d3, cond_true, cond_false]
  ·exact okX.is
  ·refine meta_spec (b0 := .int .u64 (spB (spM m a) : Nat)) (b1 := .int .u64 (spT (spM m a) : Nat)) (by omega) (by omega) (by omega) (by rw [hw]; omega) (by omega) (by omega) fun w'' hx => okX.mk hx ?_
   rw [hw, <- hq]) ?_
 refine postX.is (bif X then .pointer (some ⟨w.heap.size, 1, none⟩) else undef) (fun v w' hR hd => by
  obtain ⟨d1, -⟩ := hd
  cases X <;> simp (disch := first | exact qD12 | fail) only [qG1, Nat.reduceAdd, Nat.reduceLeDiff, Int.reduceToNat, Int.reduceAdd, Int.reduceSub, Int.reduceLT, Int.reduceLE, Nat.reduceSub, Nat.reduceMul, Nat.reduceEqDiff, d1, cond_true, cond_false] <;> exact okX.is) ?_
 refine postX.is (bif X then .int .u64 (m : Nat) else undef) (fun v w' hR hd => by
  obtain ⟨d1, d2, -⟩ := hd
  have e := hR.at h2 (by simp)
  cases X <;> simp (disch := first | exact qD12 | fail) only [qG1, Nat.reduceAdd, Nat.reduceLeDiff, Int.reduceToNat, Int.reduceAdd, Int.reduceSub, Int.reduceLT, Int.reduceLE, Nat.reduceSub, Nat.reduceMul, Nat.reduceEqDiff, d1, d2, e, g1, cond_true, cond_false] <;> exact okX.is) ?_
 refine postX.is (bif X then .bool (decide (q = m)) else undef) (fun v w' hR hd => by
  obtain ⟨d1, d2, d3, -⟩ := hd
  have he : ((q : Int) == (m : Int)) = decide (q = m) := by
   rw [Bool.eq_iff_iff, beq_iff_eq, decide_eq_true_eq]
   omega
  cases X
  ·simp (disch := first | exact qD12 | fail) only [qG1, Nat.reduceAdd, Nat.reduceLeDiff, Int.reduceToNat, Int.reduceAdd, Int.reduceSub, Int.reduceLT, Int.reduceLE, Nat.reduceSub, Nat.reduceMul, Nat.reduceEqDiff, d1, cond_false]
   exact okX.is
  ·by_cases hqm : q = m
   ·simp (disch := first | exact qD12 | fail) only [qG1, Nat.reduceAdd, Nat.reduceLeDiff, Int.reduceToNat, Int.reduceAdd, Int.reduceSub, Int.reduceLT, Int.reduceLE, Nat.reduceSub, Nat.reduceMul, Nat.reduceEqDiff, d1, d2, d3, cond_true, decide_eq_true hqm]
    exact okX.is
   ·simp (disch := first | exact qD12 | fail) only [qG1, Nat.reduceAdd, Nat.reduceLeDiff, Int.reduceToNat, Int.reduceAdd, Int.reduceSub, Int.reduceLT, Int.reduceLE, Nat.reduceSub, Nat.reduceMul, Nat.reduceEqDiff, d1, d2, d3, cond_true, decide_eq_false hqm]
    exact okX.is) ?_
 refine postX.is (.bool (X && decide (q = m))) (fun v w' hR hd => by
  obtain ⟨d1, d2, -⟩ := hd
  cases X <;> simp (disch := first | exact qD12 | fail) only [qG1, Nat.reduceAdd, Nat.reduceLeDiff, Int.reduceToNat, Int.reduceAdd, Int.reduceSub, Int.reduceLT, Int.reduceLE, Nat.reduceSub, Nat.reduceMul, Nat.reduceEqDiff, d1, d2, cond_true, cond_false, Bool.true_and, Bool.false_and] <;> exact okX.is) ?_
 intro v w3 hR hd _
 obtain ⟨-, -, -, -, -, -, -, -, -, -, d20, -⟩ := hd
 rw [d20]
 exact hK w3 (hxb.trans hR (by simp))
open Go.Fx
set_option maxRecDepth 100000
/-- a capability, and what it tells. -/
def lvC (t : Bool) (m a : Nat) : List Value := cpC t m a ++ (vwC m a ++ [.bool (t && rightM m a)])
theorem lvC_len (t : Bool) (m a : Nat) : (lvC t m a).length = 8 := by simp [lvC, cpC, vwC]
theorem lvC_all (t : Bool) (m a : Nat) : (lvC t m a).all (fun v => v.oneCell') = true := by simp [lvC, cpC, vwC]; exact ⟨rfl, rfl, rfl, rfl, rfl, rfl, rfl, rfl⟩
theorem lvC_sub (t : Bool) (m a : Nat) : sub (lvC t m a) 0 8 = lvC t m a := rfl
theorem lv_over (t : Bool) (m a : Nat) : splice [.bool false, .int .u64 0, .int .u64 0, .int .u64 0, .int .u64 0, .int .u64 0, .int .u64 0, .bool false] 0 (lvC t m a) = lvC t m a := rfl
theorem lv_over2 (t : Bool) (m a : Nat) : lvC t m a ++ List.drop (lvC t m a).length [.bool false, .int .u64 0, .int .u64 0, .int .u64 0, .int .u64 0, .int .u64 0, .int .u64 0, .bool false] = lvC t m a := by simp [lvC, cpC, vwC]
theorem qZ13 : type_of% (And.intro @szR (And.intro @fdsC_len (And.intro @fdsC_all (And.intro @spC_len (And.intro @spC_all (And.intro @cpC_len (And.intro @vwC_len (And.intro @cpC_all (And.intro @vwC_all (And.intro @lvC_len (@lvC_all))))))))))) := ⟨@szR, @fdsC_len, @fdsC_all, @spC_len, @spC_all, @cpC_len, @vwC_len, @cpC_all, @vwC_all, @lvC_len, @lvC_all⟩
theorem qD13 {p : Prop} (h : p := by first | assumption | omega | (simp only [qZ13] <;> omega) | rfl | decide) : p := h
theorem of_spec {w : World} {t : Bool} {m a : Nat} (hm : m < 18446744073709551616) (ha : a < 18446744073709551616) {K : Value -> World -> Prop} (hK : ∀ w', Ext [] w w' -> K (.agg (lvC t m a).toArray) w') : callsK Tryz.prog 66 #[.agg (cpC t m a).toArray] w K := by
 apply F66_ok
 unfold F66
 simp (disch := first | exact qD13 | fail) only [qG1, Nat.reduceAdd, Nat.reduceLeDiff, Int.reduceToNat, Int.reduceAdd, Int.reduceSub, Int.reduceLT, Int.reduceLE, Nat.reduceSub, Nat.reduceMul, Nat.reduceEqDiff, cpC_sub]
 refine Look_spec hm ha fun w1 hx1 => ?_
 have hxa : Ext [] w w1 := Ext.trans qX hx1 (by simp)
 have h1 := hx1.at (b := w.heap.size) (o := .cells (cpC t m a).toArray 37 (0, 0)) (by first | with_reducible rfl | assumption | (simp (disch := first | exact qD13 | fail) only [qG1, Nat.reduceAdd, Nat.reduceLeDiff, Int.reduceToNat, Int.reduceAdd, Int.reduceSub, Int.reduceLT, Int.reduceLE, Nat.reduceSub, Nat.reduceMul, Nat.reduceEqDiff] <;> rfl)) (by simp)
 have h2 := hx1.at (b := w.heap.size + 1) (o := .cells [.bool false, .int .u64 0, .int .u64 0, .int .u64 0, .int .u64 0, .int .u64 0, .int .u64 0, .bool false].toArray 162 (0, 0)) (by first | with_reducible rfl | assumption | (simp (disch := first | exact qD13 | fail) only [qG1, Nat.reduceAdd, Nat.reduceLeDiff, Int.reduceToNat, Int.reduceAdd, Int.reduceSub, Int.reduceLT, Int.reduceLE, Nat.reduceSub, Nat.reduceMul, Nat.reduceEqDiff] <;> rfl)) (by simp)
 have l1 := lt_of_at h1
 have l2 := lt_of_at h2
 simp (disch := first | exact qD13 | fail) only [qG1, Nat.reduceAdd, Nat.reduceLeDiff, Int.reduceToNat, Int.reduceAdd, Int.reduceSub, Int.reduceLT, Int.reduceLE, Nat.reduceSub, Nat.reduceMul, Nat.reduceEqDiff, vw_over, vw_over2]
 have hxb : Ext [] w (w1.alloc (.cells (vwC m a).toArray 160)).drew := qX
 have g1 : (w1.alloc (.cells (vwC m a).toArray 160)).drew.heap[w.heap.size]? = some (.cells (cpC t m a).toArray 37 (0, 0)) := (by first | with_reducible rfl | assumption | (simp (disch := first | exact qD13 | fail) only [qG1, Nat.reduceAdd, Nat.reduceLeDiff, Int.reduceToNat, Int.reduceAdd, Int.reduceSub, Int.reduceLT, Int.reduceLE, Nat.reduceSub, Nat.reduceMul, Nat.reduceEqDiff, h1] <;> rfl))
 have g2 : (w1.alloc (.cells (vwC m a).toArray 160)).drew.heap[w.heap.size + 1]? = some (.cells [.bool false, .int .u64 0, .int .u64 0, .int .u64 0, .int .u64 0, .int .u64 0, .int .u64 0, .bool false].toArray 162 (0, 0)) := (by first | with_reducible rfl | assumption | (simp (disch := first | exact qD13 | fail) only [qG1, Nat.reduceAdd, Nat.reduceLeDiff, Int.reduceToNat, Int.reduceAdd, Int.reduceSub, Int.reduceLT, Int.reduceLE, Nat.reduceSub, Nat.reduceMul, Nat.reduceEqDiff, h2] <;> rfl))
 have g3 : (w1.alloc (.cells (vwC m a).toArray 160)).drew.heap[w1.heap.size]? = some (.cells (vwC m a).toArray 160 (0, 0)) := (by first | with_reducible rfl | assumption | (simp (disch := first | exact qD13 | fail) only [qG1, Nat.reduceAdd, Nat.reduceLeDiff, Int.reduceToNat, Int.reduceAdd, Int.reduceSub, Int.reduceLT, Int.reduceLE, Nat.reduceSub, Nat.reduceMul, Nat.reduceEqDiff] <;> rfl))
 generalize (w1.alloc (.cells (vwC m a).toArray 160)).drew = w2 at *
 have q0 : (cpC t m a)[0]? = some (.bool t) := rfl
 refine relX.ext [] ?_
 refine postX.is (.agg (cpC t m a).toArray) (fun v w' hR _ => by
  have e := hR.at g1 (by simp)
  simp (disch := first | exact qD13 | fail) only [qG1, Nat.reduceAdd, Nat.reduceLeDiff, Int.reduceToNat, Int.reduceAdd, Int.reduceSub, Int.reduceLT, Int.reduceLE, Nat.reduceSub, Nat.reduceMul, Nat.reduceEqDiff, e, cpC_sub]
  exact okX.is) ?_
 refine postX.is (.agg (vwC m a).toArray) (fun v w' hR _ => by
  have e := hR.at g3 (by simp)
  simp (disch := first | exact qD13 | fail) only [qG1, Nat.reduceAdd, Nat.reduceLeDiff, Int.reduceToNat, Int.reduceAdd, Int.reduceSub, Int.reduceLT, Int.reduceLE, Nat.reduceSub, Nat.reduceMul, Nat.reduceEqDiff, e, vwC_sub]
  exact okX.is) ?_
 refine postX.is (.pointer (some ⟨w.heap.size, 0, none⟩)) (fun v w' hR _ => by simp (disch := first | exact qD13 | fail) only [qG1, Nat.reduceAdd, Nat.reduceLeDiff, Int.reduceToNat, Int.reduceAdd, Int.reduceSub, Int.reduceLT, Int.reduceLE, Nat.reduceSub, Nat.reduceMul, Nat.reduceEqDiff]; exact okX.is) ?_
 refine postX.is (.bool t) (fun v w' hR hd => by
  obtain ⟨d1, -⟩ := hd
  have e := hR.at g1 (by simp)
  simp (disch := first | exact qD13 | fail) only [qG1, Nat.reduceAdd, Nat.reduceLeDiff, Int.reduceToNat, Int.reduceAdd, Int.reduceSub, Int.reduceLT, Int.reduceLE, Nat.reduceSub, Nat.reduceMul, Nat.reduceEqDiff, d1, e, q0]
  exact okX.is) ?_
 refine postX.is (.bool t) (fun v w' hR hd => by
  obtain ⟨d1, -⟩ := hd
  rw [d1]
  exact okX.is) ?_
 refine postX.is (bif t then .agg (cpC t m a).toArray else undef) (fun v w' hR hd => by
  obtain ⟨d1, -⟩ := hd
  have e := hR.at g1 (by simp)
  cases t <;> simp (disch := first | exact qD13 | fail) only [qG1, Nat.reduceAdd, Nat.reduceLeDiff, Int.reduceToNat, Int.reduceAdd, Int.reduceSub, Int.reduceLT, Int.reduceLE, Nat.reduceSub, Nat.reduceMul, Nat.reduceEqDiff, d1, e, cpC_sub, cond_true, cond_false] <;> exact okX.is) ?_
 refine postX.is (bif t then .bool (rightM m a) else undef) (fun v w' hR hd => by
  obtain ⟨d1, d2, -⟩ := hd
  cases t <;> simp (disch := first | exact qD13 | fail) only [qG1, Nat.reduceAdd, Nat.reduceLeDiff, Int.reduceToNat, Int.reduceAdd, Int.reduceSub, Int.reduceLT, Int.reduceLE, Nat.reduceSub, Nat.reduceMul, Nat.reduceEqDiff, d1, d2, cond_true, cond_false]
  ·exact okX.is
  ·exact Right_spec hm ha fun w'' hx => okX.mk hx rfl) ?_
 refine postX.is (.bool (t && rightM m a)) (fun v w' hR hd => by
  obtain ⟨d1, d2, -⟩ := hd
  cases t <;> simp (disch := first | exact qD13 | fail) only [qG1, Nat.reduceAdd, Nat.reduceLeDiff, Int.reduceToNat, Int.reduceAdd, Int.reduceSub, Int.reduceLT, Int.reduceLE, Nat.reduceSub, Nat.reduceMul, Nat.reduceEqDiff, d1, d2, cond_true, cond_false, Bool.true_and, Bool.false_and] <;> exact okX.is) ?_
 intro v w3 hR hd _
 obtain ⟨d10, d11, -, -, -, -, -, d17, -⟩ := hd
 rw [d10, d11, d17]
 have k2 := hR.at g2 (by simp)
 have l3 := lt_of_at k2
 have hb : ∀ (x0 : Bool) (x1 x2 y0 y1 y2 y3 : Int) (z : Bool) (w : World), (Instr.build 162 #[(0, .agg [.bool x0, .int .u64 x1, .int .u64 x2].toArray), (1, .agg [.int .u64 y0, .int .u64 y1, .int .u64 y2, .int .u64 y3].toArray), (2, .bool z)]).run Tryz.prog w = .ok (.agg [.bool x0, .int .u64 x1, .int .u64 x2, .int .u64 y0, .int .u64 y1, .int .u64 y2, .int .u64 y3, .bool z].toArray) w := fun x0 x1 x2 y0 y1 y2 y3 z w => run_build w 162 _ _ (by kernel_rfl)
 have hb2 : ∀ w, (Instr.build 162 #[(0, .agg (cpC t m a).toArray), (1, .agg (vwC m a).toArray), (2, .bool (t && rightM m a))]).run Tryz.prog w = .ok (.agg (lvC t m a).toArray) w := fun w => hb _ _ _ _ _ _ _ _ w
 have hxc : Ext [] w (World.upd w3 (w.heap.size + 1) (lvC t m a)) := by
  have := hxb.trans hR (by simp)
  exact qX
 simp (disch := first | exact qD13 | fail) only [qG1, Nat.reduceAdd, Nat.reduceLeDiff, Int.reduceToNat, Int.reduceAdd, Int.reduceSub, Int.reduceLT, Int.reduceLE, Nat.reduceSub, Nat.reduceMul, Nat.reduceEqDiff, hb2, k2, lv_over, lv_over2, lvC_sub]
 exact hK _ hxc
/-- is it open? -/
def openM (t : Bool) (m a : Nat) : Bool := t && rightM m a && decide (m / 281474976710656 % 4096 = 0)
theorem open_spec {w : World} {t : Bool} {m a : Nat} {K : Value -> World -> Prop} (hK : ∀ w', Ext [] w w' -> K (.bool (openM t m a)) w') : callsK Tryz.prog 67 #[.agg (lvC t m a).toArray] w K := by
 apply F67_ok
 unfold F67
 have q7 : (lvC t m a)[7]? = some (.bool (t && rightM m a)) := rfl
 have q6 : (lvC t m a)[6]? = some (.int .u64 (m / 281474976710656 % 4096 : Nat)) := rfl
 have hO : openM t m a = (t && rightM m a && decide (m / 281474976710656 % 4096 = 0)) := rfl
 rw [hO] at hK
 obtain ⟨X, hX⟩ : ∃ X, X = (t && rightM m a) := ⟨_, rfl⟩
 rw [<- hX] at hK q7
 have hlt : m / 281474976710656 % 4096 < 4096 := Nat.mod_lt _ (by decide)
 generalize m / 281474976710656 % 4096 = y at *
 cases X with
 | false =>
  simp (disch := first | exact qD13 | fail) only [qG1, Nat.reduceAdd, Nat.reduceLeDiff, Int.reduceToNat, Int.reduceAdd, Int.reduceSub, Int.reduceLT, Int.reduceLE, Nat.reduceSub, Nat.reduceMul, Nat.reduceEqDiff, joinBR, q7]
  exact hK _ qX
 | true =>
  by_cases hy : y = 0
  ·rw [decide_eq_true hy] at hK
   simp (disch := first | exact qD13 | fail) only [qG1, Nat.reduceAdd, Nat.reduceLeDiff, Int.reduceToNat, Int.reduceAdd, Int.reduceSub, Int.reduceLT, Int.reduceLE, Nat.reduceSub, Nat.reduceMul, Nat.reduceEqDiff, joinBR, q7, q6]
   exact hK _ qX
  ·rw [decide_eq_false hy] at hK
   simp (disch := first | exact qD13 | fail) only [qG1, Nat.reduceAdd, Nat.reduceLeDiff, Int.reduceToNat, Int.reduceAdd, Int.reduceSub, Int.reduceLT, Int.reduceLE, Nat.reduceSub, Nat.reduceMul, Nat.reduceEqDiff, joinBR, q7, q6]
   exact hK _ qX
/-- permissions among others. -/
def pwN (p q : Nat) : Bool := (List.range 64).all fun i => !p.testBit i || q.testBit i
theorem pw_spec {w : World} {p q : Nat} (hp : p < 18446744073709551616) (hq : q < 18446744073709551616) {K : Value -> World -> Prop} (hK : K (.bool (pwN p q)) w) : callsK Tryz.prog 68 #[.int .u64 (p : Nat), .int .u64 (q : Nat)] w K := by
 apply F68_ok
 unfold F68
 obtain ⟨r, hr, hr2, hr3⟩ := andNot_u64 (a := (p : Int)) (b := (q : Int)) (by omega) (by omega)
 have hz : pwN p q = decide (r = 0) := by
  rw [Bool.eq_iff_iff, decide_eq_true_eq]
  unfold pwN
  rw [List.all_eq_true]
  constructor
  ·intro h
   apply Nat.eq_of_testBit_eq
   intro i
   rw [Nat.zero_testBit]
   by_cases hi : i < 64
   ·have := h i (List.mem_range.2 hi)
    rw [hr3 i hi]
    simp only [Int.toNat_natCast]
    revert this
    cases p.testBit i <;> cases q.testBit i <;> simp
   ·have p1 : (2 : Nat) ^ 64 <= 2 ^ i := Nat.pow_le_pow_right (by omega) (by omega)
    have p2 : (2 : Nat) ^ 64 = 18446744073709551616 := by decide
    exact Nat.testBit_lt_two_pow (by omega)
  ·intro h i hi
   have := hr3 i (List.mem_range.1 hi)
   rw [h, Nat.zero_testBit] at this
   simp only [Int.toNat_natCast] at this
   revert this
   cases p.testBit i <;> cases q.testBit i <;> simp
 rw [hz] at hK
 by_cases h0 : r = 0
 ·rw [decide_eq_true h0] at hK
  simp (disch := first | exact qD13 | fail) only [qG1, Nat.reduceAdd, Nat.reduceLeDiff, Int.reduceToNat, Int.reduceAdd, Int.reduceSub, Int.reduceLT, Int.reduceLE, Nat.reduceSub, Nat.reduceMul, Nat.reduceEqDiff, joinBR, hr]
  exact hK
 ·rw [decide_eq_false h0] at hK
  simp (disch := first | exact qD13 | fail) only [qG1, Nat.reduceAdd, Nat.reduceLeDiff, Int.reduceToNat, Int.reduceAdd, Int.reduceSub, Int.reduceLT, Int.reduceLE, Nat.reduceSub, Nat.reduceMul, Nat.reduceEqDiff, joinBR, hr]
  exact hK
theorem pw_still {w : World} {p q : Nat} (hp : p < 18446744073709551616) (hq : q < 18446744073709551616) {K : Value -> Prop} (hK : K (.bool (pwN p q))) : callsS Tryz.prog 68 #[.int .u64 (p : Nat), .int .u64 (q : Nat)] w K := callsS.of _ (pw_spec hp hq ⟨rfl, rfl⟩) hK
def needN (k : Nat) : Nat := if k = 0 then 4 else if k = 1 then 1 else if k = 2 then 2 else if k = 3 then 9 else if k = 4 then 18 else 511
theorem need_spec {w : World} {k : Nat} (hk : k < 5) {K : Value -> World -> Prop} (hK : K (.int .u64 (needN k : Nat)) w) : callsK Tryz.prog 69 #[.int .i64 (k : Nat)] w K := by
 apply F69_ok
 unfold F69
 match k, hk with
 | 0, _ => simp (disch := first | exact qD13 | fail) only [qG1, Nat.reduceAdd, Nat.reduceLeDiff, Int.reduceToNat, Int.reduceAdd, Int.reduceSub, Int.reduceLT, Int.reduceLE, Nat.reduceSub, Nat.reduceMul, Nat.reduceEqDiff, joinBR]; exact hK
 | 1, _ => simp (disch := first | exact qD13 | fail) only [qG1, Nat.reduceAdd, Nat.reduceLeDiff, Int.reduceToNat, Int.reduceAdd, Int.reduceSub, Int.reduceLT, Int.reduceLE, Nat.reduceSub, Nat.reduceMul, Nat.reduceEqDiff, joinBR]; exact hK
 | 2, _ => simp (disch := first | exact qD13 | fail) only [qG1, Nat.reduceAdd, Nat.reduceLeDiff, Int.reduceToNat, Int.reduceAdd, Int.reduceSub, Int.reduceLT, Int.reduceLE, Nat.reduceSub, Nat.reduceMul, Nat.reduceEqDiff, joinBR]; exact hK
 | 3, _ => simp (disch := first | exact qD13 | fail) only [qG1, Nat.reduceAdd, Nat.reduceLeDiff, Int.reduceToNat, Int.reduceAdd, Int.reduceSub, Int.reduceLT, Int.reduceLE, Nat.reduceSub, Nat.reduceMul, Nat.reduceEqDiff, joinBR]; exact hK
 | 4, _ => simp (disch := first | exact qD13 | fail) only [qG1, Nat.reduceAdd, Nat.reduceLeDiff, Int.reduceToNat, Int.reduceAdd, Int.reduceSub, Int.reduceLT, Int.reduceLE, Nat.reduceSub, Nat.reduceMul, Nat.reduceEqDiff, joinBR]; exact hK
theorem need_still {w : World} {k : Nat} (hk : k < 5) {K : Value -> Prop} (hK : K (.int .u64 (needN k : Nat))) : callsS Tryz.prog 69 #[.int .i64 (k : Nat)] w K := callsS.of _ (need_spec hk ⟨rfl, rfl⟩) hK
open Go.Fx
set_option maxRecDepth 100000
theorem Add64_spec {w : World} {x y : Nat} (h : x + y < 18446744073709551616) {K : Value -> World -> Prop} (hK : K (.tuple #[.int .u64 ((x + y : Nat) : Int), .int .u64 0]) w) :
  kN Tryz.prog (callN (.func (.func 139) #[] #[]) #[.int .u64 (x : Nat), .int .u64 (y : Nat), .int .u64 0]) w K := by
 have e := Fx.kN_call (P := Tryz.prog) (f := 139) (first := #[]) (cap := #[]) (args := #[.int .u64 (x : Nat), .int .u64 (y : Nat), .int .u64 0]) (w := w) (K := K)
 rw [e]
 have e2 := run_callFunc_extern Tryz.func139 (by kernel_rfl) (by kernel_rfl) (by kernel_rfl) (e := (Extern.MathBitsCarry.rows[0]'(by decide)).2) (by kernel_rfl) #[.int .u64 (x : Nat), .int .u64 (y : Nat), .int .u64 0] w
 have e3 : (#[] ++ #[Value.int .u64 (x : Nat), .int .u64 (y : Nat), .int .u64 0] ++ #[] : Array Value) = #[.int .u64 (x : Nat), .int .u64 (y : Nat), .int .u64 0] := rfl
 rw [e3, e2]
 have e4 : (((Extern.MathBitsCarry.rows[0]'(by decide)).2) #[.int .u64 (x : Nat), .int .u64 (y : Nat), .int .u64 0]).run Tryz.prog w = .ok (.tuple #[.int .u64 ((x + y : Nat) : Int), .int .u64 0]) w := by
  have h1 : (x + y) % Extern.MathBitsCarry.m64 = x + y := Nat.mod_eq_of_lt h
  have h2 : (x + y) / Extern.MathBitsCarry.m64 = 0 := Nat.div_eq_of_lt h
  have h3 : (((Extern.MathBitsCarry.rows[0]'(by decide)).2) #[.int .u64 (x : Nat), .int .u64 (y : Nat), .int .u64 0]).run Tryz.prog w = .ok (Extern.MathBitsCarry.pair ((x + y + 0) % Extern.MathBitsCarry.m64) ((x + y + 0) / Extern.MathBitsCarry.m64)) w := rfl
  rw [h3, Nat.add_zero, h1, h2]
  rfl
 rw [e4]
 exact hK
theorem sAdd_spec {w : World} {x y : Nat} (h : x + y < 18446744073709551616) {K : Value -> World -> Prop} (hK : K (.tuple #[.int .u64 ((x + y : Nat) : Int), .bool false]) w) : callsK Tryz.prog 107 #[.int .u64 (x : Nat), .int .u64 (y : Nat)] w K := by
 apply F107_ok
 unfold F107
 refine Add64_spec h ?_
 simp (disch := first | exact qD13 | fail) only [qG1, Nat.reduceAdd, Nat.reduceLeDiff, Int.reduceToNat, Int.reduceAdd, Int.reduceSub, Int.reduceLT, Int.reduceLE, Nat.reduceSub, Nat.reduceMul, Nat.reduceEqDiff]
 exact hK
/-- is a part of memory in a span? (no part wraps.) -/
theorem In_spec {w : World} {x n b t : Nat} (h : x + n < 18446744073709551616) (hb : b < 18446744073709551616) (ht : t < 18446744073709551616) {K : Value -> World -> Prop} (hK : K (.bool (decide (b <= x /\ x + n <= t))) w) :
  callsK Tryz.prog 70 #[.int .u64 (x : Nat), .int .u64 (n : Nat), .int .u64 (b : Nat), .int .u64 (t : Nat)] w K := by
 apply F70_ok
 unfold F70
 simp (disch := first | exact qD13 | fail) only [qG1, Nat.reduceAdd, Nat.reduceLeDiff, Int.reduceToNat, Int.reduceAdd, Int.reduceSub, Int.reduceLT, Int.reduceLE, Nat.reduceSub, Nat.reduceMul, Nat.reduceEqDiff]
 refine sAdd_spec h ?_
 obtain ⟨s, hs⟩ : ∃ s, s = x + n := ⟨_, rfl⟩
 rw [<- hs] at hK ⊢
 by_cases h1 : b <= x
 ·by_cases h2 : s <= t
  ·rw [decide_eq_true ⟨h1, h2⟩] at hK
   simp (disch := first | exact qD13 | fail) only [qG1, Nat.reduceAdd, Nat.reduceLeDiff, Int.reduceToNat, Int.reduceAdd, Int.reduceSub, Int.reduceLT, Int.reduceLE, Nat.reduceSub, Nat.reduceMul, Nat.reduceEqDiff, joinBR, Bool.not_false]
   exact hK
  ·rw [decide_eq_false fun h => h2 h.2] at hK
   simp (disch := first | exact qD13 | fail) only [qG1, Nat.reduceAdd, Nat.reduceLeDiff, Int.reduceToNat, Int.reduceAdd, Int.reduceSub, Int.reduceLT, Int.reduceLE, Nat.reduceSub, Nat.reduceMul, Nat.reduceEqDiff, joinBR, Bool.not_false]
   exact hK
 ·rw [decide_eq_false fun h => h1 h.1] at hK
  simp (disch := first | exact qD13 | fail) only [qG1, Nat.reduceAdd, Nat.reduceLeDiff, Int.reduceToNat, Int.reduceAdd, Int.reduceSub, Int.reduceLT, Int.reduceLE, Nat.reduceSub, Nat.reduceMul, Nat.reduceEqDiff, joinBR, Bool.not_false]
  exact hK
/-- what is wrong with a use. -/
def chkN (t : Bool) (m a k n : Nat) : Nat :=
 if (t && rightM m a) = false then 1 else if openM t m a = false then 2 else if pwN (needN k) (m / 4294967296 % 512) = false then 3
 else if spB (spM m a) <= a /\ a + n <= spT (spM m a) then 0 else 4
theorem Check_spec {w : World} {t : Bool} {m a k n : Nat} (hm : m < 18446744073709551616) (ha : a < 18446744073709551616) (hk : k < 5) (hn : n <= 16) (han : a + n < 18446744073709551616) (hsB : spB (spM m a) < 18446744073709551616) (hsT : spT (spM m a) < 18446744073709551616) {K : Value -> World -> Prop}
  (hK : ∀ w', Ext [] w w' -> K (.int .i64 (chkN t m a k n : Nat)) w') : callsK Tryz.prog 25 #[.agg (cpC t m a).toArray, .int .i64 (k : Nat), .int .u64 (n : Nat)] w K := by
 apply F25_ok
 unfold F25
 simp (disch := first | exact qD13 | fail) only [qG1, Nat.reduceAdd, Nat.reduceLeDiff, Int.reduceToNat, Int.reduceAdd, Int.reduceSub, Int.reduceLT, Int.reduceLE, Nat.reduceSub, Nat.reduceMul, Nat.reduceEqDiff, cpC_sub]
 refine of_spec hm ha fun w1 hx1 => ?_
 have hxa : Ext [] w w1 := Ext.trans qX hx1 (by simp)
 have h1 := hx1.at (b := w.heap.size) (o := .cells (cpC t m a).toArray 37 (0, 0)) (by first | with_reducible rfl | assumption | (simp (disch := first | exact qD13 | fail) only [qG1, Nat.reduceAdd, Nat.reduceLeDiff, Int.reduceToNat, Int.reduceAdd, Int.reduceSub, Int.reduceLT, Int.reduceLE, Nat.reduceSub, Nat.reduceMul, Nat.reduceEqDiff] <;> rfl)) (by simp)
 have l1 := lt_of_at h1
 have q7 : (lvC t m a)[7]? = some (.bool (t && rightM m a)) := rfl
 have q5 : (lvC t m a)[5]? = some (.int .u64 (m / 4294967296 % 512 : Nat)) := rfl
 have q3 : (lvC t m a)[3]? = some (.int .u64 (spB (spM m a) : Nat)) := rfl
 have q4 : (lvC t m a)[4]? = some (.int .u64 (spT (spM m a) : Nat)) := rfl
 have c2 : (cpC t m a)[2]? = some (.int .u64 (a : Nat)) := rfl
 simp (disch := first | exact qD13 | fail) only [qG1, Nat.reduceAdd, Nat.reduceLeDiff, Int.reduceToNat, Int.reduceAdd, Int.reduceSub, Int.reduceLT, Int.reduceLE, Nat.reduceSub, Nat.reduceMul, Nat.reduceEqDiff, lv_over, lv_over2, q7]
 have hxb : Ext [] w (w1.alloc (.cells (lvC t m a).toArray 162)) := qX
 have hC : chkN t m a k n = if (t && rightM m a) = false then 1 else if openM t m a = false then 2 else if pwN (needN k) (m / 4294967296 % 512) = false then 3 else if spB (spM m a) <= a /\ a + n <= spT (spM m a) then 0 else 4 := rfl
 rw [hC] at hK
 cases h5 : (t && rightM m a) with
 | false =>
  simp (disch := first | exact qD13 | fail) only [qG1, Nat.reduceAdd, Nat.reduceLeDiff, Int.reduceToNat, Int.reduceAdd, Int.reduceSub, Int.reduceLT, Int.reduceLE, Nat.reduceSub, Nat.reduceMul, Nat.reduceEqDiff, Bool.not_false]
  rw [if_pos h5] at hK
  exact hK _ hxb
 | true =>
  rw [if_neg (by simp [h5])] at hK
  simp (disch := first | exact qD13 | fail) only [qG1, Nat.reduceAdd, Nat.reduceLeDiff, Int.reduceToNat, Int.reduceAdd, Int.reduceSub, Int.reduceLT, Int.reduceLE, Nat.reduceSub, Nat.reduceMul, Nat.reduceEqDiff, Bool.not_true, lvC_sub]
  refine open_spec fun w2 hx2 => ?_
  have hx3 := hxb.trans hx2 (by simp)
  have k2 := hx2.at (b := w1.heap.size) (o := .cells (lvC t m a).toArray 162 (0, 0)) (by first | with_reducible rfl | assumption | (simp (disch := first | exact qD13 | fail) only [qG1, Nat.reduceAdd, Nat.reduceLeDiff, Int.reduceToNat, Int.reduceAdd, Int.reduceSub, Int.reduceLT, Int.reduceLE, Nat.reduceSub, Nat.reduceMul, Nat.reduceEqDiff] <;> rfl)) (by simp)
  have k1 := hx2.at (b := w.heap.size) (o := .cells (cpC t m a).toArray 37 (0, 0)) (by first | with_reducible rfl | assumption | (simp (disch := first | exact qD13 | fail) only [qG1, Nat.reduceAdd, Nat.reduceLeDiff, Int.reduceToNat, Int.reduceAdd, Int.reduceSub, Int.reduceLT, Int.reduceLE, Nat.reduceSub, Nat.reduceMul, Nat.reduceEqDiff, h1] <;> rfl)) (by simp)
  cases h6 : openM t m a with
  | false =>
   simp (disch := first | exact qD13 | fail) only [qG1, Nat.reduceAdd, Nat.reduceLeDiff, Int.reduceToNat, Int.reduceAdd, Int.reduceSub, Int.reduceLT, Int.reduceLE, Nat.reduceSub, Nat.reduceMul, Nat.reduceEqDiff, Bool.not_false]
   rw [if_pos h6] at hK
   exact hK _ hx3
  | true =>
   rw [if_neg (by simp [h6])] at hK
   simp (disch := first | exact qD13 | fail) only [qG1, Nat.reduceAdd, Nat.reduceLeDiff, Int.reduceToNat, Int.reduceAdd, Int.reduceSub, Int.reduceLT, Int.reduceLE, Nat.reduceSub, Nat.reduceMul, Nat.reduceEqDiff, Bool.not_true]
   have hnd : needN k < 512 := by
    unfold needN
    split <;> (try omega)
    split <;> (try omega)
    split <;> (try omega)
    split <;> (try omega)
    split <;> omega
   refine need_still hk ?_
   simp (disch := first | exact qD13 | fail) only [qG1, Nat.reduceAdd, Nat.reduceLeDiff, Int.reduceToNat, Int.reduceAdd, Int.reduceSub, Int.reduceLT, Int.reduceLE, Nat.reduceSub, Nat.reduceMul, Nat.reduceEqDiff, k2, q5]
   refine pw_still (by omega) (by omega) ?_
   cases h7 : pwN (needN k) (m / 4294967296 % 512) with
   | false =>
    simp (disch := first | exact qD13 | fail) only [qG1, Nat.reduceAdd, Nat.reduceLeDiff, Int.reduceToNat, Int.reduceAdd, Int.reduceSub, Int.reduceLT, Int.reduceLE, Nat.reduceSub, Nat.reduceMul, Nat.reduceEqDiff, Bool.not_false]
    rw [if_pos h7] at hK
    exact hK _ qX
   | true =>
    rw [if_neg (by simp [h7])] at hK
    simp (disch := first | exact qD13 | fail) only [qG1, Nat.reduceAdd, Nat.reduceLeDiff, Int.reduceToNat, Int.reduceAdd, Int.reduceSub, Int.reduceLT, Int.reduceLE, Nat.reduceSub, Nat.reduceMul, Nat.reduceEqDiff, Bool.not_true, k1, k2, c2, q3, q4]
    refine In_spec han hsB hsT ?_
    by_cases h8 : spB (spM m a) <= a /\ a + n <= spT (spM m a)
    ·rw [decide_eq_true h8]
     rw [if_pos h8] at hK
     simp (disch := first | exact qD13 | fail) only [qG1, Nat.reduceAdd, Nat.reduceLeDiff, Int.reduceToNat, Int.reduceAdd, Int.reduceSub, Int.reduceLT, Int.reduceLE, Nat.reduceSub, Nat.reduceMul, Nat.reduceEqDiff, Bool.not_true]
     exact hK _ qX
    ·rw [decide_eq_false h8]
     rw [if_neg h8] at hK
     simp (disch := first | exact qD13 | fail) only [qG1, Nat.reduceAdd, Nat.reduceLeDiff, Int.reduceToNat, Int.reduceAdd, Int.reduceSub, Int.reduceLT, Int.reduceLE, Nat.reduceSub, Nat.reduceMul, Nat.reduceEqDiff, Bool.not_false]
     exact hK _ qX
theorem Clear_spec {w : World} {t : Bool} {m a : Nat} {K : Value -> World -> Prop} (hK : ∀ w', Ext [] w w' -> K (.agg (cpC false m a).toArray) w') : callsK Tryz.prog 113 #[.agg (cpC t m a).toArray] w K := by
 apply F113_ok
 unfold F113
 have c1 : (cpC t m a)[1]? = some (.int .u64 (m : Nat)) := rfl
 have c2 : (cpC t m a)[2]? = some (.int .u64 (a : Nat)) := rfl
 simp (disch := first | exact qD13 | fail) only [qG1, Nat.reduceAdd, Nat.reduceLeDiff, Int.reduceToNat, Int.reduceAdd, Int.reduceSub, Int.reduceLT, Int.reduceLE, Nat.reduceSub, Nat.reduceMul, Nat.reduceEqDiff, c1, c2]
 exact hK _ qX
theorem Null_spec {w : World} {n : Nat} {K : Value -> World -> Prop} (hK : ∀ w', Ext [] w w' -> K (.agg (cpC false 0 n).toArray) w') : callsK Tryz.prog 11 #[.int .u64 (n : Nat)] w K := by
 apply F11_ok
 unfold F11
 simp (disch := first | exact qD13 | fail) only [qG1, Nat.reduceAdd, Nat.reduceLeDiff, Int.reduceToNat, Int.reduceAdd, Int.reduceSub, Int.reduceLT, Int.reduceLE, Nat.reduceSub, Nat.reduceMul, Nat.reduceEqDiff]
 exact hK _ qX
/-- is it as it was, at another address? -/
def moveT (t : Bool) (m a b : Nat) : Bool := openM t m a && (spM m b).isSome && decide (spB (spM m b) = spB (spM m a) /\ spT (spM m b) = spT (spM m a))
theorem Address_spec {w : World} {t : Bool} {m a b : Nat} (hm : m < 18446744073709551616) (ha : a < 18446744073709551616) (hb : b < 18446744073709551616) {K : Value -> World -> Prop} (hK : ∀ w', Ext [] w w' -> K (.agg (cpC (moveT t m a b) m b).toArray) w') :
  callsK Tryz.prog 101 #[.agg (cpC t m a).toArray, .int .u64 (b : Nat)] w K := by
 apply F101_ok
 unfold F101
 simp (disch := first | exact qD13 | fail) only [qG1, Nat.reduceAdd, Nat.reduceLeDiff, Int.reduceToNat, Int.reduceAdd, Int.reduceSub, Int.reduceLT, Int.reduceLE, Nat.reduceSub, Nat.reduceMul, Nat.reduceEqDiff, cpC_sub]
 refine of_spec hm ha fun w1 hx1 => ?_
 have hxa : Ext [] w w1 := Ext.trans qX hx1 (by simp)
 have h1 := hx1.at (b := w.heap.size) (o := .cells (cpC t m a).toArray 37 (0, 0)) (by first | with_reducible rfl | assumption | (simp (disch := first | exact qD13 | fail) only [qG1, Nat.reduceAdd, Nat.reduceLeDiff, Int.reduceToNat, Int.reduceAdd, Int.reduceSub, Int.reduceLT, Int.reduceLE, Nat.reduceSub, Nat.reduceMul, Nat.reduceEqDiff] <;> rfl)) (by simp)
 have h2 := hx1.at (b := w.heap.size + 1) (o := .cells [.bool false, .int .u64 0, .int .u64 0].toArray 37 (0, 0)) (by first | with_reducible rfl | assumption | (simp (disch := first | exact qD13 | fail) only [qG1, Nat.reduceAdd, Nat.reduceLeDiff, Int.reduceToNat, Int.reduceAdd, Int.reduceSub, Int.reduceLT, Int.reduceLE, Nat.reduceSub, Nat.reduceMul, Nat.reduceEqDiff] <;> rfl)) (by simp)
 have l1 := lt_of_at h1
 have l2 := lt_of_at h2
 have s1 : (cpC t m a).set 2 (.int .u64 (b : Nat)) = cpC t m b := rfl
 simp (disch := first | exact qD13 | fail) only [qG1, Nat.reduceAdd, Nat.reduceLeDiff, Int.reduceToNat, Int.reduceAdd, Int.reduceSub, Int.reduceLT, Int.reduceLE, Nat.reduceSub, Nat.reduceMul, Nat.reduceEqDiff, lv_over, lv_over2, h1, s1, cpC_sub]
 refine Look_spec hm hb fun w2 hx2 => ?_
 have hx3 : Ext [] w (World.upd (w1.alloc (.cells (lvC t m a).toArray 162)) w.heap.size (cpC t m b)) := qX
 have hx4 := hx3.trans hx2 (by simp)
 have u1 : (World.upd (w1.alloc (.cells (lvC t m a).toArray 162)) w.heap.size (cpC t m b)).heap[w.heap.size]? = some (.cells (cpC t m b).toArray 37 (0, 0)) := upd_at (l0 := cpC t m a) (by first | with_reducible rfl | assumption | (simp (disch := first | exact qD13 | fail) only [qG1, Nat.reduceAdd, Nat.reduceLeDiff, Int.reduceToNat, Int.reduceAdd, Int.reduceSub, Int.reduceLT, Int.reduceLE, Nat.reduceSub, Nat.reduceMul, Nat.reduceEqDiff, h1] <;> rfl))
 have u2 : (World.upd (w1.alloc (.cells (lvC t m a).toArray 162)) w.heap.size (cpC t m b)).heap[w.heap.size + 1]? = some (.cells [.bool false, .int .u64 0, .int .u64 0].toArray 37 (0, 0)) := (by first | with_reducible rfl | assumption | (simp (disch := first | exact qD13 | fail) only [qG1, Nat.reduceAdd, Nat.reduceLeDiff, Int.reduceToNat, Int.reduceAdd, Int.reduceSub, Int.reduceLT, Int.reduceLE, Nat.reduceSub, Nat.reduceMul, Nat.reduceEqDiff, h2] <;> rfl))
 have u5 : (World.upd (w1.alloc (.cells (lvC t m a).toArray 162)) w.heap.size (cpC t m b)).heap[w1.heap.size]? = some (.cells (lvC t m a).toArray 162 (0, 0)) := (by first | with_reducible rfl | assumption | (simp (disch := first | exact qD13 | fail) only [qG1, Nat.reduceAdd, Nat.reduceLeDiff, Int.reduceToNat, Int.reduceAdd, Int.reduceSub, Int.reduceLT, Int.reduceLE, Nat.reduceSub, Nat.reduceMul, Nat.reduceEqDiff] <;> rfl))
 have k1 := hx2.at u1 (by simp)
 have k2 := hx2.at u2 (by simp)
 have k5 := hx2.at u5 (by simp)
 have j1 := lt_of_at k1
 have j2 := lt_of_at k2
 have j5 := lt_of_at k5
 have hne : w.heap.size ≠ w1.heap.size := by omega
 simp (disch := first | exact qD13 | fail) only [qG1, Nat.reduceAdd, Nat.reduceLeDiff, Int.reduceToNat, Int.reduceAdd, Int.reduceSub, Int.reduceLT, Int.reduceLE, Nat.reduceSub, Nat.reduceMul, Nat.reduceEqDiff, vw_over, vw_over2, k5, lvC_sub]
 have hx5 : Ext [] w2 (w2.alloc (.cells (vwC m b).toArray 160)) := qX
 refine open_spec fun w3 hx6 => ?_
 have hx7 := hx5.trans hx6 (by simp)
 have hx8 := hx4.trans hx7 (by simp)
 have n1 := hx7.at k1 (by simp)
 have n2 := hx7.at k2 (by simp)
 have n5 := hx7.at k5 (by simp)
 have n6 := hx6.at (b := w2.heap.size) (o := .cells (vwC m b).toArray 160 (0, 0)) (by first | with_reducible rfl | assumption | (simp (disch := first | exact qD13 | fail) only [qG1, Nat.reduceAdd, Nat.reduceLeDiff, Int.reduceToNat, Int.reduceAdd, Int.reduceSub, Int.reduceLT, Int.reduceLE, Nat.reduceSub, Nat.reduceMul, Nat.reduceEqDiff] <;> rfl)) (by simp)
 have i1 := lt_of_at n1
 have i2 := lt_of_at n2
 have i5 := lt_of_at n5
 have i6 := lt_of_at n6
 have r1 : sub (vwC m b) 0 2 = [.int .u64 (spB (spM m b) : Nat), .int .u64 (spT (spM m b) : Nat)] := rfl
 have r2 : sub (lvC t m a) 3 2 = [.int .u64 (spB (spM m a) : Nat), .int .u64 (spT (spM m a) : Nat)] := rfl
 have hM : moveT t m a b = (openM t m a && (spM m b).isSome && decide (spB (spM m b) = spB (spM m a) /\ spT (spM m b) = spT (spM m a))) := rfl
 have s2 : ∀ x, (cpC t m b).set 0 (.bool x) = cpC x m b := fun _ => rfl
 have z1 : ∀ x, splice [.bool false, .int .u64 0, .int .u64 0] 0 (cpC x m b) = cpC x m b := fun _ => rfl
 have z2 : ∀ x, cpC x m b ++ List.drop (cpC x m b).length [.bool false, .int .u64 0, .int .u64 0] = cpC x m b := fun _ => by simp [cpC]
 have hend : ∀ x, x = moveT t m a b -> Ext [] w (World.upd (World.upd w3 w.heap.size (cpC x m b)) (w.heap.size + 1) (cpC x m b)) -> K (.agg (cpC x m b).toArray) (World.upd (World.upd w3 w.heap.size (cpC x m b)) (w.heap.size + 1) (cpC x m b)) := by
  intro x hx hxx
  subst hx
  exact hK _ hxx
 rw [hM] at hend
 have hfr : ∀ x, Ext [] w (World.upd (World.upd w3 w.heap.size (cpC x m b)) (w.heap.size + 1) (cpC x m b)) := fun x => qX
 have v1 : ∀ x, (World.upd w3 w.heap.size (cpC x m b)).heap[w.heap.size]? = some (.cells (cpC x m b).toArray 37 (0, 0)) := fun x => upd_at n1
 have v2 : ∀ x, (World.upd w3 w.heap.size (cpC x m b)).heap[w.heap.size + 1]? = some (.cells [.bool false, .int .u64 0, .int .u64 0].toArray 37 (0, 0)) := fun x => (upd_ne (by omega)).trans n2
 have v3 : ∀ x, (World.upd (World.upd w3 w.heap.size (cpC x m b)) (w.heap.size + 1) (cpC x m b)).heap[w.heap.size + 1]? = some (.cells (cpC x m b).toArray 37 (0, 0)) := fun x => upd_at (v2 x)
 cases h6 : openM t m a with
 | false =>
  simp (disch := first | exact qD13 | fail) only [qG1, Nat.reduceAdd, Nat.reduceLeDiff, Int.reduceToNat, Int.reduceAdd, Int.reduceSub, Int.reduceLT, Int.reduceLE, Nat.reduceSub, Nat.reduceMul, Nat.reduceEqDiff, joinBR, n1, n2, n5, n6, r1, r2, s2, z1, z2, cpC_sub, v1, v2, v3]
  exact hend false (by rw [h6]; rfl) (hfr _)
 | true =>
  cases h7 : (spM m b).isSome with
  | false =>
   simp (disch := first | exact qD13 | fail) only [qG1, Nat.reduceAdd, Nat.reduceLeDiff, Int.reduceToNat, Int.reduceAdd, Int.reduceSub, Int.reduceLT, Int.reduceLE, Nat.reduceSub, Nat.reduceMul, Nat.reduceEqDiff, joinBR, n1, n2, n5, n6, r1, r2, s2, z1, z2, cpC_sub, v1, v2, v3]
   exact hend false (by rw [h6, h7]; rfl) (hfr _)
  | true =>
   by_cases h8 : spB (spM m b) = spB (spM m a)
   ·by_cases h9 : spT (spM m b) = spT (spM m a)
    ·simp (disch := first | exact qD13 | fail) only [qG1, Nat.reduceAdd, Nat.reduceLeDiff, Int.reduceToNat, Int.reduceAdd, Int.reduceSub, Int.reduceLT, Int.reduceLE, Nat.reduceSub, Nat.reduceMul, Nat.reduceEqDiff, joinBR, n1, n2, n5, n6, r1, r2, s2, z1, z2, cpC_sub, v1, v2, v3, h8, h9, beq_self_eq_true, Bool.true_and, Bool.and_true]
     exact hend true (by rw [h6, h7, decide_eq_true ⟨h8, h9⟩]; rfl) (hfr _)
    ·have e9 : (((spT (spM m b) : Nat) : Int) == ((spT (spM m a) : Nat) : Int)) = false := by rw [beq_eq_false_iff_ne]; omega
     simp (disch := first | exact qD13 | fail) only [qG1, Nat.reduceAdd, Nat.reduceLeDiff, Int.reduceToNat, Int.reduceAdd, Int.reduceSub, Int.reduceLT, Int.reduceLE, Nat.reduceSub, Nat.reduceMul, Nat.reduceEqDiff, joinBR, n1, n2, n5, n6, r1, r2, s2, z1, z2, cpC_sub, v1, v2, v3, h8, e9, beq_self_eq_true, Bool.true_and, Bool.and_true, Bool.false_and]
     exact hend false (by rw [h6, h7, decide_eq_false fun h => h9 h.2]; rfl) (hfr _)
   ·have e8 : (((spB (spM m b) : Nat) : Int) == ((spB (spM m a) : Nat) : Int)) = false := by rw [beq_eq_false_iff_ne]; omega
    simp (disch := first | exact qD13 | fail) only [qG1, Nat.reduceAdd, Nat.reduceLeDiff, Int.reduceToNat, Int.reduceAdd, Int.reduceSub, Int.reduceLT, Int.reduceLE, Nat.reduceSub, Nat.reduceMul, Nat.reduceEqDiff, joinBR, n1, n2, n5, n6, r1, r2, s2, z1, z2, cpC_sub, v1, v2, v3, e8, Bool.false_and]
    exact hend false (by rw [h6, h7, decide_eq_false fun h => h8 h.1]; rfl) (hfr _)
theorem Move_spec {w : World} {t : Bool} {m a : Nat} {d : Int} {b : Nat} (hm : m < 18446744073709551616) (ha : a < 18446744073709551616) (hb : b < 18446744073709551616) (hd : IntKind.u64.wrap ((a : Int) + d) = (b : Int)) {K : Value -> World -> Prop} (hK : ∀ w', Ext [] w w' -> K (.agg (cpC (moveT t m a b) m b).toArray) w') :
  callsK Tryz.prog 53 #[.agg (cpC t m a).toArray, .int .u64 d] w K := by
 apply F53_ok
 unfold F53
 have c2 : (cpC t m a)[2]? = some (.int .u64 (a : Nat)) := rfl
 simp (disch := first | exact qD13 | fail) only [qG1, Nat.reduceAdd, Nat.reduceLeDiff, Int.reduceToNat, Int.reduceAdd, Int.reduceSub, Int.reduceLT, Int.reduceLE, Nat.reduceSub, Nat.reduceMul, Nat.reduceEqDiff, cpC_sub, c2, hd]
 refine Address_spec hm ha hb fun w1 hx1 => ?_
 have hxa : Ext [] w w1 := Ext.trans qX hx1 (by simp)
 have h2 := hx1.at (b := w.heap.size + 1) (o := .cells [.bool false, .int .u64 0, .int .u64 0].toArray 37 (0, 0)) (by first | with_reducible rfl | assumption | (simp (disch := first | exact qD13 | fail) only [qG1, Nat.reduceAdd, Nat.reduceLeDiff, Int.reduceToNat, Int.reduceAdd, Int.reduceSub, Int.reduceLT, Int.reduceLE, Nat.reduceSub, Nat.reduceMul, Nat.reduceEqDiff] <;> rfl)) (by simp)
 have l2 := lt_of_at h2
 have z1 : ∀ x, splice [.bool false, .int .u64 0, .int .u64 0] 0 (cpC x m b) = cpC x m b := fun _ => rfl
 have z2 : ∀ x, cpC x m b ++ List.drop (cpC x m b).length [.bool false, .int .u64 0, .int .u64 0] = cpC x m b := fun _ => by simp [cpC]
 simp (disch := first | exact qD13 | fail) only [qG1, Nat.reduceAdd, Nat.reduceLeDiff, Int.reduceToNat, Int.reduceAdd, Int.reduceSub, Int.reduceLT, Int.reduceLE, Nat.reduceSub, Nat.reduceMul, Nat.reduceEqDiff, h2, z1, z2, cpC_sub]
 exact hK _ qX
open Go.Fx
set_option maxRecDepth 100000
/-- a capability. -/
structure Cq where
 t : Bool
 m : Nat
 a : Nat
def Cq.zero : Cq := ⟨false, 0, 0⟩
def cq (c : Cq) : List Value := cpC c.t c.m c.a
theorem cq_len (c : Cq) : (cq c).length = 3 := by simp [cq, cpC]
theorem cq_all (c : Cq) : (cq c).all (fun v => v.oneCell') = true := cpC_all _ _ _
theorem cq_sub (c : Cq) : sub (cq c) 0 3 = cq c := rfl
theorem cq_over0 (d : Cq) : splice [.bool false, .int .u64 0, .int .u64 0] 0 (cq d) = cq d := rfl
theorem cq_put (d : Cq) : cq d ++ List.drop (cq d).length [.bool false, .int .u64 0, .int .u64 0] = cq d := by simp [cq, cpC]
/-- the cells of a context: 32 registers, and the next instruction's. -/
def rowsC (c : Nat -> Cq) : Nat -> List Value
 | 0 => []
 | n + 1 => rowsC c n ++ cq (c n)
theorem rowsC_len (c : Nat -> Cq) : ∀ n, (rowsC c n).length = n * 3
 | 0 => rfl
 | n + 1 => by rw [rowsC, List.length_append, rowsC_len c n, cq_len, Nat.succ_mul]
theorem rowsC_get (c : Nat -> Cq) : ∀ n i, i < n * 3 -> (rowsC c n)[i]? = (cq (c (i / 3)))[i % 3]?
 | 0, i, h => by omega
 | n + 1, i, h => by
  rw [rowsC]
  by_cases hi : i < n * 3
  ·rw [List.getElem?_append_left (by rw [rowsC_len]; exact hi), rowsC_get c n i hi]
  ·rw [List.getElem?_append_right (by rw [rowsC_len]; omega), rowsC_len, show i / 3 = n by omega, show i - n * 3 = i % 3 by omega]
theorem rowsC_all (c : Nat -> Cq) : ∀ n, (rowsC c n).all (fun v => v.oneCell') = true
 | 0 => rfl
 | n + 1 => by rw [rowsC, List.all_append, rowsC_all c n, cq_all]; rfl
def cxC (c : Nat -> Cq) : List Value := rowsC c 33
theorem cxC_len (c : Nat -> Cq) : (cxC c).length = 99 := by rw [cxC, rowsC_len]
theorem cxC_all (c : Nat -> Cq) : (cxC c).all (fun v => v.oneCell') = true := rowsC_all c 33
theorem cx_sub (c : Nat -> Cq) : sub (cxC c) 0 99 = cxC c := by
 unfold sub
 rw [List.drop_zero, List.take_of_length_le (by rw [cxC_len]; omega)]
theorem cx_over (c d : Nat -> Cq) : splice (cxC c) 0 (cxC d) = cxC d := by
 unfold splice
 rw [List.take_zero, List.nil_append, cxC_len, List.drop_of_length_le (by rw [cxC_len]; omega), List.append_nil]
theorem cx_put (c d : Nat -> Cq) : cxC d ++ List.drop (cxC d).length (cxC c) = cxC d := by
 rw [cxC_len, List.drop_of_length_le (by rw [cxC_len]; omega), List.append_nil]
theorem cx_at {c : Nat -> Cq} {k : Nat} (h : k < 33) : sub (cxC c) (k * 3) 3 = cq (c k) := by
 apply List.ext_getElem?
 intro j
 unfold sub
 rw [List.getElem?_take]
 split
 ·rename_i hj
  rw [List.getElem?_drop, cxC, rowsC_get c 33 _ (by omega), show (k * 3 + j) / 3 = k by omega, show (k * 3 + j) % 3 = j by omega]
 ·rename_i hj
  rw [List.getElem?_eq_none (by rw [cq_len]; omega)]
/-- one of them another. -/
def setX (c : Nat -> Cq) (k : Nat) (x : Cq) : Nat -> Cq := fun j => if j = k then x else c j
theorem cx_with {c : Nat -> Cq} {k : Nat} {x : Cq} (h : k < 33) : splice (cxC c) (k * 3) (cq x) = cxC (setX c k x) := by
 apply List.ext_getElem?
 intro i
 rw [splice_get (by rw [cq_len, cxC_len]; omega), cq_len]
 by_cases hi : i < 99
 ·have e1 : (cxC c)[i]? = (cq (c (i / 3)))[i % 3]? := rowsC_get c 33 i (by omega)
  have e2 : (cxC (setX c k x))[i]? = (cq (setX c k x (i / 3)))[i % 3]? := rowsC_get _ 33 i (by omega)
  rw [e1, e2]
  unfold setX
  by_cases h1 : i < k * 3
  ·rw [if_pos h1, if_neg (by omega)]
  ·rw [if_neg h1]
   by_cases h2 : i < k * 3 + 3
   ·rw [if_pos h2, if_pos (by omega), show i - k * 3 = i % 3 by omega]
   ·rw [if_neg h2, if_neg (by omega)]
 ·rw [if_neg (by omega), if_neg (by omega), List.getElem?_eq_none (by rw [cxC_len]; omega), List.getElem?_eq_none (by rw [cxC_len]; omega)]
def zeroX : Nat -> Cq := fun _ => Cq.zero
theorem zeroX_cells : Tryz.zeroCells40 = (cxC zeroX).toArray := by kernel_rfl
theorem qZ14 : type_of% (And.intro @szR (And.intro @fdsC_len (And.intro @fdsC_all (And.intro @spC_len (And.intro @spC_all (And.intro @cpC_len (And.intro @vwC_len (And.intro @cpC_all (And.intro @vwC_all (And.intro @lvC_len (And.intro @lvC_all (And.intro @cq_len (And.intro @cq_all (And.intro @cxC_len (@cxC_all))))))))))))))) := ⟨@szR, @fdsC_len, @fdsC_all, @spC_len, @spC_all, @cpC_len, @vwC_len, @cpC_all, @vwC_all, @lvC_len, @lvC_all, @cq_len, @cq_all, @cxC_len, @cxC_all⟩
theorem qD14 {p : Prop} (h : p := by first | assumption | omega | (simp only [qZ14] <;> omega) | rfl | decide) : p := h
theorem is_spec {w : World} {n : Nat} (hn : n < 9223372036854775808) {K : Value -> World -> Prop} (hK : K (.bool (decide (1 <= n /\ n < 32))) w) : callsK Tryz.prog 29 #[.int .i64 (n : Nat)] w K := by
 apply F29_ok
 unfold F29
 by_cases h1 : 1 <= n
 ·by_cases h2 : n < 32
  ·rw [decide_eq_true (And.intro h1 h2)] at hK
   simp (disch := first | exact qD14 | fail) only [qG1, Nat.reduceAdd, Nat.reduceLeDiff, Int.reduceToNat, Int.reduceAdd, Int.reduceSub, Int.reduceLT, Int.reduceLE, Nat.reduceSub, Nat.reduceMul, Nat.reduceEqDiff, joinBR]
   exact hK
  ·rw [decide_eq_false (fun h : 1 <= n /\ n < 32 => h2 h.2)] at hK
   simp (disch := first | exact qD14 | fail) only [qG1, Nat.reduceAdd, Nat.reduceLeDiff, Int.reduceToNat, Int.reduceAdd, Int.reduceSub, Int.reduceLT, Int.reduceLE, Nat.reduceSub, Nat.reduceMul, Nat.reduceEqDiff, joinBR]
   exact hK
 ·rw [decide_eq_false (fun h : 1 <= n /\ n < 32 => h1 h.1)] at hK
  simp (disch := first | exact qD14 | fail) only [qG1, Nat.reduceAdd, Nat.reduceLeDiff, Int.reduceToNat, Int.reduceAdd, Int.reduceSub, Int.reduceLT, Int.reduceLE, Nat.reduceSub, Nat.reduceMul, Nat.reduceEqDiff, joinBR]
  exact hK
/-- a register: zero, or one of them. -/
def regX (c : Nat -> Cq) (n : Nat) : Cq := if 1 <= n /\ n < 32 then c n else Cq.zero
theorem Get_reg {w : World} {c : Nat -> Cq} {n : Nat} (hn : n < 9223372036854775808) {K : Value -> World -> Prop} (hK : ∀ w', Ext [] w w' -> K (.agg (cq (regX c n)).toArray) w') : callsK Tryz.prog 10 #[.agg (cxC c).toArray, .int .i64 (n : Nat)] w K := by
 apply F10_ok
 unfold F10
 simp (disch := first | exact qD14 | fail) only [qG1, Nat.reduceAdd, Nat.reduceLeDiff, Int.reduceToNat, Int.reduceAdd, Int.reduceSub, Int.reduceLT, Int.reduceLE, Nat.reduceSub, Nat.reduceMul, Nat.reduceEqDiff]
 refine is_spec hn ?_
 have hb : ∀ w, (Instr.build 37 #[]).run Tryz.prog w = .ok (.agg (cq Cq.zero).toArray) w := fun w => run_build w 37 _ _ (by kernel_rfl)
 unfold regX at hK
 by_cases h : 1 <= n /\ n < 32
 ·rw [if_pos h] at hK
  rw [decide_eq_true h]
  simp (disch := first | exact qD14 | fail) only [qG1, Nat.reduceAdd, Nat.reduceLeDiff, Int.reduceToNat, Int.reduceAdd, Int.reduceSub, Int.reduceLT, Int.reduceLE, Nat.reduceSub, Nat.reduceMul, Nat.reduceEqDiff, Bool.not_true, Int.toNat_natCast, Nat.zero_add, cx_at, cq_over0, cq_put, cq_sub]
  exact hK _ qX
 ·rw [if_neg h] at hK
  rw [decide_eq_false h]
  simp (disch := first | exact qD14 | fail) only [qG1, Nat.reduceAdd, Nat.reduceLeDiff, Int.reduceToNat, Int.reduceAdd, Int.reduceSub, Int.reduceLT, Int.reduceLE, Nat.reduceSub, Nat.reduceMul, Nat.reduceEqDiff, Bool.not_false, hb, cq_over0, cq_put, cq_sub]
  exact hK _ qX
/-- a context with a register another one. -/
def withX (c : Nat -> Cq) (n : Nat) (x : Cq) : Nat -> Cq := if 1 <= n /\ n < 32 then setX c n x else c
theorem With_reg {w : World} {c : Nat -> Cq} {n : Nat} {x : Cq} (hn : n < 9223372036854775808) {K : Value -> World -> Prop} (hK : ∀ w', Ext [] w w' -> K (.agg (cxC (withX c n x)).toArray) w') : callsK Tryz.prog 114 #[.agg (cxC c).toArray, .int .i64 (n : Nat), .agg (cq x).toArray] w K := by
 apply F114_ok
 unfold F114
 simp (disch := first | exact qD14 | fail) only [qG1, Nat.reduceAdd, Nat.reduceLeDiff, Int.reduceToNat, Int.reduceAdd, Int.reduceSub, Int.reduceLT, Int.reduceLE, Nat.reduceSub, Nat.reduceMul, Nat.reduceEqDiff]
 refine joinL.intro fun J hJ => ?_
 have hend : ∀ d w2, w2.heap[w.heap.size]? = some (.cells (cxC d).toArray 40 (0, 0)) -> w2.heap[w.heap.size + 2]? = some (.cells (cxC zeroX).toArray 40 (0, 0)) -> Ext [] w w2 -> d = withX c n x -> J [] w2 := by
  intro d w2 h1 h2 h3 h4
  apply hJ
  intro _
  have l1 := lt_of_at h1
  have l2 := lt_of_at h2
  simp (disch := first | exact qD14 | fail) only [qG1, Nat.reduceAdd, Nat.reduceLeDiff, Int.reduceToNat, Int.reduceAdd, Int.reduceSub, Int.reduceLT, Int.reduceLE, Nat.reduceSub, Nat.reduceMul, Nat.reduceEqDiff, h1, h2, cx_sub, cx_over, cx_put]
  subst h4
  exact hK _ qX
 refine is_spec hn ?_
 have hd : withX c n x = if 1 <= n /\ n < 32 then setX c n x else c := rfl
 by_cases h : 1 <= n /\ n < 32
 ·rw [if_pos h] at hd
  rw [decide_eq_true h]
  simp (disch := first | exact qD14 | fail) only [qG1, Nat.reduceAdd, Nat.reduceLeDiff, Int.reduceToNat, Int.reduceAdd, Int.reduceSub, Int.reduceLT, Int.reduceLE, Nat.reduceSub, Nat.reduceMul, Nat.reduceEqDiff, cq_sub, Int.toNat_natCast, Nat.zero_add, cx_with]
  refine hend (setX c n x) _ (upd_at (l0 := cxC c) (by first | with_reducible rfl | assumption | (simp (disch := first | exact qD14 | fail) only [qG1, Nat.reduceAdd, Nat.reduceLeDiff, Int.reduceToNat, Int.reduceAdd, Int.reduceSub, Int.reduceLT, Int.reduceLE, Nat.reduceSub, Nat.reduceMul, Nat.reduceEqDiff] <;> rfl))) (by rw [zeroX_cells]; simp (disch := first | exact qD14 | fail) only [qG1, Nat.reduceAdd, Nat.reduceLeDiff, Int.reduceToNat, Int.reduceAdd, Int.reduceSub, Int.reduceLT, Int.reduceLE, Nat.reduceSub, Nat.reduceMul, Nat.reduceEqDiff]) qX hd.symm
 ·rw [if_neg h] at hd
  rw [decide_eq_false h]
  simp (disch := first | exact qD14 | fail) only [qG1, Nat.reduceAdd, Nat.reduceLeDiff, Int.reduceToNat, Int.reduceAdd, Int.reduceSub, Int.reduceLT, Int.reduceLE, Nat.reduceSub, Nat.reduceMul, Nat.reduceEqDiff]
  exact hend c _ (by first | with_reducible rfl | assumption | (simp (disch := first | exact qD14 | fail) only [qG1, Nat.reduceAdd, Nat.reduceLeDiff, Int.reduceToNat, Int.reduceAdd, Int.reduceSub, Int.reduceLT, Int.reduceLE, Nat.reduceSub, Nat.reduceMul, Nat.reduceEqDiff] <;> rfl)) (by rw [zeroX_cells]; simp (disch := first | exact qD14 | fail) only [qG1, Nat.reduceAdd, Nat.reduceLeDiff, Int.reduceToNat, Int.reduceAdd, Int.reduceSub, Int.reduceLT, Int.reduceLE, Nat.reduceSub, Nat.reduceMul, Nat.reduceEqDiff]) qX hd.symm
theorem Zero_reg {w : World} {x : Cq} {K : Value -> World -> Prop} (hK : ∀ w', Ext [] w w' -> K (.agg (cxC (setX zeroX 32 x)).toArray) w') : callsK Tryz.prog 8 #[.agg (cq x).toArray] w K := by
 apply F8_ok
 unfold F8
 have hb : ∀ (t : Bool) (m a : Int) (w : World), (Instr.build 40 #[(1, .agg [.bool t, .int .u64 m, .int .u64 a].toArray)]).run Tryz.prog w = .ok (.agg (rowsC zeroX 32 ++ [Value.bool t, Value.int .u64 m, Value.int .u64 a]).toArray) w := fun t m a w => run_build w 40 _ _ (by kernel_rfl)
 have hs : cxC (setX zeroX 32 x) = rowsC zeroX 32 ++ cq x := by
  have h1 : ∀ n, n <= 32 -> rowsC (setX zeroX 32 x) n = rowsC zeroX n := by
   intro n
   induction n with
   | zero => intro _; rfl
   | succ n ih =>
    intro h
    rw [rowsC, rowsC, ih (by omega)]
    congr 2
    unfold setX
    rw [if_neg (by omega)]
  have h2 : setX zeroX 32 x 32 = x := if_pos rfl
  show rowsC (setX zeroX 32 x) 32 ++ cq (setX zeroX 32 x 32) = _
  rw [h1 32 (by omega), h2]
 have hb2 : ∀ w, (Instr.build 40 #[(1, .agg (cq x).toArray)]).run Tryz.prog w = .ok (.agg (cxC (setX zeroX 32 x)).toArray) w := fun w => by rw [hs]; exact hb _ _ _ w
 simp (disch := first | exact qD14 | fail) only [qG1, Nat.reduceAdd, Nat.reduceLeDiff, Int.reduceToNat, Int.reduceAdd, Int.reduceSub, Int.reduceLT, Int.reduceLE, Nat.reduceSub, Nat.reduceMul, Nat.reduceEqDiff, cq_sub, hb2, zeroX_cells, cx_over, cx_put, cx_sub]
 exact hK _ qX
/-- the context that goes on. -/
def nextX (c : Nat -> Cq) : Nat -> Cq := setX c 32 ⟨moveT (c 32).t (c 32).m (c 32).a (((c 32).a + 4) % 18446744073709551616), (c 32).m, ((c 32).a + 4) % 18446744073709551616⟩
theorem Next_spec {w : World} {c : Nat -> Cq} (hm : (c 32).m < 18446744073709551616) (ha : (c 32).a < 18446744073709551616) {K : Value -> World -> Prop} (hK : ∀ w', Ext [] w w' -> K (.agg (cxC (nextX c)).toArray) w') : callsK Tryz.prog 18 #[.agg (cxC c).toArray] w K := by
 apply F18_ok
 unfold F18
 have e1 : sub (cxC c) 96 3 = cpC (c 32).t (c 32).m (c 32).a := cx_at (c := c) (k := 32) (by omega)
 have g1 : ((w.alloc (.cells (cxC c).toArray 40)).alloc (.cells (cxC zeroX).toArray 40)).heap[w.heap.size]? = some (.cells (cxC c).toArray 40 (0, 0)) := by simp (disch := first | exact qD14 | fail) only [qG1, Nat.reduceAdd, Nat.reduceLeDiff, Int.reduceToNat, Int.reduceAdd, Int.reduceSub, Int.reduceLT, Int.reduceLE, Nat.reduceSub, Nat.reduceMul, Nat.reduceEqDiff]
 have g2 : ((w.alloc (.cells (cxC c).toArray 40)).alloc (.cells (cxC zeroX).toArray 40)).heap[w.heap.size + 1]? = some (.cells (cxC zeroX).toArray 40 (0, 0)) := by simp (disch := first | exact qD14 | fail) only [qG1, Nat.reduceAdd, Nat.reduceLeDiff, Int.reduceToNat, Int.reduceAdd, Int.reduceSub, Int.reduceLT, Int.reduceLE, Nat.reduceSub, Nat.reduceMul, Nat.reduceEqDiff]
 have hx0 : Ext [] w ((w.alloc (.cells (cxC c).toArray 40)).alloc (.cells (cxC zeroX).toArray 40)) := qX
 simp (disch := first | exact qD14 | fail) only [qG1, Nat.reduceAdd, Nat.reduceLeDiff, Int.reduceToNat, Int.reduceAdd, Int.reduceSub, Int.reduceLT, Int.reduceLE, Nat.reduceSub, Nat.reduceMul, Nat.reduceEqDiff, e1, zeroX_cells]
 have hw : IntKind.u64.wrap (((c 32).a : Int) + 4) = ((((c 32).a + 4) % 18446744073709551616 : Nat) : Int) := by
  rw [wrapMod]
  omega
 refine Move_spec hm ha (Nat.mod_lt _ (by decide)) hw fun w1 hx1 => ?_
 have hxa := hx0.trans hx1 (by simp)
 have h1 := hx1.at g1 (by simp)
 have h2 := hx1.at g2 (by simp)
 have l1 := lt_of_at h1
 have l2 := lt_of_at h2
 have e2 : splice (cxC c) 96 (cpC (moveT (c 32).t (c 32).m (c 32).a (((c 32).a + 4) % 18446744073709551616)) (c 32).m (((c 32).a + 4) % 18446744073709551616)) = cxC (nextX c) := cx_with (c := c) (k := 32) (x := ⟨moveT (c 32).t (c 32).m (c 32).a (((c 32).a + 4) % 18446744073709551616), (c 32).m, ((c 32).a + 4) % 18446744073709551616⟩) (by omega)
 simp (disch := first | exact qD14 | fail) only [qG1, Nat.reduceAdd, Nat.reduceLeDiff, Int.reduceToNat, Int.reduceAdd, Int.reduceSub, Int.reduceLT, Int.reduceLE, Nat.reduceSub, Nat.reduceMul, Nat.reduceEqDiff, h1, h2, e2, cx_sub, cx_over, cx_put]
 exact hK _ qX
open Go.Fx
set_option maxRecDepth 100000
/-- an instruction. -/
structure In where
 op : Nat
 rd : Nat
 r1 : Nat
 r2 : Nat
 im : Int
def inC (i : In) : List Value := [.int .i64 (i.op : Nat), .int .i64 (i.rd : Nat), .int .i64 (i.r1 : Nat), .int .i64 (i.r2 : Nat), .int .i64 i.im]
theorem inC_len (i : In) : (inC i).length = 5 := by simp [inC]
theorem inC_all (i : In) : (inC i).all (fun v => v.oneCell') = true := by simp [inC]; exact ⟨rfl, rfl, rfl, rfl, rfl⟩
theorem inC_sub (i : In) : sub (inC i) 0 5 = inC i := rfl
open Go.Fx
set_option maxRecDepth 100000
theorem qZ15 : type_of% (And.intro @szR (And.intro @rwC_len (And.intro @rwC_all (And.intro @inC_len (@inC_all))))) := ⟨@szR, @rwC_len, @rwC_all, @inC_len, @inC_all⟩
theorem qD15 {p : Prop} (h : p := by first | assumption | omega | (simp only [qZ15] <;> omega) | rfl | decide) : p := h
theorem branches_spec {w : World} {n : Nat} (hn : n < 1000) {K : Value -> World -> Prop} (hK : K (.bool (decide (5 <= n /\ n <= 10))) w) : callsK Tryz.prog 74 #[.int .i64 (n : Nat)] w K := by
 apply F74_ok
 unfold F74
 by_cases h1 : 5 <= n
 ·by_cases h2 : n <= 10
  ·rw [decide_eq_true (And.intro h1 h2)] at hK
   simp (disch := first | exact qD15 | fail) only [qG1, Nat.reduceAdd, Nat.reduceLeDiff, Int.reduceToNat, Int.reduceAdd, Int.reduceSub, Int.reduceLT, Int.reduceLE, Nat.reduceSub, Nat.reduceMul, Nat.reduceEqDiff, joinBR]
   exact hK
  ·rw [decide_eq_false (fun h : 5 <= n /\ n <= 10 => h2 h.2)] at hK
   simp (disch := first | exact qD15 | fail) only [qG1, Nat.reduceAdd, Nat.reduceLeDiff, Int.reduceToNat, Int.reduceAdd, Int.reduceSub, Int.reduceLT, Int.reduceLE, Nat.reduceSub, Nat.reduceMul, Nat.reduceEqDiff, joinBR]
   exact hK
 ·rw [decide_eq_false (fun h : 5 <= n /\ n <= 10 => h1 h.1)] at hK
  simp (disch := first | exact qD15 | fail) only [qG1, Nat.reduceAdd, Nat.reduceLeDiff, Int.reduceToNat, Int.reduceAdd, Int.reduceSub, Int.reduceLT, Int.reduceLE, Nat.reduceSub, Nat.reduceMul, Nat.reduceEqDiff, joinBR]
  exact hK
theorem loads_spec {w : World} {n : Nat} (hn : n < 1000) {K : Value -> World -> Prop} (hK : K (.bool (decide (11 <= n /\ n <= 17))) w) : callsK Tryz.prog 110 #[.int .i64 (n : Nat)] w K := by
 apply F110_ok
 unfold F110
 by_cases h1 : 11 <= n
 ·by_cases h2 : n <= 17
  ·rw [decide_eq_true (And.intro h1 h2)] at hK
   simp (disch := first | exact qD15 | fail) only [qG1, Nat.reduceAdd, Nat.reduceLeDiff, Int.reduceToNat, Int.reduceAdd, Int.reduceSub, Int.reduceLT, Int.reduceLE, Nat.reduceSub, Nat.reduceMul, Nat.reduceEqDiff, joinBR]
   exact hK
  ·rw [decide_eq_false (fun h : 11 <= n /\ n <= 17 => h2 h.2)] at hK
   simp (disch := first | exact qD15 | fail) only [qG1, Nat.reduceAdd, Nat.reduceLeDiff, Int.reduceToNat, Int.reduceAdd, Int.reduceSub, Int.reduceLT, Int.reduceLE, Nat.reduceSub, Nat.reduceMul, Nat.reduceEqDiff, joinBR]
   exact hK
 ·rw [decide_eq_false (fun h : 11 <= n /\ n <= 17 => h1 h.1)] at hK
  simp (disch := first | exact qD15 | fail) only [qG1, Nat.reduceAdd, Nat.reduceLeDiff, Int.reduceToNat, Int.reduceAdd, Int.reduceSub, Int.reduceLT, Int.reduceLE, Nat.reduceSub, Nat.reduceMul, Nat.reduceEqDiff, joinBR]
  exact hK
theorem stores_spec {w : World} {n : Nat} (hn : n < 1000) {K : Value -> World -> Prop} (hK : K (.bool (decide (18 <= n /\ n <= 21))) w) : callsK Tryz.prog 111 #[.int .i64 (n : Nat)] w K := by
 apply F111_ok
 unfold F111
 by_cases h1 : 18 <= n
 ·by_cases h2 : n <= 21
  ·rw [decide_eq_true (And.intro h1 h2)] at hK
   simp (disch := first | exact qD15 | fail) only [qG1, Nat.reduceAdd, Nat.reduceLeDiff, Int.reduceToNat, Int.reduceAdd, Int.reduceSub, Int.reduceLT, Int.reduceLE, Nat.reduceSub, Nat.reduceMul, Nat.reduceEqDiff, joinBR]
   exact hK
  ·rw [decide_eq_false (fun h : 18 <= n /\ n <= 21 => h2 h.2)] at hK
   simp (disch := first | exact qD15 | fail) only [qG1, Nat.reduceAdd, Nat.reduceLeDiff, Int.reduceToNat, Int.reduceAdd, Int.reduceSub, Int.reduceLT, Int.reduceLE, Nat.reduceSub, Nat.reduceMul, Nat.reduceEqDiff, joinBR]
   exact hK
 ·rw [decide_eq_false (fun h : 18 <= n /\ n <= 21 => h1 h.1)] at hK
  simp (disch := first | exact qD15 | fail) only [qG1, Nat.reduceAdd, Nat.reduceLeDiff, Int.reduceToNat, Int.reduceAdd, Int.reduceSub, Int.reduceLT, Int.reduceLE, Nat.reduceSub, Nat.reduceMul, Nat.reduceEqDiff, joinBR]
  exact hK
theorem immediate_spec {w : World} {n : Nat} (hn : n < 1000) {K : Value -> World -> Prop} (hK : K (.bool (decide (22 <= n /\ n <= 30))) w) : callsK Tryz.prog 82 #[.int .i64 (n : Nat)] w K := by
 apply F82_ok
 unfold F82
 by_cases h1 : 22 <= n
 ·by_cases h2 : n <= 30
  ·rw [decide_eq_true (And.intro h1 h2)] at hK
   simp (disch := first | exact qD15 | fail) only [qG1, Nat.reduceAdd, Nat.reduceLeDiff, Int.reduceToNat, Int.reduceAdd, Int.reduceSub, Int.reduceLT, Int.reduceLE, Nat.reduceSub, Nat.reduceMul, Nat.reduceEqDiff, joinBR]
   exact hK
  ·rw [decide_eq_false (fun h : 22 <= n /\ n <= 30 => h2 h.2)] at hK
   simp (disch := first | exact qD15 | fail) only [qG1, Nat.reduceAdd, Nat.reduceLeDiff, Int.reduceToNat, Int.reduceAdd, Int.reduceSub, Int.reduceLT, Int.reduceLE, Nat.reduceSub, Nat.reduceMul, Nat.reduceEqDiff, joinBR]
   exact hK
 ·rw [decide_eq_false (fun h : 22 <= n /\ n <= 30 => h1 h.1)] at hK
  simp (disch := first | exact qD15 | fail) only [qG1, Nat.reduceAdd, Nat.reduceLeDiff, Int.reduceToNat, Int.reduceAdd, Int.reduceSub, Int.reduceLT, Int.reduceLE, Nat.reduceSub, Nat.reduceMul, Nat.reduceEqDiff, joinBR]
  exact hK
open Go.Fx
theorem qG3 : type_of% (And.intro @gen0 (And.intro (@gen1 Tryz.prog) (And.intro @gen2 (And.intro @rulesM (And.intro @litR (And.intro @bolR (And.intro (@numR Tryz.prog) (And.intro (@memR Tryz.prog) (And.intro @valR (And.intro @heapR (And.intro @updR (And.intro @intR (And.intro @decR (And.intro (@extR Tryz.prog) (And.intro (@slR Tryz.prog) (And.intro @segR (And.intro @thenR ((@pnR Tryz.prog))))))))))))))))))) := ⟨@gen0, (@gen1 Tryz.prog), @gen2, @rulesM, @litR, @bolR, (@numR Tryz.prog), (@memR Tryz.prog), @valR, @heapR, @updR, @intR, @decR, (@extR Tryz.prog), (@slR Tryz.prog), @segR, @thenR, (@pnR Tryz.prog)⟩
set_option maxRecDepth 100000
def tgC (g : Nat -> Int) : List Value := [.int .u64 (g 0), .int .u64 (g 1), .int .u64 (g 2), .int .u64 (g 3)]
def Wok (g : Nat -> Int) : Prop := ∀ k, 0 <= g k /\ g k < 18446744073709551616
def bit (g : Nat -> Int) (i : Nat) : Bool := (g (i / 64)).toNat.testBit (i % 64)
def wset (g : Nat -> Int) (k : Nat) (v : Int) : Nat -> Int := fun j => if j = k then v else g j
theorem Wok.wset {g : Nat -> Int} (h : Wok g) {k : Nat} {v : Int} (hv : 0 <= v /\ v < 18446744073709551616) : Wok (wset g k v) := by
 intro j
 unfold YtldkfbelnndaoaaGreatDoor.wset
 split
 ·exact hv
 ·exact h j
theorem Wok.zero : Wok (fun _ => 0) := fun _ => ⟨Int.le_refl 0, (by decide : (0 : Int) < 18446744073709551616)⟩
theorem bit_zero (i : Nat) : bit (fun _ => 0) i = false := by simp [bit]
theorem tgC_len (g : Nat -> Int) : (tgC g).length = 4 := by simp [tgC]
theorem tgC_sub (g : Nat -> Int) : sub (tgC g) 0 4 = tgC g := by simp [tgC, sub]
theorem tgC_all (g : Nat -> Int) : (tgC g).all (fun v => v.oneCell') = true := by simp [tgC]; exact ⟨rfl, rfl, rfl, rfl⟩
theorem tgC_get {g : Nat -> Int} {k : Nat} (h : k < 4) : (tgC g)[k]? = some (.int .u64 (g k)) := by
 match k, h with
 | 0, _ => rfl
 | 1, _ => rfl
 | 2, _ => rfl
 | 3, _ => rfl
theorem tgC_set {g : Nat -> Int} {k : Nat} {v : Int} (h : k < 4) : (tgC g).set k (.int .u64 v) = tgC (wset g k v) := by
 match k, h with
 | 0, _ => rfl
 | 1, _ => rfl
 | 2, _ => rfl
 | 3, _ => rfl
theorem tgC_over (g h : Nat -> Int) : splice (tgC g) 0 (tgC h) = tgC h := by simp [tgC, splice]
theorem tgC_over2 (g h : Nat -> Int) : tgC h ++ List.drop (tgC h).length (tgC g) = tgC h := by simp [tgC]
theorem qZ16 : type_of% (And.intro @szR (And.intro @tgC_len (@tgC_all))) := ⟨@szR, @tgC_len, @tgC_all⟩
theorem qD16 {p : Prop} (h : p := by first | assumption | omega | (simp only [qZ16] <;> omega) | rfl | decide) : p := h
theorem tis_spec {w : World} {i : Int} {K : Value -> World -> Prop} (hK : K (.bool (decide (0 <= i /\ i < 256))) w) : callsK Tryz.prog 104 #[.int .i64 i] w K := by
 apply F104_ok
 unfold F104
 by_cases h0 : 0 <= i
 ·by_cases h1 : i < 256
  ·simp (disch := first | exact qD16 | fail) only [qG3, Nat.reduceAdd, Nat.reduceLeDiff, Int.reduceToNat, Int.reduceAdd, Int.reduceSub, Int.reduceLT, Int.reduceLE, Nat.reduceSub, Nat.reduceMul, Nat.reduceEqDiff, joinBR]
   rwa [decide_eq_true ⟨h0, h1⟩] at hK
  ·simp (disch := first | exact qD16 | fail) only [qG3, Nat.reduceAdd, Nat.reduceLeDiff, Int.reduceToNat, Int.reduceAdd, Int.reduceSub, Int.reduceLT, Int.reduceLE, Nat.reduceSub, Nat.reduceMul, Nat.reduceEqDiff, joinBR]
   rwa [decide_eq_false fun h => h1 h.2] at hK
 ·simp (disch := first | exact qD16 | fail) only [qG3, Nat.reduceAdd, Nat.reduceLeDiff, Int.reduceToNat, Int.reduceAdd, Int.reduceSub, Int.reduceLT, Int.reduceLE, Nat.reduceSub, Nat.reduceMul, Nat.reduceEqDiff, joinBR]
  rwa [decide_eq_false fun h => h0 h.1] at hK
theorem pow_lt64 {i : Nat} (h : i < 64) : (2 : Nat) ^ i < 18446744073709551616 := Nat.pow_lt_pow_right (a := 2) (by omega) h
theorem shl_bit {i : Int} (h : 0 <= i /\ i < 64) : IntKind.u64.wrap (1 * 2 ^ i.toNat) = ((2 ^ i.toNat : Nat) : Int) := by
 have := pow_lt64 (i := i.toNat) (by omega)
 have e2 : (1 : Int) * 2 ^ i.toNat = ((2 ^ i.toNat : Nat) : Int) := by simp
 rw [e2]
 generalize 2 ^ i.toNat = p at this
 exact wrap_u64 ⟨by omega, by omega⟩
theorem With_spec {w : World} {g : Nat -> Int} {i : Int} {tag : Bool} (hg : Wok g) {K : Value -> World -> Prop}
  (hK : ∀ g' w', Wok g' -> (∀ j, j < 256 -> bit g' j = if (j : Int) = i then tag else bit g j) -> Ext [] w w' -> K (.agg (tgC g').toArray) w') : callsK Tryz.prog 63 #[.agg (tgC g).toArray, .int .i64 i, .bool tag] w K := by
 apply F63_ok
 unfold F63
 simp (disch := first | exact qD16 | fail) only [qG3, Nat.reduceAdd, Nat.reduceLeDiff, Int.reduceToNat, Int.reduceAdd, Int.reduceSub, Int.reduceLT, Int.reduceLE, Nat.reduceSub, Nat.reduceMul, Nat.reduceEqDiff, tgC_len]
 apply tis_spec
 by_cases hi : 0 <= i /\ i < 256
 ·rw [decide_eq_true hi]
  have hm : i.tmod 64 = i % 64 := Int.tmod_eq_emod_of_nonneg hi.1
  have hq : i.tdiv 64 = i / 64 := Int.tdiv_eq_ediv_of_nonneg hi.1
  have hsh := shl_bit (i := i % 64) (by omega)
  have hpl := pow_lt64 (i := (i % 64).toNat) (by omega)
  have hgk := hg (i / 64).toNat
  obtain ⟨p, hp⟩ : ∃ p, p = 2 ^ (i % 64).toNat := ⟨_, rfl⟩
  rw [<- hp] at hsh hpl
  simp (disch := first | exact qD16 | fail) only [qG3, Nat.reduceAdd, Nat.reduceLeDiff, Int.reduceToNat, Int.reduceAdd, Int.reduceSub, Int.reduceLT, Int.reduceLE, Nat.reduceSub, Nat.reduceMul, Nat.reduceEqDiff, hm, hsh, tgC_len]
  refine joinL.intro fun J hJ => ?_
  have hrest : ∀ g' w2, w2.heap[w.heap.size]? = some (.cells (tgC g').toArray 143 (0, 0)) -> w2.heap[w.heap.size + 1]? = some (.cells (tgC fun _ => 0).toArray 143 (0, 0)) -> Wok g' -> (∀ j, j < 256 -> bit g' j = if (j : Int) = i then tag else bit g j) -> Ext [] w w2 -> J [] w2 := by
   intro g' w2 h1 h2 h3 h4 h5
   apply hJ
   intro _
   have l1 := lt_of_at h1
   have l2 := lt_of_at h2
   simp (disch := first | exact qD16 | fail) only [qG3, Nat.reduceAdd, Nat.reduceLeDiff, Int.reduceToNat, Int.reduceAdd, Int.reduceSub, Int.reduceLT, Int.reduceLE, Nat.reduceSub, Nat.reduceMul, Nat.reduceEqDiff, h1, h2, tgC_len, tgC_sub, tgC_all, tgC_over, tgC_over2]
   exact hK g' _ h3 h4 qX
  have hbit : ∀ v : Int, (∀ j, j < 64 -> v.toNat.testBit j = if j = (i % 64).toNat then tag else (g (i / 64).toNat).toNat.testBit j) -> ∀ j, j < 256 -> bit (wset g (i / 64).toNat v) j = if (j : Int) = i then tag else bit g j := by
   intro v hv j hj
   unfold bit wset
   by_cases h1 : j / 64 = (i / 64).toNat
   ·rw [if_pos h1, hv _ (by omega), h1]
    by_cases h2 : (j : Int) = i
    ·rw [if_pos (by omega), if_pos h2]
    ·rw [if_neg (by omega), if_neg h2]
   ·rw [if_neg h1, if_neg (by omega)]
  cases tag with
  | true =>
   have hor := or_u64 hgk (b := (p : Int)) (by omega)
   simp (disch := first | exact qD16 | fail) only [qG3, Nat.reduceAdd, Nat.reduceLeDiff, Int.reduceToNat, Int.reduceAdd, Int.reduceSub, Int.reduceLT, Int.reduceLE, Nat.reduceSub, Nat.reduceMul, Nat.reduceEqDiff, hq, tgC_get, tgC_set, tgC_len, hor]
   refine hrest (wset g (i / 64).toNat (((g (i / 64).toNat).toNat ||| p : Nat) : Int)) _ (by simp (disch := first | exact qD16 | fail) only [qG3, Nat.reduceAdd, Nat.reduceLeDiff, Int.reduceToNat, Int.reduceAdd, Int.reduceSub, Int.reduceLT, Int.reduceLE, Nat.reduceSub, Nat.reduceMul, Nat.reduceEqDiff, tgC_set]) (by simp (disch := first | exact qD16 | fail) only [qG3, Nat.reduceAdd, Nat.reduceLeDiff, Int.reduceToNat, Int.reduceAdd, Int.reduceSub, Int.reduceLT, Int.reduceLE, Nat.reduceSub, Nat.reduceMul, Nat.reduceEqDiff]; rfl) (hg.wset ⟨by omega, by have := or_lt (a := (g (i / 64).toNat).toNat) (b := p) (by omega) hpl; omega⟩) (hbit _ fun j hj => ?_) ?_
   ·simp only [Int.toNat_natCast, Nat.testBit_or, hp, Nat.testBit_two_pow]
    by_cases h : j = (i % 64).toNat
    ·subst h; simp
    ·rw [if_neg h]; simp [Ne.symm h]
   ·exact qX
  | false =>
   obtain ⟨r, hr, hr2, hr3⟩ := andNot_u64 (a := g (i / 64).toNat) (b := (p : Int)) (by omega) hgk
   simp (disch := first | exact qD16 | fail) only [qG3, Nat.reduceAdd, Nat.reduceLeDiff, Int.reduceToNat, Int.reduceAdd, Int.reduceSub, Int.reduceLT, Int.reduceLE, Nat.reduceSub, Nat.reduceMul, Nat.reduceEqDiff, hq, tgC_get, tgC_set, tgC_len, hr]
   refine hrest (wset g (i / 64).toNat (r : Int)) _ (by simp (disch := first | exact qD16 | fail) only [qG3, Nat.reduceAdd, Nat.reduceLeDiff, Int.reduceToNat, Int.reduceAdd, Int.reduceSub, Int.reduceLT, Int.reduceLE, Nat.reduceSub, Nat.reduceMul, Nat.reduceEqDiff, tgC_set]) (by simp (disch := first | exact qD16 | fail) only [qG3, Nat.reduceAdd, Nat.reduceLeDiff, Int.reduceToNat, Int.reduceAdd, Int.reduceSub, Int.reduceLT, Int.reduceLE, Nat.reduceSub, Nat.reduceMul, Nat.reduceEqDiff]; rfl) (hg.wset ⟨by omega, by omega⟩) (hbit _ fun j hj => ?_) ?_
   ·rw [Int.toNat_natCast, hr3 j hj]
    simp only [Int.toNat_natCast, hp, Nat.testBit_two_pow]
    by_cases h : j = (i % 64).toNat
    ·subst h; simp
    ·rw [if_neg h]; simp [Ne.symm h]
   ·exact qX
 ·rw [decide_eq_false hi]
  simp (disch := first | exact qD16 | fail) only [qG3, Nat.reduceAdd, Nat.reduceLeDiff, Int.reduceToNat, Int.reduceAdd, Int.reduceSub, Int.reduceLT, Int.reduceLE, Nat.reduceSub, Nat.reduceMul, Nat.reduceEqDiff, tgC_len, tgC_sub, tgC_all]
  refine hK g _ hg (fun j hj => ?_) ?_
  ·rw [if_neg (by omega)]
  ·exact qX
theorem Without_spec {w : World} {g h : Nat -> Int} (hg : Wok g) (hh : Wok h) {K : Value -> World -> Prop}
  (hK : ∀ g' w', Wok g' -> (∀ j, j < 256 -> bit g' j = (bit g j && !bit h j)) -> Ext [] w w' -> K (.agg (tgC g').toArray) w') : callsK Tryz.prog 58 #[.agg (tgC g).toArray, .agg (tgC h).toArray] w K := by
 apply F58_ok
 unfold F58
 simp (disch := first | exact qD16 | fail) only [qG3, Nat.reduceAdd, Nat.reduceLeDiff, Int.reduceToNat, Int.reduceAdd, Int.reduceSub, Int.reduceLT, Int.reduceLE, Nat.reduceSub, Nat.reduceMul, Nat.reduceEqDiff]
 refine loopT.intro (fun st w' => ∃ (k : Nat) (z : Int) (g' : Nat -> Int), k <= 4 /\ st = [.int .i64 z] /\ z = k /\ w'.heap[w.heap.size]? = some (.cells (tgC g').toArray 143 (0, 0)) /\ w'.heap[w.heap.size + 1]? = some (.cells (tgC h).toArray 143 (0, 0)) /\ w'.heap[w.heap.size + 1 + 1]? = some (.cells (tgC fun _ => 0).toArray 143 (0, 0)) /\ Wok g' /\ (∀ j, j < 256 -> bit g' j = if j / 64 < k then (bit g j && !bit h j) else bit g j) /\ Ext [] w w')
  (fun st _ => match st with
   | [.int _ z] => 4 - z.toNat
   | _ => 0) ⟨0, 0, g, by omega, rfl, rfl, by simp (disch := first | exact qD16 | fail) only [qG3, Nat.reduceAdd, Nat.reduceLeDiff, Int.reduceToNat, Int.reduceAdd, Int.reduceSub, Int.reduceLT, Int.reduceLE, Nat.reduceSub, Nat.reduceMul, Nat.reduceEqDiff], by simp (disch := first | exact qD16 | fail) only [qG3, Nat.reduceAdd, Nat.reduceLeDiff, Int.reduceToNat, Int.reduceAdd, Int.reduceSub, Int.reduceLT, Int.reduceLE, Nat.reduceSub, Nat.reduceMul, Nat.reduceEqDiff], by simp (disch := first | exact qD16 | fail) only [qG3, Nat.reduceAdd, Nat.reduceLeDiff, Int.reduceToNat, Int.reduceAdd, Int.reduceSub, Int.reduceLT, Int.reduceLE, Nat.reduceSub, Nat.reduceMul, Nat.reduceEqDiff]; rfl, hg, by simp, qX⟩ ?_
 rintro st w' ⟨k, z, g', hk, rfl, rfl, h1, h2, h3, hg', hb, hx⟩ _
 have l1 := lt_of_at h1
 have l2 := lt_of_at h2
 have l3 := lt_of_at h3
 by_cases h4 : k < 4
 ·obtain ⟨r, hr, hr2, hr3⟩ := andNot_u64 (a := g' k) (b := h k) (hh k) (hg' k)
  simp (disch := first | exact qD16 | fail) only [qG3, Nat.reduceAdd, Nat.reduceLeDiff, Int.reduceToNat, Int.reduceAdd, Int.reduceSub, Int.reduceLT, Int.reduceLE, Nat.reduceSub, Nat.reduceMul, Nat.reduceEqDiff, h1, h2, tgC_get, tgC_set, hr]
  refine ⟨⟨k + 1, _, wset g' k r, by omega, rfl, by omega, by simp (disch := first | exact qD16 | fail) only [qG3, Nat.reduceAdd, Nat.reduceLeDiff, Int.reduceToNat, Int.reduceAdd, Int.reduceSub, Int.reduceLT, Int.reduceLE, Nat.reduceSub, Nat.reduceMul, Nat.reduceEqDiff, h1, tgC_set], by simp (disch := first | exact qD16 | fail) only [qG3, Nat.reduceAdd, Nat.reduceLeDiff, Int.reduceToNat, Int.reduceAdd, Int.reduceSub, Int.reduceLT, Int.reduceLE, Nat.reduceSub, Nat.reduceMul, Nat.reduceEqDiff, h2], by simp (disch := first | exact qD16 | fail) only [qG3, Nat.reduceAdd, Nat.reduceLeDiff, Int.reduceToNat, Int.reduceAdd, Int.reduceSub, Int.reduceLT, Int.reduceLE, Nat.reduceSub, Nat.reduceMul, Nat.reduceEqDiff, h3], hg'.wset (by omega), fun j hj => ?_, qX⟩, by first | omega | (simp <;> omega)⟩
  by_cases hjk : j / 64 = k
  ·have e1 := hb j hj
   rw [if_neg (by omega)] at e1
   rw [if_pos (by omega)]
   unfold bit at e1 ⊢
   unfold wset
   rw [if_pos hjk, Int.toNat_natCast, hr3 _ (by omega), <- e1, hjk]
  ·have e1 := hb j hj
   have e2 : bit (wset g' k r) j = bit g' j := by
    unfold bit wset
    rw [if_neg hjk]
   rw [e2, e1]
   by_cases hjl : j / 64 < k
   ·rw [if_pos hjl, if_pos (by omega)]
   ·rw [if_neg hjl, if_neg (by omega)]
 ·obtain rfl : k = 4 := by omega
  simp (disch := first | exact qD16 | fail) only [qG3, Nat.reduceAdd, Nat.reduceLeDiff, Int.reduceToNat, Int.reduceAdd, Int.reduceSub, Int.reduceLT, Int.reduceLE, Nat.reduceSub, Nat.reduceMul, Nat.reduceEqDiff, h1, h3, tgC_sub, tgC_over, tgC_over2]
  refine hK g' _ hg' (fun j hj => ?_) qX
  rw [hb j hj, if_pos (by omega)]
theorem Cover_spec {w : World} {off n : Int} (ho : 0 <= off /\ off < 4096) (hn : 1 <= n /\ n < 9223372036854775808) {K : Value -> World -> Prop}
  (hK : ∀ g w', Wok g -> (∀ j, j < 256 -> bit g j = decide (off / 16 <= (j : Int) /\ (j : Int) <= (off + min n (4096 - off) - 1) / 16)) -> Ext [] w w' -> K (.agg (tgC g).toArray) w') : callsK Tryz.prog 59 #[.int .i64 off, .int .i64 n] w K := by
 apply F59_ok
 unfold F59
 simp (disch := first | exact qD16 | fail) only [qG3, Nat.reduceAdd, Nat.reduceLeDiff, Int.reduceToNat, Int.reduceAdd, Int.reduceSub, Int.reduceLT, Int.reduceLE, Nat.reduceSub, Nat.reduceMul, Nat.reduceEqDiff, joinBR]
 refine joinL.intro fun J hJ => ?_
 simp (disch := first | exact qD16 | fail) only [qG3, Nat.reduceAdd, Nat.reduceLeDiff, Int.reduceToNat, Int.reduceAdd, Int.reduceSub, Int.reduceLT, Int.reduceLE, Nat.reduceSub, Nat.reduceMul, Nat.reduceEqDiff]
 apply hJ
 intro _
 have hmin : min n (4096 - off) = min n (4096 - off) := rfl
 have hlast : 0 <= off + min n (4096 - off) - 1 /\ off + min n (4096 - off) - 1 < 4096 := by omega
 obtain ⟨last, hl⟩ : ∃ last, last = off + min n (4096 - off) - 1 := ⟨_, rfl⟩
 rw [<- hl] at hK hlast
 obtain ⟨m, hm⟩ : ∃ m, m = min n (4096 - off) := ⟨_, rfl⟩
 have hm2 : 1 <= m /\ m <= 4096 := by omega
 have hl2 : off + m - 1 = last := by omega
 simp (disch := first | exact qD16 | fail) only [qG3, Nat.reduceAdd, Nat.reduceLeDiff, Int.reduceToNat, Int.reduceAdd, Int.reduceSub, Int.reduceLT, Int.reduceLE, Nat.reduceSub, Nat.reduceMul, Nat.reduceEqDiff, mnR, <- hm, hl2]
 refine loopT.intro (fun st w' => ∃ (k : Nat) (z : Int) (g : Nat -> Int), k <= 256 /\ st = [.int .i64 z] /\ z = k /\ w'.heap[w.heap.size]? = some (.cells (tgC fun _ => 0).toArray 143 (0, 0)) /\ w'.heap[w.heap.size + 1]? = some (.cells (tgC g).toArray 143 (0, 0)) /\ Wok g /\ (∀ j, j < 256 -> bit g j = decide (j < k /\ off / 16 <= (j : Int) /\ (j : Int) <= last / 16)) /\ Ext [] w w')
  (fun st _ => match st with
   | [.int _ z] => 256 - z.toNat
   | _ => 0) ⟨0, 0, fun _ => 0, by omega, rfl, rfl, by simp (disch := first | exact qD16 | fail) only [qG3, Nat.reduceAdd, Nat.reduceLeDiff, Int.reduceToNat, Int.reduceAdd, Int.reduceSub, Int.reduceLT, Int.reduceLE, Nat.reduceSub, Nat.reduceMul, Nat.reduceEqDiff]; rfl, by simp (disch := first | exact qD16 | fail) only [qG3, Nat.reduceAdd, Nat.reduceLeDiff, Int.reduceToNat, Int.reduceAdd, Int.reduceSub, Int.reduceLT, Int.reduceLE, Nat.reduceSub, Nat.reduceMul, Nat.reduceEqDiff]; rfl, Wok.zero, by simp [bit_zero], qX⟩ ?_
 rintro st w' ⟨k, z, g, hk, rfl, rfl, h1, h2, hg, hb, hx⟩ _
 have l1 := lt_of_at h1
 have l2 := lt_of_at h2
 by_cases h4 : k < 256
 ·have hgo : ∀ tag : Bool, tag = decide (off / 16 <= (k : Int) /\ (k : Int) <= last / 16) -> ∀ g' (w2 : World), Wok g' -> (∀ j, j < 256 -> bit g' j = if (j : Int) = k then tag else bit g j) -> ∀ j, j < 256 -> bit g' j = decide (j < k + 1 /\ off / 16 <= (j : Int) /\ (j : Int) <= last / 16) := by
   intro tag ht g' w2 _ hb' j hj
   rw [hb' j hj]
   by_cases hjk : (j : Int) = k
   ·rw [if_pos hjk, ht]
    obtain rfl : j = k := by omega
    simp
   ·rw [if_neg hjk, hb j hj, Bool.eq_iff_iff]
    simp only [decide_eq_true_eq]
    omega
  by_cases c1 : off / 16 <= (k : Int)
  ·by_cases c2 : (k : Int) <= last / 16
   ·simp (disch := first | exact qD16 | fail) only [qG3, Nat.reduceAdd, Nat.reduceLeDiff, Int.reduceToNat, Int.reduceAdd, Int.reduceSub, Int.reduceLT, Int.reduceLE, Nat.reduceSub, Nat.reduceMul, Nat.reduceEqDiff, joinBR, h2, tgC_sub]
    refine With_spec hg fun g' w2 hg' hb' hx2 => ?_
    have e1 := hx2.at h1 (by simp)
    have e2 := hx2.at h2 (by simp)
    simp (disch := first | exact qD16 | fail) only [qG3, Nat.reduceAdd, Nat.reduceLeDiff, Int.reduceToNat, Int.reduceAdd, Int.reduceSub, Int.reduceLT, Int.reduceLE, Nat.reduceSub, Nat.reduceMul, Nat.reduceEqDiff, e2, tgC_over, tgC_over2]
    refine ⟨⟨k + 1, _, g', by omega, rfl, by omega, (by first | with_reducible rfl | assumption | (simp (disch := first | exact qD16 | fail) only [qG3, Nat.reduceAdd, Nat.reduceLeDiff, Int.reduceToNat, Int.reduceAdd, Int.reduceSub, Int.reduceLT, Int.reduceLE, Nat.reduceSub, Nat.reduceMul, Nat.reduceEqDiff, e1] <;> rfl)), (by first | with_reducible rfl | assumption | (simp (disch := first | exact qD16 | fail) only [qG3, Nat.reduceAdd, Nat.reduceLeDiff, Int.reduceToNat, Int.reduceAdd, Int.reduceSub, Int.reduceLT, Int.reduceLE, Nat.reduceSub, Nat.reduceMul, Nat.reduceEqDiff, e2] <;> rfl)), hg', hgo true (by simp [c1, c2]) g' w2 hg' hb', ?_⟩, by first | omega | (simp <;> omega)⟩
    have := hx.trans hx2 (by simp)
    exact qX
   ·simp (disch := first | exact qD16 | fail) only [qG3, Nat.reduceAdd, Nat.reduceLeDiff, Int.reduceToNat, Int.reduceAdd, Int.reduceSub, Int.reduceLT, Int.reduceLE, Nat.reduceSub, Nat.reduceMul, Nat.reduceEqDiff, joinBR, h2, tgC_sub]
    refine With_spec hg fun g' w2 hg' hb' hx2 => ?_
    have e1 := hx2.at h1 (by simp)
    have e2 := hx2.at h2 (by simp)
    simp (disch := first | exact qD16 | fail) only [qG3, Nat.reduceAdd, Nat.reduceLeDiff, Int.reduceToNat, Int.reduceAdd, Int.reduceSub, Int.reduceLT, Int.reduceLE, Nat.reduceSub, Nat.reduceMul, Nat.reduceEqDiff, e2, tgC_over, tgC_over2]
    refine ⟨⟨k + 1, _, g', by omega, rfl, by omega, (by first | with_reducible rfl | assumption | (simp (disch := first | exact qD16 | fail) only [qG3, Nat.reduceAdd, Nat.reduceLeDiff, Int.reduceToNat, Int.reduceAdd, Int.reduceSub, Int.reduceLT, Int.reduceLE, Nat.reduceSub, Nat.reduceMul, Nat.reduceEqDiff, e1] <;> rfl)), (by first | with_reducible rfl | assumption | (simp (disch := first | exact qD16 | fail) only [qG3, Nat.reduceAdd, Nat.reduceLeDiff, Int.reduceToNat, Int.reduceAdd, Int.reduceSub, Int.reduceLT, Int.reduceLE, Nat.reduceSub, Nat.reduceMul, Nat.reduceEqDiff, e2] <;> rfl)), hg', hgo false (by simp [c2]) g' w2 hg' hb', ?_⟩, by first | omega | (simp <;> omega)⟩
    have := hx.trans hx2 (by simp)
    exact qX
  ·simp (disch := first | exact qD16 | fail) only [qG3, Nat.reduceAdd, Nat.reduceLeDiff, Int.reduceToNat, Int.reduceAdd, Int.reduceSub, Int.reduceLT, Int.reduceLE, Nat.reduceSub, Nat.reduceMul, Nat.reduceEqDiff, joinBR, h2, tgC_sub]
   refine With_spec hg fun g' w2 hg' hb' hx2 => ?_
   have e1 := hx2.at h1 (by simp)
   have e2 := hx2.at h2 (by simp)
   simp (disch := first | exact qD16 | fail) only [qG3, Nat.reduceAdd, Nat.reduceLeDiff, Int.reduceToNat, Int.reduceAdd, Int.reduceSub, Int.reduceLT, Int.reduceLE, Nat.reduceSub, Nat.reduceMul, Nat.reduceEqDiff, e2, tgC_over, tgC_over2]
   refine ⟨⟨k + 1, _, g', by omega, rfl, by omega, (by first | with_reducible rfl | assumption | (simp (disch := first | exact qD16 | fail) only [qG3, Nat.reduceAdd, Nat.reduceLeDiff, Int.reduceToNat, Int.reduceAdd, Int.reduceSub, Int.reduceLT, Int.reduceLE, Nat.reduceSub, Nat.reduceMul, Nat.reduceEqDiff, e1] <;> rfl)), (by first | with_reducible rfl | assumption | (simp (disch := first | exact qD16 | fail) only [qG3, Nat.reduceAdd, Nat.reduceLeDiff, Int.reduceToNat, Int.reduceAdd, Int.reduceSub, Int.reduceLT, Int.reduceLE, Nat.reduceSub, Nat.reduceMul, Nat.reduceEqDiff, e2] <;> rfl)), hg', hgo false (by simp [c1]) g' w2 hg' hb', ?_⟩, by first | omega | (simp <;> omega)⟩
   have := hx.trans hx2 (by simp)
   exact qX
 ·obtain rfl : k = 256 := by omega
  simp (disch := first | exact qD16 | fail) only [qG3, Nat.reduceAdd, Nat.reduceLeDiff, Int.reduceToNat, Int.reduceAdd, Int.reduceSub, Int.reduceLT, Int.reduceLE, Nat.reduceSub, Nat.reduceMul, Nat.reduceEqDiff, h1, h2, tgC_sub, tgC_over, tgC_over2]
  refine hK g _ hg (fun j hj => ?_) qX
  rw [hb j hj, Bool.eq_iff_iff]
  simp only [decide_eq_true_eq]
  omega
end Go.Proofs.YtldkfbelnndaoaaGreatDoor
