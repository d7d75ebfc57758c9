/- Capabilities as bytes, stored and loaded with their tags; conditions: those of each theorem. -/
import Derived.Test.YtplfniijbeinmaaGreatRam
namespace Go.Proofs.YtplfniijbeinmaaGreat
open Go.Fx
set_option maxRecDepth 100000
set_option linter.unusedSimpArgs false
set_option linter.unusedVariables false
/-- an array of bytes. -/
def arC (n : Nat) (f : Nat → Int) : List Value := (List.range n).map fun j => .int .u8 (f j)
theorem arC_len (n : Nat) (f : Nat → Int) : (arC n f).length = n := by simp [arC]
theorem arC_all (n : Nat) (f : Nat → Int) : (arC n f).all (fun v => v.oneCell') = true := by
  rw [List.all_eq_true]
  intro x hx
  obtain ⟨j, -, rfl⟩ := List.mem_map.1 hx
  rfl
theorem arC_get {n : Nat} {f : Nat → Int} {j : Nat} (h : j < n) : (arC n f)[j]? = some (.int .u8 (f j)) := by simp [arC, h]
theorem arC_set {n : Nat} {f : Nat → Int} {j : Nat} {v : Int} (h : j < n) : (arC n f).set j (.int .u8 v) = arC n (wset f j v) := by
  apply List.ext_getElem?
  intro i
  rw [List.getElem?_set]
  by_cases hi : i < n
  · rw [arC_get hi, arC_get hi, arC_len]
    unfold wset
    by_cases hij : j = i
    · rw [if_pos hij, if_pos h, if_pos hij.symm]
    · rw [if_neg hij, if_neg (Ne.symm hij)]
  · rw [if_neg (by omega), List.getElem?_eq_none (by rw [arC_len]; omega), List.getElem?_eq_none (by rw [arC_len]; omega)]
theorem arC_sub (n : Nat) (f : Nat → Int) : sub (arC n f) 0 n = arC n f := by
  unfold sub
  rw [List.drop_zero, List.take_of_length_le (by rw [arC_len]; exact Nat.le_refl _)]
theorem arC_over (n : Nat) (f g : Nat → Int) : splice (arC n f) 0 (arC n g) = arC n g := by
  unfold splice
  rw [List.take_zero, arC_len, List.nil_append, List.drop_eq_nil_of_le (by rw [arC_len]; omega), List.append_nil]
theorem arC_tail (n : Nat) (f g : Nat → Int) : arC n f ++ List.drop n (arC n g) = arC n f := by
  rw [List.drop_eq_nil_of_le (by rw [arC_len]; exact Nat.le_refl _), List.append_nil]
theorem arC_congr {n : Nat} {f g : Nat → Int} (h : ∀ j, j < n → f j = g j) : arC n f = arC n g := by
  unfold arC
  apply List.map_congr_left
  intro j hj
  rw [h j (List.mem_range.1 hj)]
/-- a number's byte. -/
def byteOf (v : Int) (i : Nat) : Int := ((v.toNat / 2 ^ (8 * i) % 256 : Nat) : Int)
theorem byteOf_range (v : Int) (i : Nat) : 0 ≤ byteOf v i ∧ byteOf v i < 256 := by
  unfold byteOf
  have := Nat.mod_lt (v.toNat / 2 ^ (8 * i)) (show 0 < 256 by omega)
  omega
/-- a capability's bytes: its address, then the rest. -/
def capBy (mt ad : Int) (j : Nat) : Int := if j < 8 then byteOf ad j else byteOf mt (j - 8)
def capC (t : Bool) (mt ad : Int) : List Value := [.bool t, .int .u64 mt, .int .u64 ad]
theorem capC_len (t : Bool) (mt ad : Int) : (capC t mt ad).length = 3 := by simp [capC]
theorem capC_all (t : Bool) (mt ad : Int) : (capC t mt ad).all (fun v => v.oneCell') = true := by simp [capC]; exact ⟨rfl, rfl, rfl⟩
def U64 (v : Int) : Prop := 0 ≤ v ∧ v < 18446744073709551616
theorem arZ : [Value.int .u8 0, .int .u8 0, .int .u8 0, .int .u8 0, .int .u8 0, .int .u8 0, .int .u8 0, .int .u8 0, .int .u8 0, .int .u8 0, .int .u8 0, .int .u8 0, .int .u8 0, .int .u8 0, .int .u8 0, .int .u8 0] = arC 16 fun _ => 0 := rfl
theorem capBytes_spec {w : World} {t : Bool} {mt ad : Int} (hm : U64 mt) (ha : U64 ad) {K : Value → World → Prop} (hK : ∀ w', Ext [] w w' → K (.agg (arC 16 (capBy mt ad)).toArray) w') : callsK Tryz.prog 60 #[.agg (capC t mt ad).toArray] w K := by
  have hz : [Value.int .u8 0, .int .u8 0, .int .u8 0, .int .u8 0, .int .u8 0, .int .u8 0, .int .u8 0, .int .u8 0, .int .u8 0, .int .u8 0, .int .u8 0, .int .u8 0, .int .u8 0, .int .u8 0, .int .u8 0, .int .u8 0] = arC 16 fun _ => 0 := by rfl
  apply F60_ok
  unfold F60
  simp (disch := first | assumption | omega | (simp only [szR, tgC_len, tgC_all, arC_len, arC_all, capC_len, capC_all] <;> omega) | rfl | decide) only [gen0, gen1, gen2, rulesM, litR, bolR, Nat.reduceAdd, Nat.reduceLeDiff, numR, memR, valR, heapR, updR, intR, decR, extR, slR, segR, thenR, pnR, Int.reduceToNat, Int.reduceAdd, Int.reduceSub, Int.reduceLT, Int.reduceLE, Nat.reduceSub, Nat.reduceMul, Nat.reduceEqDiff, hz]
  refine loopT.intro (fun st w' => ∃ (k : Nat) (z : Int), k ≤ 8 ∧ st = [.int .i64 z] ∧ z = k ∧ w'.heap[w.heap.size]? = some (.cells (capC t mt ad).toArray 24 (0, 0)) ∧ w'.heap[w.heap.size + 1]? = some (.cells (arC 16 fun _ => 0).toArray 152 (0, 0)) ∧ w'.heap[w.heap.size + 1 + 1]? = some (.cells (arC 16 fun j => if j < k ∨ (8 ≤ j ∧ j < 8 + k) then capBy mt ad j else 0).toArray 152 (0, 0)) ∧ Ext [] w w')
    (fun st _ => match st with
      | [.int _ z] => 8 - z.toNat
      | _ => 0) ⟨0, 0, by omega, rfl, rfl, by simp (disch := first | assumption | omega | (simp only [szR, tgC_len, tgC_all, arC_len, arC_all, capC_len, capC_all] <;> omega) | rfl | decide) only [gen0, gen1, gen2, rulesM, litR, bolR, Nat.reduceAdd, Nat.reduceLeDiff, numR, memR, valR, heapR, updR, intR, decR, extR, slR, segR, thenR, pnR, Int.reduceToNat, Int.reduceAdd, Int.reduceSub, Int.reduceLT, Int.reduceLE, Nat.reduceSub, Nat.reduceMul, Nat.reduceEqDiff], by simp (disch := first | assumption | omega | (simp only [szR, tgC_len, tgC_all, arC_len, arC_all, capC_len, capC_all] <;> omega) | rfl | decide) only [gen0, gen1, gen2, rulesM, litR, bolR, Nat.reduceAdd, Nat.reduceLeDiff, numR, memR, valR, heapR, updR, intR, decR, extR, slR, segR, thenR, pnR, Int.reduceToNat, Int.reduceAdd, Int.reduceSub, Int.reduceLT, Int.reduceLE, Nat.reduceSub, Nat.reduceMul, Nat.reduceEqDiff], ?_, by (repeat first | assumption | exact Ext.refl | apply Ext.alloc | apply Ext.drew | (refine Ext.updN ?_ ?_; (focus first | omega | (simp only [szR] <;> omega))) | (refine Ext.updI ?_ ?_; (focus (simp; done))))⟩ ?_
  · simp (disch := first | assumption | omega | (simp only [szR, tgC_len, tgC_all, arC_len, arC_all, capC_len, capC_all] <;> omega) | rfl | decide) only [gen0, gen1, gen2, rulesM, litR, bolR, Nat.reduceAdd, Nat.reduceLeDiff, numR, memR, valR, heapR, updR, intR, decR, extR, slR, segR, thenR, pnR, Int.reduceToNat, Int.reduceAdd, Int.reduceSub, Int.reduceLT, Int.reduceLE, Nat.reduceSub, Nat.reduceMul, Nat.reduceEqDiff]
    all_goals first | done | (congr 3; done) | (congr 3; exact arC_congr fun j _ => by rw [if_neg (by omega)])
  rintro st w' ⟨k, z, hk, rfl, rfl, h1, h2, h3, hx⟩ _
  have l1 := lt_of_at h1
  have l2 := lt_of_at h2
  have l3 := lt_of_at h3
  by_cases h8 : k < 8
  · have he : (8 * (k : Int)).toNat = 8 * k := by omega
    have hfa := fdiv_pow ha.1 (8 * k)
    have hfm := fdiv_pow hm.1 (8 * k)
    have hwa := wrapU8 ((ad.toNat / 2 ^ (8 * k) : Nat) : Int)
    have hwm := wrapU8 ((mt.toNat / 2 ^ (8 * k) : Nat) : Int)
    have ea : ((ad.toNat / 2 ^ (8 * k) : Nat) : Int) % 256 = byteOf ad k := by unfold byteOf; simp
    have em : ((mt.toNat / 2 ^ (8 * k) : Nat) : Int) % 256 = byteOf mt k := by unfold byteOf; simp
    rw [ea] at hwa
    rw [em] at hwm
    have e8 : (8 + (k : Int)).toNat = 8 + k := by omega
    generalize ad.toNat / 2 ^ (8 * k) = qa at hfa hwa
    generalize mt.toNat / 2 ^ (8 * k) = qm at hfm hwm
    simp only [capC] at h1
    simp (disch := first | assumption | omega | (simp only [szR, tgC_len, tgC_all, arC_len, arC_all, capC_len, capC_all] <;> omega) | rfl | decide) only [gen0, gen1, gen2, rulesM, litR, bolR, Nat.reduceAdd, Nat.reduceLeDiff, numR, memR, valR, heapR, updR, intR, decR, extR, slR, segR, thenR, pnR, Int.reduceToNat, Int.reduceAdd, Int.reduceSub, Int.reduceLT, Int.reduceLE, Nat.reduceSub, Nat.reduceMul, Nat.reduceEqDiff]
    refine joinL.intro fun J hJ => ?_
    have hrest : ∀ w2, w2.heap[w.heap.size]? = some (.cells (capC t mt ad).toArray 24 (0, 0)) → w2.heap[w.heap.size + 1]? = some (.cells (arC 16 fun _ => 0).toArray 152 (0, 0)) → w2.heap[w.heap.size + 1 + 1]? = some (.cells (arC 16 (wset (wset (fun j => if j < k ∨ (8 ≤ j ∧ j < 8 + k) then capBy mt ad j else 0) k (byteOf ad k)) (8 + k) (byteOf mt k))).toArray 152 (0, 0)) → Ext [] w w2 → J [] w2 := by
      intro w2 g1 g2 g3 g4
      apply hJ
      intro _
      simp (disch := first | assumption | omega | (simp only [szR, tgC_len, tgC_all, arC_len, arC_all, capC_len, capC_all] <;> omega) | rfl | decide) only [gen0, gen1, gen2, rulesM, litR, bolR, Nat.reduceAdd, Nat.reduceLeDiff, numR, memR, valR, heapR, updR, intR, decR, extR, slR, segR, thenR, pnR, Int.reduceToNat, Int.reduceAdd, Int.reduceSub, Int.reduceLT, Int.reduceLE, Nat.reduceSub, Nat.reduceMul, Nat.reduceEqDiff]
      refine ⟨⟨k + 1, (k : Int) + 1, by omega, rfl, by omega, g1, g2, ?_, g4⟩, by first | omega | (simp <;> omega)⟩
      rw [g3]
      congr 3
      refine arC_congr fun j hj => ?_
      unfold wset
      by_cases c1 : j = 8 + k
      · rw [if_pos c1, if_pos (by omega)]
        unfold capBy
        rw [if_neg (by omega), show j - 8 = k by omega]
      · rw [if_neg c1]
        by_cases c2 : j = k
        · rw [if_pos c2, if_pos (by omega)]
          unfold capBy
          rw [if_pos (by omega), c2]
        · rw [if_neg c2]
          show (if j < k ∨ (8 ≤ j ∧ j < 8 + k) then capBy mt ad j else 0) = _
          by_cases c3 : j < k ∨ (8 ≤ j ∧ j < 8 + k)
          · rw [if_pos c3, if_pos (by omega)]
          · rw [if_neg c3, if_neg (by omega)]
    simp (disch := first | assumption | omega | (simp only [szR, tgC_len, tgC_all, arC_len, arC_all, capC_len, capC_all] <;> omega) | rfl | decide) only [gen0, gen1, gen2, rulesM, litR, bolR, Nat.reduceAdd, Nat.reduceLeDiff, numR, memR, valR, heapR, updR, intR, decR, extR, slR, segR, thenR, pnR, Int.reduceToNat, Int.reduceAdd, Int.reduceSub, Int.reduceLT, Int.reduceLE, Nat.reduceSub, Nat.reduceMul, Nat.reduceEqDiff, h1, h3, he, hfa, hfm, hwa, hwm, e8, arC_set, and_self]
    refine hrest _ (by first | with_reducible rfl | assumption | (simp (disch := first | assumption | omega | (simp only [szR, tgC_len, tgC_all, arC_len, arC_all, capC_len, capC_all] <;> omega) | rfl | decide) only [gen0, gen1, gen2, rulesM, litR, bolR, Nat.reduceAdd, Nat.reduceLeDiff, numR, memR, valR, heapR, updR, intR, decR, extR, slR, segR, thenR, pnR, Int.reduceToNat, Int.reduceAdd, Int.reduceSub, Int.reduceLT, Int.reduceLE, Nat.reduceSub, Nat.reduceMul, Nat.reduceEqDiff, h1] <;> rfl)) (by first | with_reducible rfl | assumption | (simp (disch := first | assumption | omega | (simp only [szR, tgC_len, tgC_all, arC_len, arC_all, capC_len, capC_all] <;> omega) | rfl | decide) only [gen0, gen1, gen2, rulesM, litR, bolR, Nat.reduceAdd, Nat.reduceLeDiff, numR, memR, valR, heapR, updR, intR, decR, extR, slR, segR, thenR, pnR, Int.reduceToNat, Int.reduceAdd, Int.reduceSub, Int.reduceLT, Int.reduceLE, Nat.reduceSub, Nat.reduceMul, Nat.reduceEqDiff, h2] <;> rfl)) (by first | with_reducible rfl | assumption | (simp (disch := first | assumption | omega | (simp only [szR, tgC_len, tgC_all, arC_len, arC_all, capC_len, capC_all] <;> omega) | rfl | decide) only [gen0, gen1, gen2, rulesM, litR, bolR, Nat.reduceAdd, Nat.reduceLeDiff, numR, memR, valR, heapR, updR, intR, decR, extR, slR, segR, thenR, pnR, Int.reduceToNat, Int.reduceAdd, Int.reduceSub, Int.reduceLT, Int.reduceLE, Nat.reduceSub, Nat.reduceMul, Nat.reduceEqDiff, h3, arC_set] <;> rfl)) (by (repeat first | assumption | exact Ext.refl | apply Ext.alloc | apply Ext.drew | (refine Ext.updN ?_ ?_; (focus first | omega | (simp only [szR] <;> omega))) | (refine Ext.updI ?_ ?_; (focus (simp; done)))))
  · obtain rfl : k = 8 := by omega
    simp (disch := first | assumption | omega | (simp only [szR, tgC_len, tgC_all, arC_len, arC_all, capC_len, capC_all] <;> omega) | rfl | decide) only [gen0, gen1, gen2, rulesM, litR, bolR, Nat.reduceAdd, Nat.reduceLeDiff, numR, memR, valR, heapR, updR, intR, decR, extR, slR, segR, thenR, pnR, Int.reduceToNat, Int.reduceAdd, Int.reduceSub, Int.reduceLT, Int.reduceLE, Nat.reduceSub, Nat.reduceMul, Nat.reduceEqDiff, h2, h3, arC_sub, arC_over]
    have := hK (World.upd w' (w.heap.size + 1) (arC 16 fun j => if j < 8 ∨ (8 ≤ j ∧ j < 8 + 8) then capBy mt ad j else 0)) (by (repeat first | assumption | exact Ext.refl | apply Ext.alloc | apply Ext.drew | (refine Ext.updN ?_ ?_; (focus first | omega | (simp only [szR] <;> omega))) | (refine Ext.updI ?_ ?_; (focus (simp; done)))))
    have e : (arC 16 fun j => if j < 8 ∨ (8 ≤ j ∧ j < 8 + 8) then capBy mt ad j else 0) = arC 16 (capBy mt ad) := arC_congr fun j hj => by rw [if_pos (by omega)]
    simp only [e] at this ⊢
    exact this
/-- bytes as a number. -/
theorem leN_shift (m : Nat → Int) (a : Nat) : ∀ k, leN (fun j => m (a + j)) 0 k = leN m a k
  | 0 => rfl
  | k + 1 => by
    unfold leN
    rw [leN_shift m a k, Nat.zero_add]
theorem leN_congr {m m' : Nat → Int} {a : Nat} : ∀ {k : Nat}, (∀ j, j < k → m (a + j) = m' (a + j)) → leN m a k = leN m' a k
  | 0, _ => rfl
  | k + 1, h => by
    unfold leN
    rw [leN_congr fun j hj => h j (by omega), h k (by omega)]
theorem leN_byteOf (v : Int) : ∀ k, leN (byteOf v) 0 k = v.toNat % 2 ^ (8 * k)
  | 0 => by simp [leN, Nat.mod_one]
  | k + 1 => by
    unfold leN
    rw [leN_byteOf v k, Nat.zero_add]
    unfold byteOf
    rw [Int.toNat_natCast, show (2 : Nat) ^ (8 * (k + 1)) = 2 ^ (8 * k) * 256 by rw [show 8 * (k + 1) = 8 * k + 8 by omega, Nat.pow_add], Nat.mod_mul]
    congr 1
    exact Nat.mul_comm _ _
theorem capnumber_spec {w : World} {b o n c : Nat} {f : Nat → Int} {L : List Value} {E : TypeId} {F : Nat × Nat} (hb : w.heap[b]? = some (.cells L.toArray E F)) (hL : ∀ j, j < n → L[o + j]? = some (.int .u8 (f j))) (hf : Byte f) (hn : n ≤ 8) {K : Value → World → Prop}
    (hK : ∀ w', Ext [] w w' → K (.int .u64 (leN f 0 n : Nat)) w') : callsK Tryz.prog 152 #[.slice (some ⟨b, o, none⟩) n c] w K := by
  apply F152_ok
  unfold F152
  simp (disch := first | assumption | omega | (simp only [szR, tgC_len, tgC_all, arC_len, arC_all, capC_len, capC_all] <;> omega) | rfl | decide) only [gen0, gen1, gen2, rulesM, litR, bolR, Nat.reduceAdd, Nat.reduceLeDiff, numR, memR, valR, heapR, updR, intR, decR, extR, slR, segR, thenR, pnR, Int.reduceToNat, Int.reduceAdd, Int.reduceSub, Int.reduceLT, Int.reduceLE, Nat.reduceSub, Nat.reduceMul, Nat.reduceEqDiff]
  refine loopT.intro (fun st w' => ∃ (k : Nat) (z : Int), k ≤ n ∧ st = [.int .u64 (leN f 0 k : Nat), .int .i64 z] ∧ z = k ∧ Ext [] w w')
    (fun st _ => match st with
      | [_, .int _ z] => n - z.toNat
      | _ => 0) ⟨0, 0, by omega, rfl, rfl, Ext.refl⟩ ?_
  rintro st w' ⟨k, z, hk, rfl, rfl, hx⟩ _
  by_cases hkn : k < n
  · have hb' := hx.at hb (by simp)
    have hg := hL k hkn
    have hby := hf k
    have he : (8 * (k : Int)).toNat = 8 * k := by omega
    have hle := leN_lt hf 0 k
    have hle2 := leN_lt hf 0 (k + 1)
    have hor := leN_or hf 0 k
    have hpw : (2 : Nat) ^ (8 * (k + 1)) ≤ 18446744073709551616 := Nat.le_trans (Nat.pow_le_pow_right (show 0 < 2 by omega) (show 8 * (k + 1) ≤ 64 by omega)) (by decide)
    have hlb : leN f 0 (k + 1) = leN f 0 k + (f (0 + k)).toNat * 2 ^ (8 * k) := rfl
    rw [Nat.zero_add] at hor hlb
    have hgo : ∀ y : Nat, y = leN f 0 (k + 1) → (∃ (k' : Nat) (z : Int), k' ≤ n ∧ [Value.int .u64 y, .int .i64 ((k : Int) + 1)] = [.int .u64 (leN f 0 k' : Nat), .int .i64 z] ∧ z = k' ∧ Ext [] w w') := by
      rintro y rfl
      exact ⟨k + 1, (k : Int) + 1, by omega, rfl, by omega, hx⟩
    generalize leN f 0 (k + 1) = y at hle2 hor hlb hgo
    generalize leN f 0 k = x at hle hor hlb
    generalize f k = b0 at hg hby hor hlb
    obtain ⟨z, hz⟩ : ∃ z, z = b0.toNat * 2 ^ (8 * k) := ⟨_, rfl⟩
    have hsh : IntKind.u64.wrap (b0 * 2 ^ (8 * k)) = (z : Int) := by
      have e : b0 * 2 ^ (8 * k) = (z : Int) := by
        rw [hz]
        have : b0 = (b0.toNat : Int) := by omega
        rw [this]
        simp
      rw [e]
      exact wrap_u64 (by omega)
    rw [← hz] at hor hlb
    have hor2 := or_u64 (a := (x : Int)) (b := (z : Int)) (by omega) (by omega)
    simp only [Int.toNat_natCast, hor] at hor2
    have hidx : (k : Int).toNat * 1 = k := by omega
    simp (disch := first | assumption | omega | (simp only [szR, tgC_len, tgC_all, arC_len, arC_all, capC_len, capC_all] <;> omega) | rfl | decide) only [gen0, gen1, gen2, rulesM, litR, bolR, Nat.reduceAdd, Nat.reduceLeDiff, numR, memR, valR, heapR, updR, intR, decR, extR, slR, segR, thenR, pnR, Int.reduceToNat, Int.reduceAdd, Int.reduceSub, Int.reduceLT, Int.reduceLE, Nat.reduceSub, Nat.reduceMul, Nat.reduceEqDiff, hb', hg, he, hsh, hor2]
    exact ⟨hgo y rfl, by first | omega | (simp <;> omega)⟩
  · obtain rfl : k = n := by omega
    simp (disch := first | assumption | omega | (simp only [szR, tgC_len, tgC_all, arC_len, arC_all, capC_len, capC_all] <;> omega) | rfl | decide) only [gen0, gen1, gen2, rulesM, litR, bolR, Nat.reduceAdd, Nat.reduceLeDiff, numR, memR, valR, heapR, updR, intR, decR, extR, slR, segR, thenR, pnR, Int.reduceToNat, Int.reduceAdd, Int.reduceSub, Int.reduceLT, Int.reduceLE, Nat.reduceSub, Nat.reduceMul, Nat.reduceEqDiff]
    exact hK _ hx
theorem capOf_spec {w : World} {f : Nat → Int} {t : Bool} (hf : Byte f) {K : Value → World → Prop} (hK : ∀ w', Ext [] w w' → K (.agg (capC t (leN (fun j => f (8 + j)) 0 8 : Nat) (leN f 0 8 : Nat)).toArray) w') :
    callsK Tryz.prog 150 #[.agg (arC 16 f).toArray, .bool t] w K := by
  apply F150_ok
  unfold F150
  simp (disch := first | assumption | omega | (simp only [szR, tgC_len, tgC_all, arC_len, arC_all, capC_len, capC_all] <;> omega) | rfl | decide) only [gen0, gen1, gen2, rulesM, litR, bolR, Nat.reduceAdd, Nat.reduceLeDiff, numR, memR, valR, heapR, updR, intR, decR, extR, slR, segR, thenR, pnR, Int.reduceToNat, Int.reduceAdd, Int.reduceSub, Int.reduceLT, Int.reduceLE, Nat.reduceSub, Nat.reduceMul, Nat.reduceEqDiff]
  have hb : ((w.alloc (.cells (arC 16 f).toArray 152)).alloc (.cells [.bool false, .int .u64 0, .int .u64 0].toArray 24)).drew.heap[w.heap.size]? = some (.cells (arC 16 f).toArray 152 (0, 0)) := by simp (disch := first | assumption | omega | (simp only [szR, tgC_len, tgC_all, arC_len, arC_all, capC_len, capC_all] <;> omega) | rfl | decide) only [gen0, gen1, gen2, rulesM, litR, bolR, Nat.reduceAdd, Nat.reduceLeDiff, numR, memR, valR, heapR, updR, intR, decR, extR, slR, segR, thenR, pnR, Int.reduceToNat, Int.reduceAdd, Int.reduceSub, Int.reduceLT, Int.reduceLE, Nat.reduceSub, Nat.reduceMul, Nat.reduceEqDiff]
  refine capnumber_spec (f := fun j => f (8 + j)) hb (fun j hj => by rw [show 8 * 1 + j = 8 + j by omega]; exact arC_get (by omega)) (fun j => hf _) (by omega) fun w1 hx1 => ?_
  simp (disch := first | assumption | omega | (simp only [szR, tgC_len, tgC_all, arC_len, arC_all, capC_len, capC_all] <;> omega) | rfl | decide) only [gen0, gen1, gen2, rulesM, litR, bolR, Nat.reduceAdd, Nat.reduceLeDiff, numR, memR, valR, heapR, updR, intR, decR, extR, slR, segR, thenR, pnR, Int.reduceToNat, Int.reduceAdd, Int.reduceSub, Int.reduceLT, Int.reduceLE, Nat.reduceSub, Nat.reduceMul, Nat.reduceEqDiff]
  refine capnumber_spec (f := f) (hx1.at hb (by simp)) (fun j hj => by rw [Nat.zero_add]; exact arC_get (by omega)) hf (by omega) fun w2 hx2 => ?_
  have hc : w2.heap[w.heap.size + 1]? = some (.cells [.bool false, .int .u64 0, .int .u64 0].toArray 24 (0, 0)) := hx2.at (hx1.at (by simp (disch := first | assumption | omega | (simp only [szR, tgC_len, tgC_all, arC_len, arC_all, capC_len, capC_all] <;> omega) | rfl | decide) only [gen0, gen1, gen2, rulesM, litR, bolR, Nat.reduceAdd, Nat.reduceLeDiff, numR, memR, valR, heapR, updR, intR, decR, extR, slR, segR, thenR, pnR, Int.reduceToNat, Int.reduceAdd, Int.reduceSub, Int.reduceLT, Int.reduceLE, Nat.reduceSub, Nat.reduceMul, Nat.reduceEqDiff]) (by simp)) (by simp)
  have l2 := lt_of_at hc
  have hx : Ext [] w w2 := ((((Ext.refl (w := w) (S := [])).alloc _ _).alloc _ _).drew.trans hx1 (by simp)).trans hx2 (by simp)
  simp (disch := first | assumption | omega | (simp only [szR, tgC_len, tgC_all, arC_len, arC_all, capC_len, capC_all] <;> omega) | rfl | decide) only [gen0, gen1, gen2, rulesM, litR, bolR, Nat.reduceAdd, Nat.reduceLeDiff, numR, memR, valR, heapR, updR, intR, decR, extR, slR, segR, thenR, pnR, Int.reduceToNat, Int.reduceAdd, Int.reduceSub, Int.reduceLT, Int.reduceLE, Nat.reduceSub, Nat.reduceMul, Nat.reduceEqDiff, hc]
  exact hK _ (by (repeat first | assumption | exact Ext.refl | apply Ext.alloc | apply Ext.drew | (refine Ext.updN ?_ ?_; (focus first | omega | (simp only [szR] <;> omega))) | (refine Ext.updI ?_ ?_; (focus (simp; done)))))
/-! ### in memory -/
def laid (m : Nat → Int) (a n : Nat) (f : Nat → Int) : Nat → Int := fun x => if a ≤ x ∧ x < a + n then f (x - a) else m x
theorem Byte.laid {m f : Nat → Int} (h : Byte m) (hf : Byte f) (a n : Nat) : Byte (laid m a n f) := by
  intro x
  unfold YtplfniijbeinmaaGreat.laid
  split
  · exact hf _
  · exact h x
theorem capBy_byte (mt ad : Int) : Byte (capBy mt ad) := by
  intro j
  unfold capBy
  split
  · exact byteOf_range _ _
  · exact byteOf_range _ _
theorem Cells.sub16 {L : List Value} {n : Nat} {m g : Nat → Int} (h : Cells L n m g) {p o : Nat} (hp : p < n) (ho : o + 16 ≤ 4096) : Go.Fx.sub L (p * 4100 + o) 16 = arC 16 (fun j => m (p * 4096 + o + j)) := by
  apply List.ext_getElem?
  intro i
  unfold Go.Fx.sub
  by_cases hi : i < 16
  · rw [List.getElem?_take_of_lt hi, List.getElem?_drop, show p * 4100 + o + i = p * 4100 + (o + i) by omega, h.byte p (o + i) hp (by omega), arC_get hi, show p * 4096 + (o + i) = p * 4096 + o + i by omega]
  · rw [List.getElem?_eq_none (by simp; omega), List.getElem?_eq_none (by rw [arC_len]; omega)]
theorem Cells.lay16 {L : List Value} {n : Nat} {m g : Nat → Int} (h : Cells L n m g) {p o : Nat} {f : Nat → Int} (hp : p < n) (ho : o + 16 ≤ 4096) : Cells (splice L (p * 4100 + o) (arC 16 f)) n (laid m (p * 4096 + o) 16 f) g := by
  have hl := h.len
  have ht : (arC 16 f).length = 16 := arC_len 16 f
  refine ⟨by rw [splice_length (by omega), h.len], fun p' i' hp' hi' => ?_, fun p' j hp' hj => ?_⟩
  · rw [splice_get (by omega)]
    unfold laid
    by_cases h1 : p' * 4100 + i' < p * 4100 + o
    · rw [if_pos h1, if_neg (by omega), h.byte p' i' hp' hi']
    · rw [if_neg h1]
      by_cases h2 : p' * 4100 + i' < p * 4100 + o + (arC 16 f).length
      · rw [if_pos h2, if_pos (by omega), arC_get (by omega), show p' * 4096 + i' - (p * 4096 + o) = p' * 4100 + i' - (p * 4100 + o) by omega]
      · rw [if_neg h2, if_neg (by omega), h.byte p' i' hp' hi']
  · rw [splice_get (by omega), ← h.word p' j hp' hj]
    by_cases h1 : p' * 4100 + 4096 + j < p * 4100 + o
    · rw [if_pos h1]
    · rw [if_neg h1, if_neg (by omega)]
set_option maxHeartbeats 4000000 in
theorem StoreCap_spec {w : World} {r q n a : Nat} {t : Bool} {mt ad : Int} {m g : Nat → Int} (h : Mem w r q n m g) (hn : 0 < n ∧ n ≤ 1000) (ha : a < n * 4096) (hal : a % 16 = 0) (hm : U64 mt) (hd : U64 ad) {K : Value → World → Prop}
    (hK : ∀ g' w', Mem w' r q n (laid m a 16 (capBy mt ad)) g' → (∀ x, x < n * 256 → bit g' x = if x = a / 16 then t else bit g x) → Ext [q] w w' → K (.int .i64 0) w') :
    callsK Tryz.prog 25 #[.pointer (some ⟨r, 0, none⟩), .int .u64 a, .agg (capC t mt ad).toArray] w K := by
  have hq := h.lt
  have hne := h.ne
  apply F25_ok
  unfold F25
  simp (disch := first | assumption | omega | (simp only [szR, tgC_len, tgC_all, arC_len, arC_all, capC_len, capC_all] <;> omega) | rfl | decide) only [gen0, gen1, gen2, rulesM, litR, bolR, Nat.reduceAdd, Nat.reduceLeDiff, numR, memR, valR, heapR, updR, intR, decR, extR, slR, segR, thenR, pnR, Int.reduceToNat, Int.reduceAdd, Int.reduceSub, Int.reduceLT, Int.reduceLE, Nat.reduceSub, Nat.reduceMul, Nat.reduceEqDiff]
  have hx1 : Ext [] w (w.alloc (.cells (capC t mt ad).toArray 24)) := by (repeat first | assumption | exact Ext.refl | apply Ext.alloc | apply Ext.drew | (refine Ext.updN ?_ ?_; (focus first | omega | (simp only [szR] <;> omega))) | (refine Ext.updI ?_ ?_; (focus (simp; done))))
  refine place_spec (h.ext hx1 (by simp) (by simp)) hn (by omega) (by omega) (fun c1 c2 => ?_) (fun c => absurd ⟨by omega, by omega⟩ c)
  have e1 : ((a : Int) / 4096).toNat = a / 4096 := by omega
  have e2 : (a : Int) % 4096 = ((a % 4096 : Nat) : Int) := by omega
  have hsub3 : sub (capC t mt ad) 0 3 = capC t mt ad := by simp [capC, sub]
  rw [e1, e2]
  simp (disch := first | assumption | omega | (simp only [szR, tgC_len, tgC_all, arC_len, arC_all, capC_len, capC_all] <;> omega) | rfl | decide) only [gen0, gen1, gen2, rulesM, litR, bolR, Nat.reduceAdd, Nat.reduceLeDiff, numR, memR, valR, heapR, updR, intR, decR, extR, slR, segR, thenR, pnR, Int.reduceToNat, Int.reduceAdd, Int.reduceSub, Int.reduceLT, Int.reduceLE, Nat.reduceSub, Nat.reduceMul, Nat.reduceEqDiff, hsub3]
  refine capBytes_spec hm hd fun w2 hx2 => ?_
  have hx12 := hx1.trans hx2 (by simp)
  have hc5 := hx2.at (b := w.heap.size) (o := .cells (capC t mt ad).toArray 24) (by simp (disch := first | assumption | omega | (simp only [szR, tgC_len, tgC_all, arC_len, arC_all, capC_len, capC_all] <;> omega) | rfl | decide) only [gen0, gen1, gen2, rulesM, litR, bolR, Nat.reduceAdd, Nat.reduceLeDiff, numR, memR, valR, heapR, updR, intR, decR, extR, slR, segR, thenR, pnR, Int.reduceToNat, Int.reduceAdd, Int.reduceSub, Int.reduceLT, Int.reduceLE, Nat.reduceSub, Nat.reduceMul, Nat.reduceEqDiff]) (by simp)
  have l5 := lt_of_at hc5
  have hm2 := h.ext hx12 (by simp) (by simp)
  obtain ⟨L, hb, hL⟩ := hm2.body
  have hl := hL.len
  have hhd := hm2.head
  have hq2 := hm2.lt
  have e16 : ((a % 4096 : Nat) : Int) / 16 = ((a % 4096 / 16 : Nat) : Int) := by omega
  simp (disch := first | assumption | omega | (simp only [szR, tgC_len, tgC_all, arC_len, arC_all, capC_len, capC_all] <;> omega) | rfl | decide) only [gen0, gen1, gen2, rulesM, litR, bolR, Nat.reduceAdd, Nat.reduceLeDiff, numR, memR, valR, heapR, updR, intR, decR, extR, slR, segR, thenR, pnR, Int.reduceToNat, Int.reduceAdd, Int.reduceSub, Int.reduceLT, Int.reduceLE, Nat.reduceSub, Nat.reduceMul, Nat.reduceEqDiff, hb, arZ, arC_sub, arC_over, arC_len, arC_tail]
  refine joinL.intro fun J hJ => ?_
  have hlay := hL.lay16 (p := a / 4096) (o := a % 4096) (f := capBy mt ad) (by omega) (by omega)
  rw [show a / 4096 * 4096 + a % 4096 = a by omega] at hlay
  have hsub := hlay.sub (p := a / 4096) (by omega)
  have hll := hlay.len
  have hcg : (capC t mt ad)[0]? = some (.bool t) := rfl
  simp (disch := first | assumption | omega | (simp only [szR, tgC_len, tgC_all, arC_len, arC_all, capC_len, capC_all] <;> omega) | rfl | decide) only [gen0, gen1, gen2, rulesM, litR, bolR, Nat.reduceAdd, Nat.reduceLeDiff, numR, memR, valR, heapR, updR, intR, decR, extR, slR, segR, thenR, pnR, Int.reduceToNat, Int.reduceAdd, Int.reduceSub, Int.reduceLT, Int.reduceLE, Nat.reduceSub, Nat.reduceMul, Nat.reduceEqDiff, hb, hc5, hcg, hsub, e16, and_self]
  refine With_spec (g := fun j => g (a / 4096 * 4 + j)) (fun j => hm2.word _) fun gw w5 hgw hbw hx5 => ?_
  have hk5 := kept0 hx5
  have hs5 := hx5.size
  simp only [szR] at hs5
  simp (disch := first | assumption | omega | (simp only [szR, tgC_len, tgC_all, arC_len, arC_all, capC_len, capC_all] <;> omega) | rfl | decide) only [gen0, gen1, gen2, rulesM, litR, bolR, Nat.reduceAdd, Nat.reduceLeDiff, numR, memR, valR, heapR, updR, intR, decR, extR, slR, segR, thenR, pnR, Int.reduceToNat, Int.reduceAdd, Int.reduceSub, Int.reduceLT, Int.reduceLE, Nat.reduceSub, Nat.reduceMul, Nat.reduceEqDiff, hk5, hb]
  apply hJ
  intro _
  refine hK (wset4 g (a / 4096) gw) _ ⟨(by first | with_reducible rfl | assumption | (simp (disch := first | assumption | omega | (simp only [szR, tgC_len, tgC_all, arC_len, arC_all, capC_len, capC_all] <;> omega) | rfl | decide) only [gen0, gen1, gen2, rulesM, litR, bolR, Nat.reduceAdd, Nat.reduceLeDiff, numR, memR, valR, heapR, updR, intR, decR, extR, slR, segR, thenR, pnR, Int.reduceToNat, Int.reduceAdd, Int.reduceSub, Int.reduceLT, Int.reduceLE, Nat.reduceSub, Nat.reduceMul, Nat.reduceEqDiff, hk5, hhd] <;> rfl)), ⟨_, (by first | with_reducible rfl | assumption | (simp (disch := first | assumption | omega | (simp only [szR, tgC_len, tgC_all, arC_len, arC_all, capC_len, capC_all] <;> omega) | rfl | decide) only [gen0, gen1, gen2, rulesM, litR, bolR, Nat.reduceAdd, Nat.reduceLeDiff, numR, memR, valR, heapR, updR, intR, decR, extR, slR, segR, thenR, pnR, Int.reduceToNat, Int.reduceAdd, Int.reduceSub, Int.reduceLT, Int.reduceLE, Nat.reduceSub, Nat.reduceMul, Nat.reduceEqDiff, hk5, hb] <;> rfl)), hlay.tags (by omega)⟩, h.byte.laid (capBy_byte _ _) _ _, wset4_ok hm2.word hgw⟩ (fun x hx => ?_) ?_
  · rw [bit_wset4]
    by_cases hp : x / 256 = a / 4096
    · rw [if_pos hp, hbw _ (by omega), bit_page (by omega), show a / 4096 * 256 + x % 256 = x by omega]
      by_cases hxa : x = a / 16
      · rw [if_pos (by omega), if_pos hxa]
      · rw [if_neg (by omega), if_neg hxa]
    · rw [if_neg hp, if_neg (by omega)]
  · have hx6 : Ext [q] w w2 := hx12.mono (by simp)
    have hx7 : Ext [q] w2 w5 := (Ext.updI (by simp) ((Ext.refl (w := w2) (S := [q])).alloc _ _).drew).drew.trans hx5 (by simp)
    have hx8 := hx6.trans hx7 (fun k hk => .inl hk)
    (repeat first | assumption | exact Ext.refl | apply Ext.alloc | apply Ext.drew | (refine Ext.updN ?_ ?_; (focus first | omega | (simp only [szR] <;> omega))) | (refine Ext.updI ?_ ?_; (focus (simp; done))))
theorem LoadCap_spec {w : World} {r q n a : Nat} {m g : Nat → Int} (h : Mem w r q n m g) (hn : 0 < n ∧ n ≤ 1000) (ha : a < n * 4096) (hal : a % 16 = 0) {K : Value → World → Prop}
    (hK : ∀ w', Ext [] w w' → K (.tuple #[.agg (capC (bit g (a / 16)) (leN m (a + 8) 8 : Nat) (leN m a 8 : Nat)).toArray, .int .i64 0]) w') :
    callsK Tryz.prog 148 #[.pointer (some ⟨r, 0, none⟩), .int .u64 a] w K := by
  have hq := h.lt
  apply F148_ok
  unfold F148
  simp (disch := first | assumption | omega | (simp only [szR, tgC_len, tgC_all, arC_len, arC_all, capC_len, capC_all] <;> omega) | rfl | decide) only [gen0, gen1, gen2, rulesM, litR, bolR, Nat.reduceAdd, Nat.reduceLeDiff, numR, memR, valR, heapR, updR, intR, decR, extR, slR, segR, thenR, pnR, Int.reduceToNat, Int.reduceAdd, Int.reduceSub, Int.reduceLT, Int.reduceLE, Nat.reduceSub, Nat.reduceMul, Nat.reduceEqDiff]
  have hx1 : Ext [] w (w.alloc (.cells [.bool false, .int .u64 0, .int .u64 0].toArray 24)) := by (repeat first | assumption | exact Ext.refl | apply Ext.alloc | apply Ext.drew | (refine Ext.updN ?_ ?_; (focus first | omega | (simp only [szR] <;> omega))) | (refine Ext.updI ?_ ?_; (focus (simp; done))))
  have hc4 : (w.alloc (.cells [.bool false, .int .u64 0, .int .u64 0].toArray 24)).heap[w.heap.size]? = some (.cells [.bool false, .int .u64 0, .int .u64 0].toArray 24 (0, 0)) := by simp (disch := first | assumption | omega | (simp only [szR, tgC_len, tgC_all, arC_len, arC_all, capC_len, capC_all] <;> omega) | rfl | decide) only [gen0, gen1, gen2, rulesM, litR, bolR, Nat.reduceAdd, Nat.reduceLeDiff, numR, memR, valR, heapR, updR, intR, decR, extR, slR, segR, thenR, pnR, Int.reduceToNat, Int.reduceAdd, Int.reduceSub, Int.reduceLT, Int.reduceLE, Nat.reduceSub, Nat.reduceMul, Nat.reduceEqDiff]
  have hsz := hx1.size
  generalize hw1 : w.alloc (.cells [.bool false, .int .u64 0, .int .u64 0].toArray 24) = w1 at hx1 hc4 hsz
  have hm1 := h.ext hx1 (by simp) (by simp)
  refine place_spec hm1 hn (by omega) (by omega) (fun c1 c2 => ?_) (fun c => absurd ⟨by omega, by omega⟩ c)
  have e1 : ((a : Int) / 4096).toNat = a / 4096 := by omega
  have e2 : (a : Int) % 4096 = ((a % 4096 : Nat) : Int) := by omega
  rw [e1, e2]
  obtain ⟨L, hb, hL⟩ := hm1.body
  have hl := hL.len
  have hsub := hL.sub (p := a / 4096) (by omega)
  have hsub16 := hL.sub16 (p := a / 4096) (o := a % 4096) (by omega) (by omega)
  rw [show a / 4096 * 4096 + a % 4096 = a by omega] at hsub16
  have e16 : ((a % 4096 : Nat) : Int) / 16 = ((a % 4096 / 16 : Nat) : Int) := by omega
  have e3 : (((a % 4096 : Nat) : Int) + 16).toNat = a % 4096 + 16 := by omega
  have l4 := lt_of_at hc4
  have hlq := hm1.lt
  have hbit : (decide (0 ≤ ((a % 4096 / 16 : Nat) : Int) ∧ ((a % 4096 / 16 : Nat) : Int) < 256) && bit (fun j => g (a / 4096 * 4 + j)) ((a % 4096 / 16 : Nat) : Int).toNat) = bit g (a / 16) := by
    rw [decide_eq_true (by omega), Int.toNat_natCast, bit_page (by omega), show a / 4096 * 256 + a % 4096 / 16 = a / 16 by omega]
    rfl
  have hfin : ∀ w5, Ext [] w1 w5 → K (.tuple #[.agg (capC (bit g (a / 16)) (leN m (a + 8) 8 : Nat) (leN m a 8 : Nat)).toArray, .int .i64 0]) (World.upd w5 w.heap.size (capC (bit g (a / 16)) (leN m (a + 8) 8 : Nat) (leN m a 8 : Nat))) := by
    intro w5 h5
    refine hK _ ?_
    have := hx1.trans h5 (by simp)
    (repeat first | assumption | exact Ext.refl | apply Ext.alloc | apply Ext.drew | (refine Ext.updN ?_ ?_; (focus first | omega | (simp only [szR] <;> omega))) | (refine Ext.updI ?_ ?_; (focus (simp; done))))
  have hleN : leN (fun j => m (a + (8 + j))) 0 8 = leN m (a + 8) 8 := by
    rw [← leN_shift m (a + 8) 8]
    exact leN_congr fun j _ => by simp [Nat.add_assoc]
  have hleN2 : leN (fun j => m (a + j)) 0 8 = leN m a 8 := leN_shift m a 8
  clear hK hw1
  simp (disch := first | assumption | omega | (simp only [szR, tgC_len, tgC_all, arC_len, arC_all, capC_len, capC_all] <;> omega) | rfl | decide) only [gen0, gen1, gen2, rulesM, litR, bolR, Nat.reduceAdd, Nat.reduceLeDiff, numR, memR, valR, heapR, updR, intR, decR, extR, slR, segR, thenR, pnR, Int.reduceToNat, Int.reduceAdd, Int.reduceSub, Int.reduceLT, Int.reduceLE, Nat.reduceSub, Nat.reduceMul, Nat.reduceEqDiff, hb, e16, e3, hsub, hsub16, and_self]
  refine ⟨?_, ?_, ?_⟩
  all_goals refine Get_spec (g := fun j => g (a / 4096 * 4 + j)) (fun j => hm1.word _) fun w3 hx3 => ?_
  all_goals
    rw [hbit]
    have hk3 := kept0 hx3
    have hs3 := hx3.size
    try simp only [szR] at hs3
    simp (disch := first | assumption | omega | (simp only [szR, tgC_len, tgC_all, arC_len, arC_all, capC_len, capC_all] <;> omega) | rfl | decide) only [gen0, gen1, gen2, rulesM, litR, bolR, Nat.reduceAdd, Nat.reduceLeDiff, numR, memR, valR, heapR, updR, intR, decR, extR, slR, segR, thenR, pnR, Int.reduceToNat, Int.reduceAdd, Int.reduceSub, Int.reduceLT, Int.reduceLE, Nat.reduceSub, Nat.reduceMul, Nat.reduceEqDiff, hk3, hb, hsub16]
    refine capOf_spec (f := fun j => m (a + j)) (fun j => h.byte _) fun w4 hx4 => ?_
    rw [hleN, hleN2]
    have hk4 := kept0 hx4
    have hs4 := hx4.size
    try simp only [szR] at hs4
    have hxx : Ext [] w1 w4 := ((Ext.refl (w := w1) (S := [])).drew.trans hx3 (by simp)).trans hx4 (by simp)
    have hf := hfin w4 hxx
    simp only [capC] at hf ⊢
    simp (disch := first | assumption | omega | (simp only [szR, tgC_len, tgC_all, arC_len, arC_all, capC_len, capC_all] <;> omega) | rfl | decide) only [gen0, gen1, gen2, rulesM, litR, bolR, Nat.reduceAdd, Nat.reduceLeDiff, numR, memR, valR, heapR, updR, intR, decR, extR, slR, segR, thenR, pnR, Int.reduceToNat, Int.reduceAdd, Int.reduceSub, Int.reduceLT, Int.reduceLE, Nat.reduceSub, Nat.reduceMul, Nat.reduceEqDiff, hk4, hk3, hc4]
    exact hf
end Go.Proofs.YtplfniijbeinmaaGreat
