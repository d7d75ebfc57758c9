/- Whole numbers and capabilities as texts: both texts; conditions: those of each theorem. -/
import Derived.Test.YtgnibcaflidjmaaTell
namespace Go.Proofs.Ytgnibcaflidjmaa
open Go.Fx
set_option maxRecDepth 100000
set_option linter.unusedSimpArgs false
set_option linter.unusedVariables false
theorem addN (a b : List Int) (x y : Operand) (w : World) (h : a.length + b.length ≤ 1000000) : (binV .add 9 x y (.string (strOfNums a)) (.string (strOfNums b))).run Try.prog w = .ok (.string (strOfNums (a ++ b))) w := by
  rw [run_addS (by rw [strOfNums_size, strOfNums_size]; omega), strApp]
theorem allI_intro {I : World → Prop} {G : World → Prop} (h : ∀ w, I w → G w) : allI I G := h
theorem b32 : (⟨#[32]⟩ : ByteArray) = strOfNums [32] := rfl
theorem b10 : (⟨#[10]⟩ : ByteArray) = strOfNums [10] := rfl
theorem b45 : (⟨#[45]⟩ : ByteArray) = strOfNums [45] := rfl
theorem b91 : (⟨#[91]⟩ : ByteArray) = strOfNums [91] := rfl
theorem b93 : (⟨#[93]⟩ : ByteArray) = strOfNums [93] := rfl
/-- a whole number's text. -/
def whoL (k : Int) : List Int := if k < 0 then 45 :: digs 10 (-k).toNat else digs 10 k.toNat
theorem whoL_len {k : Int} (h : -9223372036854775808 ≤ k ∧ k < 9223372036854775808) : (whoL k).length ≤ 21 := by
  unfold whoL
  split
  · have := digs_le (b := 10) (n := (-k).toNat) (.inl rfl) (by omega)
    simp
    omega
  · have := digs_le (b := 10) (n := k.toNat) (.inl rfl) (by omega)
    omega
theorem whole2_spec {w : World} {k : Int} (hk : -9223372036854775808 ≤ k ∧ k < 9223372036854775808) {K : Value → World → Prop} (hK : ∀ w', Ext [] w w' → K (.string (strOfNums (whoL k))) w') : callsK Try.prog 35 #[.int .i64 k] w K := by
  apply F35_ok
  unfold F35
  have hc : ((10 : Nat) : Int) = 10 := rfl
  by_cases h : k < 0
  · have e : whoL k = [45] ++ digs 10 (-k).toNat := by simp [whoL, h]
    have hw1 : IntKind.u64.wrap k = k + 18446744073709551616 := by
      simp only [IntKind.wrap, IntKind.signed, IntKind.bits]
      simp
      omega
    have hw2 : IntKind.u64.wrap (0 - (k + 18446744073709551616)) = ((-k).toNat : Int) := by
      simp only [IntKind.wrap, IntKind.signed, IntKind.bits]
      simp
      omega
    simp (disch := first | assumption | omega | (simp only [szR, List.length_append, List.length_cons, List.length_nil, cpC_len, cpC_all, vwC_len, vwC_all, spC_len, spC_all] <;> omega) | rfl | decide) only [gen0, gen1, gen2, rulesC, litR, bolR, Nat.reduceAdd, Nat.reduceLeDiff, numR, memR, valR, heapR, updR, intR, decR, extR, slR, segR, thenR, pnR, Int.reduceToNat, Int.reduceAdd, Int.reduceSub, Int.reduceLT, Int.reduceLE, Nat.reduceSub, Nat.reduceMul, Nat.reduceEqDiff, hw1, hw2]
    refine digs_spec (b := 10) (.inl rfl) (by omega) fun w2 hx2 => ?_
    have hl := digs_le (b := 10) (n := (-k).toNat) (.inl rfl) (by omega)
    rw [e] at hK
    simp (disch := first | assumption | omega | (simp only [szR, List.length_append, List.length_cons, List.length_nil, cpC_len, cpC_all, vwC_len, vwC_all, spC_len, spC_all] <;> omega) | rfl | decide) only [gen0, gen1, gen2, rulesC, litR, bolR, Nat.reduceAdd, Nat.reduceLeDiff, numR, memR, valR, heapR, updR, intR, decR, extR, slR, segR, thenR, pnR, Int.reduceToNat, Int.reduceAdd, Int.reduceSub, Int.reduceLT, Int.reduceLE, Nat.reduceSub, Nat.reduceMul, Nat.reduceEqDiff, b45, addN]
    exact hK _ hx2
  · have e : whoL k = digs 10 k.toNat := by simp [whoL, h]
    rw [e] at hK
    have hw : IntKind.u64.wrap k = (k.toNat : Int) := by
      rw [wrap_u64 (by omega)]
      omega
    simp (disch := first | assumption | omega | (simp only [szR, List.length_append, List.length_cons, List.length_nil, cpC_len, cpC_all, vwC_len, vwC_all, spC_len, spC_all] <;> omega) | rfl | decide) only [gen0, gen1, gen2, rulesC, litR, bolR, Nat.reduceAdd, Nat.reduceLeDiff, numR, memR, valR, heapR, updR, intR, decR, extR, slR, segR, thenR, pnR, Int.reduceToNat, Int.reduceAdd, Int.reduceSub, Int.reduceLT, Int.reduceLE, Nat.reduceSub, Nat.reduceMul, Nat.reduceEqDiff, hw]
    exact digs_spec (b := 10) (.inl rfl) (by omega) hK
theorem rwhole2_spec {w : World} {k : Int} (hk : -9223372036854775808 ≤ k ∧ k < 9223372036854775808) {K : Value → World → Prop} (hK : ∀ w', Ext [] w w' → K (.string (strOfNums (whoL k))) w') : callsK Try.prog 31 #[.int .i64 k] w K := by
  apply F31_ok
  unfold F31
  by_cases h : k < 0
  · have e : whoL k = [45] ++ digs 10 (-k).toNat := by simp [whoL, h]
    have hw2 : IntKind.u64.wrap (IntKind.i64.wrap (0 - k)) = ((-k).toNat : Int) := by
      simp only [IntKind.wrap, IntKind.signed, IntKind.bits]
      simp
      omega
    simp (disch := first | assumption | omega | (simp only [szR, List.length_append, List.length_cons, List.length_nil, cpC_len, cpC_all, vwC_len, vwC_all, spC_len, spC_all] <;> omega) | rfl | decide) only [gen0, gen1, gen2, rulesC, litR, bolR, Nat.reduceAdd, Nat.reduceLeDiff, numR, memR, valR, heapR, updR, intR, decR, extR, slR, segR, thenR, pnR, Int.reduceToNat, Int.reduceAdd, Int.reduceSub, Int.reduceLT, Int.reduceLE, Nat.reduceSub, Nat.reduceMul, Nat.reduceEqDiff, hw2]
    refine rdigs_spec (b := 10) (.inl rfl) _ (by omega) _ _ fun w2 hx2 => ?_
    have hl := digs_le (b := 10) (n := (-k).toNat) (.inl rfl) (by omega)
    rw [e] at hK
    simp (disch := first | assumption | omega | (simp only [szR, List.length_append, List.length_cons, List.length_nil, cpC_len, cpC_all, vwC_len, vwC_all, spC_len, spC_all] <;> omega) | rfl | decide) only [gen0, gen1, gen2, rulesC, litR, bolR, Nat.reduceAdd, Nat.reduceLeDiff, numR, memR, valR, heapR, updR, intR, decR, extR, slR, segR, thenR, pnR, Int.reduceToNat, Int.reduceAdd, Int.reduceSub, Int.reduceLT, Int.reduceLE, Nat.reduceSub, Nat.reduceMul, Nat.reduceEqDiff, b45, addN]
    exact hK _ hx2
  · have e : whoL k = digs 10 k.toNat := by simp [whoL, h]
    rw [e] at hK
    have hw : IntKind.u64.wrap k = (k.toNat : Int) := by
      rw [wrap_u64 (by omega)]
      omega
    simp (disch := first | assumption | omega | (simp only [szR, List.length_append, List.length_cons, List.length_nil, cpC_len, cpC_all, vwC_len, vwC_all, spC_len, spC_all] <;> omega) | rfl | decide) only [gen0, gen1, gen2, rulesC, litR, bolR, Nat.reduceAdd, Nat.reduceLeDiff, numR, memR, valR, heapR, updR, intR, decR, extR, slR, segR, thenR, pnR, Int.reduceToNat, Int.reduceAdd, Int.reduceSub, Int.reduceLT, Int.reduceLE, Nat.reduceSub, Nat.reduceMul, Nat.reduceEqDiff, hw]
    exact rdigs_spec (b := 10) (.inl rfl) _ (by omega) _ _ hK
/-- a capability's text. -/
def tellL (t : Bool) (m a : Nat) : List Int := if t then [91] ++ digs 16 (spB (spM m a)) ++ [45] ++ digs 16 (spT (spM m a)) ++ [32] ++ ptK (m / 4294967296 % 512) 9 ++ [32] ++ digs 10 (m / 281474976710656 % 4096) ++ [93] else digs 16 a
theorem spn_lt (B T E a : Nat) : spB (spn B T E a) < 18446744073709551616 ∧ spT (spn B T E a) < 18446744073709551616 := by
  unfold spn
  by_cases h1 : 37 < E ∨ 281474976710656 ≤ a
  · rw [if_pos h1]
    exact ⟨by decide, by decide⟩
  rw [if_neg h1]
  generalize ((T + 16384 - B) % 4096 + if 0 < E then 4096 else 0) = n
  have hqm := Nat.div_mul_le_self 281474976710656 (2 ^ (E - 1))
  generalize (a / 2 ^ (E - 1) + 4096 - (a / 2 ^ (E - 1) + 16384 - B + 4096) % 16384) = bs
  generalize 281474976710656 / 2 ^ (E - 1) = qq at *
  by_cases h2 : a / 2 ^ (E - 1) + 4096 < (a / 2 ^ (E - 1) + 16384 - B + 4096) % 16384
  · rw [if_pos h2]
    exact ⟨by decide, by decide⟩
  rw [if_neg h2]
  generalize 2 ^ (E - 1) = p at *
  by_cases h3 : qq < bs + n
  · rw [if_pos h3]
    exact ⟨by decide, by decide⟩
  rw [if_neg h3]
  have hmb : (bs + n) * p ≤ qq * p := Nat.mul_le_mul_right _ (by omega)
  have hmb2 : bs * p ≤ (bs + n) * p := Nat.mul_le_mul_right _ (by omega)
  show bs * p < _ ∧ (bs + n) * p < _
  omega
theorem tellL_len {t : Bool} {m a : Nat} (ha : a < 18446744073709551616) : (tellL t m a).length ≤ 80 := by
  have h0 := spn_lt (m % 16384) (m / 16384 % 4096) (m / 67108864 % 64) a
  have h1 := digs_le (b := 16) (n := spB (spM m a)) (.inr rfl) h0.1
  have h2 := digs_le (b := 16) (n := spT (spM m a)) (.inr rfl) h0.2
  have h3 := ptK_len (m / 4294967296 % 512) 9
  have h4 := digs_le (b := 10) (n := m / 281474976710656 % 4096) (.inl rfl) (by omega)
  have h5 := digs_le (b := 16) (n := a) (.inr rfl) ha
  unfold tellL
  split
  · simp only [List.length_append, List.length_cons, List.length_nil]
    omega
  · omega
theorem Tell_spec {w : World} {t : Bool} {m a : Nat} (hm : m < 18446744073709551616) (ha : a < 18446744073709551616) {K : Value → World → Prop} (hK : ∀ w', Ext [] w w' → K (.string (strOfNums (tellL t m a))) w') : callsK Try.prog 38 #[.agg (cpC t m a).toArray] w K := by
  apply G38_ok
  unfold G38
  have hcp : cpC t m a = [.bool t, .int .u64 m, .int .u64 a] := rfl
  cases t with
  | false =>
    rw [hcp]
    simp (disch := first | assumption | omega | (simp only [szR, List.length_append, List.length_cons, List.length_nil, cpC_len, cpC_all, vwC_len, vwC_all, spC_len, spC_all] <;> omega) | rfl | decide) only [gen0, gen1, gen2, rulesC, litR, bolR, Nat.reduceAdd, Nat.reduceLeDiff, numR, memR, valR, heapR, updR, intR, decR, extR, slR, segR, thenR, pnR, Int.reduceToNat, Int.reduceAdd, Int.reduceSub, Int.reduceLT, Int.reduceLE, Nat.reduceSub, Nat.reduceMul, Nat.reduceEqDiff]
    exact digs_spec (b := 16) (.inr rfl) ha fun w2 hx2 => hK _ (Ext.trans (S := []) (by (repeat first | assumption | exact Ext.refl | apply Ext.alloc | apply Ext.drew | (refine Ext.updN ?_ ?_; (focus first | omega | (simp only [szR] <;> omega))) | (refine Ext.updI ?_ ?_; (focus (simp; done))))) hx2 (by simp))
  | true =>
    have h0 := spn_lt (m % 16384) (m / 16384 % 4096) (m / 67108864 % 64) a
    have h1 := digs_le (b := 16) (n := spB (spM m a)) (.inr rfl) h0.1
    have h2 := digs_le (b := 16) (n := spT (spM m a)) (.inr rfl) h0.2
    have h3 := ptK_len (m / 4294967296 % 512) 9
    have h4 := digs_le (b := 10) (n := m / 281474976710656 % 4096) (.inl rfl) (by omega)
    have hvw : vwC m a = [.int .u64 (spB (spM m a) : Nat), .int .u64 (spT (spM m a) : Nat), .int .u64 (m / 4294967296 % 512 : Nat), .int .u64 (m / 281474976710656 % 4096 : Nat)] := rfl
    have htl : tellL true m a = [91] ++ digs 16 (spB (spM m a)) ++ [45] ++ digs 16 (spT (spM m a)) ++ [32] ++ ptK (m / 4294967296 % 512) 9 ++ [32] ++ digs 10 (m / 281474976710656 % 4096) ++ [93] := rfl
    rw [htl] at hK
    have cat : (cpC true m a)[0]? = some (.bool true) ∧ (cpC true m a)[2]? = some (.int .u64 a) := ⟨rfl, rfl⟩
    have vat : (vwC m a)[2]? = some (.int .u64 (m / 4294967296 % 512 : Nat)) ∧ (vwC m a)[3]? = some (.int .u64 (m / 281474976710656 % 4096 : Nat)) := ⟨rfl, rfl⟩
    simp (disch := first | assumption | omega | (simp only [szR, List.length_append, List.length_cons, List.length_nil, cpC_len, cpC_all, vwC_len, vwC_all, spC_len, spC_all] <;> omega) | rfl | decide) only [gen0, gen1, gen2, rulesC, litR, bolR, Nat.reduceAdd, Nat.reduceLeDiff, numR, memR, valR, heapR, updR, intR, decR, extR, slR, segR, thenR, pnR, Int.reduceToNat, Int.reduceAdd, Int.reduceSub, Int.reduceLT, Int.reduceLE, Nat.reduceSub, Nat.reduceMul, Nat.reduceEqDiff, cat, cpC_sub]
    refine Look_spec hm ha fun w1 hx1 => ?_
    have hk1 := kept0 hx1
    have hs1 := hx1.size
    try simp only [szR] at hs1
    have hxw1 : Ext [] w w1 := Ext.trans (S := []) (by (repeat first | assumption | exact Ext.refl | apply Ext.alloc | apply Ext.drew | (refine Ext.updN ?_ ?_; (focus first | omega | (simp only [szR] <;> omega))) | (refine Ext.updI ?_ ?_; (focus (simp; done))))) hx1 (by simp)
    simp (disch := first | assumption | omega | (simp only [szR, List.length_append, List.length_cons, List.length_nil, cpC_len, cpC_all, vwC_len, vwC_all, spC_len, spC_all] <;> omega) | rfl | decide) only [gen0, gen1, gen2, rulesC, litR, bolR, Nat.reduceAdd, Nat.reduceLeDiff, numR, memR, valR, heapR, updR, intR, decR, extR, slR, segR, thenR, pnR, Int.reduceToNat, Int.reduceAdd, Int.reduceSub, Int.reduceLT, Int.reduceLE, Nat.reduceSub, Nat.reduceMul, Nat.reduceEqDiff, vwC_over, vwC_put]
    have c1 : (w1.alloc (.cells (vwC m a).toArray 113)).heap[w.heap.size]? = some (.cells (cpC true m a).toArray 33 (0, 0)) := (by first | with_reducible rfl | assumption | (simp (disch := first | assumption | omega | (simp only [szR, List.length_append, List.length_cons, List.length_nil, cpC_len, cpC_all, vwC_len, vwC_all, spC_len, spC_all] <;> omega) | rfl | decide) only [gen0, gen1, gen2, rulesC, litR, bolR, Nat.reduceAdd, Nat.reduceLeDiff, numR, memR, valR, heapR, updR, intR, decR, extR, slR, segR, thenR, pnR, Int.reduceToNat, Int.reduceAdd, Int.reduceSub, Int.reduceLT, Int.reduceLE, Nat.reduceSub, Nat.reduceMul, Nat.reduceEqDiff, hk1] <;> rfl))
    obtain ⟨I, hI⟩ : ∃ I : World → Prop, I = fun w' => Ext [] w w' ∧ w'.heap[w.heap.size]? = some (.cells (cpC true m a).toArray 33 (0, 0)) ∧ w'.heap[w1.heap.size]? = some (.cells (vwC m a).toArray 113 (0, 0)) := ⟨_, rfl⟩
    have keep : ∀ w' w2, I w' → Ext [] w' w2 → I w2 := by
      subst hI
      rintro w' w2 ⟨hx, c3, c5⟩ h
      exact ⟨hx.trans h (by simp), h.at c3 (by simp), h.at c5 (by simp)⟩
    have hu : ∀ w', I w' → Ext [] w w' ∧ w'.heap[w.heap.size]? = some (.cells (cpC true m a).toArray 33 (0, 0)) ∧ w'.heap[w1.heap.size]? = some (.cells (vwC m a).toArray 113 (0, 0)) := by
      subst hI
      exact fun _ h => h
    have Lc : ∀ K : Value → Prop, K (.agg (cpC true m a).toArray) → iV Try.prog I (Instr.loadAt 33 (.pointer (some ⟨w.heap.size, 0, none⟩))) K := fun K hK => iV.intro _ (fun w' h => by
      obtain ⟨hx, c3, c5⟩ := hu w' h
      simp (disch := first | assumption | omega | (simp only [szR, List.length_append, List.length_cons, List.length_nil, cpC_len, cpC_all, vwC_len, vwC_all, spC_len, spC_all] <;> omega) | rfl | decide) only [gen0, gen1, gen2, rulesC, litR, bolR, Nat.reduceAdd, Nat.reduceLeDiff, numR, memR, valR, heapR, updR, intR, decR, extR, slR, segR, thenR, pnR, Int.reduceToNat, Int.reduceAdd, Int.reduceSub, Int.reduceLT, Int.reduceLE, Nat.reduceSub, Nat.reduceMul, Nat.reduceEqDiff, c3, cpC_sub]
      exact ⟨trivial, h⟩) hK
    have Lp : ∀ K : Value → Prop, K (.int .u64 (m / 4294967296 % 512 : Nat)) → iV Try.prog I (Instr.loadAt 28 (.pointer (some ⟨w1.heap.size, 2, none⟩))) K := fun K hK => iV.intro _ (fun w' h => by
      obtain ⟨hx, c3, c5⟩ := hu w' h
      simp (disch := first | assumption | omega | (simp only [szR, List.length_append, List.length_cons, List.length_nil, cpC_len, cpC_all, vwC_len, vwC_all, spC_len, spC_all] <;> omega) | rfl | decide) only [gen0, gen1, gen2, rulesC, litR, bolR, Nat.reduceAdd, Nat.reduceLeDiff, numR, memR, valR, heapR, updR, intR, decR, extR, slR, segR, thenR, pnR, Int.reduceToNat, Int.reduceAdd, Int.reduceSub, Int.reduceLT, Int.reduceLE, Nat.reduceSub, Nat.reduceMul, Nat.reduceEqDiff, c5, vat]
      exact ⟨trivial, h⟩) hK
    have Lt : ∀ K : Value → Prop, K (.int .u64 (m / 281474976710656 % 4096 : Nat)) → iV Try.prog I (Instr.loadAt 28 (.pointer (some ⟨w1.heap.size, 3, none⟩))) K := fun K hK => iV.intro _ (fun w' h => by
      obtain ⟨hx, c3, c5⟩ := hu w' h
      simp (disch := first | assumption | omega | (simp only [szR, List.length_append, List.length_cons, List.length_nil, cpC_len, cpC_all, vwC_len, vwC_all, spC_len, spC_all] <;> omega) | rfl | decide) only [gen0, gen1, gen2, rulesC, litR, bolR, Nat.reduceAdd, Nat.reduceLeDiff, numR, memR, valR, heapR, updR, intR, decR, extR, slR, segR, thenR, pnR, Int.reduceToNat, Int.reduceAdd, Int.reduceSub, Int.reduceLT, Int.reduceLE, Nat.reduceSub, Nat.reduceMul, Nat.reduceEqDiff, c5, vat]
      exact ⟨trivial, h⟩) hK
    refine parR.intro I ?_ ?_
    · subst hI
      exact ⟨by (repeat first | assumption | exact Ext.refl | apply Ext.alloc | apply Ext.drew | (refine Ext.updN ?_ ?_; (focus first | omega | (simp only [szR] <;> omega))) | (refine Ext.updI ?_ ?_; (focus (simp; done)))), c1, alloc_at rfl⟩
    refine Lc _ ?_
    refine iN.intro (.int .u64 (spB (spM m a) : Nat)) (fun w' h => ?_) ?_
    · simp (disch := first | assumption | omega | (simp only [szR, List.length_append, List.length_cons, List.length_nil, cpC_len, cpC_all, vwC_len, vwC_all, spC_len, spC_all] <;> omega) | rfl | decide) only [gen0, gen1, gen2, rulesC, litR, bolR, Nat.reduceAdd, Nat.reduceLeDiff, numR, memR, valR, heapR, updR, intR, decR, extR, slR, segR, thenR, pnR, Int.reduceToNat, Int.reduceAdd, Int.reduceSub, Int.reduceLT, Int.reduceLE, Nat.reduceSub, Nat.reduceMul, Nat.reduceEqDiff]
      exact Base_spec hm ha fun w2 hx2 => ⟨rfl, keep _ _ h hx2⟩
    refine iN.intro (.string (strOfNums (digs 16 (spB (spM m a))))) (fun w' h => ?_) ?_
    · simp (disch := first | assumption | omega | (simp only [szR, List.length_append, List.length_cons, List.length_nil, cpC_len, cpC_all, vwC_len, vwC_all, spC_len, spC_all] <;> omega) | rfl | decide) only [gen0, gen1, gen2, rulesC, litR, bolR, Nat.reduceAdd, Nat.reduceLeDiff, numR, memR, valR, heapR, updR, intR, decR, extR, slR, segR, thenR, pnR, Int.reduceToNat, Int.reduceAdd, Int.reduceSub, Int.reduceLT, Int.reduceLE, Nat.reduceSub, Nat.reduceMul, Nat.reduceEqDiff]
      exact digs_spec (b := 16) (.inr rfl) h0.1 fun w2 hx2 => ⟨rfl, keep _ _ h hx2⟩
    simp (disch := first | assumption | omega | (simp only [szR, List.length_append, List.length_cons, List.length_nil, cpC_len, cpC_all, vwC_len, vwC_all, spC_len, spC_all] <;> omega) | rfl | decide) only [gen0, gen1, gen2, rulesC, litR, bolR, Nat.reduceAdd, Nat.reduceLeDiff, numR, memR, valR, heapR, updR, intR, decR, extR, slR, segR, thenR, pnR, Int.reduceToNat, Int.reduceAdd, Int.reduceSub, Int.reduceLT, Int.reduceLE, Nat.reduceSub, Nat.reduceMul, Nat.reduceEqDiff, b91, b45, addN]
    refine Lc _ ?_
    refine iN.intro (.int .u64 (spT (spM m a) : Nat)) (fun w' h => ?_) ?_
    · simp (disch := first | assumption | omega | (simp only [szR, List.length_append, List.length_cons, List.length_nil, cpC_len, cpC_all, vwC_len, vwC_all, spC_len, spC_all] <;> omega) | rfl | decide) only [gen0, gen1, gen2, rulesC, litR, bolR, Nat.reduceAdd, Nat.reduceLeDiff, numR, memR, valR, heapR, updR, intR, decR, extR, slR, segR, thenR, pnR, Int.reduceToNat, Int.reduceAdd, Int.reduceSub, Int.reduceLT, Int.reduceLE, Nat.reduceSub, Nat.reduceMul, Nat.reduceEqDiff]
      exact Top_spec hm ha fun w2 hx2 => ⟨rfl, keep _ _ h hx2⟩
    refine iN.intro (.string (strOfNums (digs 16 (spT (spM m a))))) (fun w' h => ?_) ?_
    · simp (disch := first | assumption | omega | (simp only [szR, List.length_append, List.length_cons, List.length_nil, cpC_len, cpC_all, vwC_len, vwC_all, spC_len, spC_all] <;> omega) | rfl | decide) only [gen0, gen1, gen2, rulesC, litR, bolR, Nat.reduceAdd, Nat.reduceLeDiff, numR, memR, valR, heapR, updR, intR, decR, extR, slR, segR, thenR, pnR, Int.reduceToNat, Int.reduceAdd, Int.reduceSub, Int.reduceLT, Int.reduceLE, Nat.reduceSub, Nat.reduceMul, Nat.reduceEqDiff]
      exact digs_spec (b := 16) (.inr rfl) h0.2 fun w2 hx2 => ⟨rfl, keep _ _ h hx2⟩
    simp (disch := first | assumption | omega | (simp only [szR, List.length_append, List.length_cons, List.length_nil, cpC_len, cpC_all, vwC_len, vwC_all, spC_len, spC_all] <;> omega) | rfl | decide) only [gen0, gen1, gen2, rulesC, litR, bolR, Nat.reduceAdd, Nat.reduceLeDiff, numR, memR, valR, heapR, updR, intR, decR, extR, slR, segR, thenR, pnR, Int.reduceToNat, Int.reduceAdd, Int.reduceSub, Int.reduceLT, Int.reduceLE, Nat.reduceSub, Nat.reduceMul, Nat.reduceEqDiff, b32, addN]
    refine Lp _ ?_
    refine iN.intro (.string (strOfNums (ptK (m / 4294967296 % 512) 9))) (fun w' h => ?_) ?_
    · simp (disch := first | assumption | omega | (simp only [szR, List.length_append, List.length_cons, List.length_nil, cpC_len, cpC_all, vwC_len, vwC_all, spC_len, spC_all] <;> omega) | rfl | decide) only [gen0, gen1, gen2, rulesC, litR, bolR, Nat.reduceAdd, Nat.reduceLeDiff, numR, memR, valR, heapR, updR, intR, decR, extR, slR, segR, thenR, pnR, Int.reduceToNat, Int.reduceAdd, Int.reduceSub, Int.reduceLT, Int.reduceLE, Nat.reduceSub, Nat.reduceMul, Nat.reduceEqDiff]
      exact Perm_spec (by omega) fun w2 hx2 => ⟨rfl, keep _ _ h hx2⟩
    simp (disch := first | assumption | omega | (simp only [szR, List.length_append, List.length_cons, List.length_nil, cpC_len, cpC_all, vwC_len, vwC_all, spC_len, spC_all] <;> omega) | rfl | decide) only [gen0, gen1, gen2, rulesC, litR, bolR, Nat.reduceAdd, Nat.reduceLeDiff, numR, memR, valR, heapR, updR, intR, decR, extR, slR, segR, thenR, pnR, Int.reduceToNat, Int.reduceAdd, Int.reduceSub, Int.reduceLT, Int.reduceLE, Nat.reduceSub, Nat.reduceMul, Nat.reduceEqDiff, b32, addN]
    refine Lt _ ?_
    refine iN.intro (.string (strOfNums (digs 10 (m / 281474976710656 % 4096)))) (fun w' h => ?_) ?_
    · simp (disch := first | assumption | omega | (simp only [szR, List.length_append, List.length_cons, List.length_nil, cpC_len, cpC_all, vwC_len, vwC_all, spC_len, spC_all] <;> omega) | rfl | decide) only [gen0, gen1, gen2, rulesC, litR, bolR, Nat.reduceAdd, Nat.reduceLeDiff, numR, memR, valR, heapR, updR, intR, decR, extR, slR, segR, thenR, pnR, Int.reduceToNat, Int.reduceAdd, Int.reduceSub, Int.reduceLT, Int.reduceLE, Nat.reduceSub, Nat.reduceMul, Nat.reduceEqDiff]
      exact digs_spec (b := 10) (.inl rfl) (by omega) fun w2 hx2 => ⟨rfl, keep _ _ h hx2⟩
    simp (disch := first | assumption | omega | (simp only [szR, List.length_append, List.length_cons, List.length_nil, cpC_len, cpC_all, vwC_len, vwC_all, spC_len, spC_all] <;> omega) | rfl | decide) only [gen0, gen1, gen2, rulesC, litR, bolR, Nat.reduceAdd, Nat.reduceLeDiff, numR, memR, valR, heapR, updR, intR, decR, extR, slR, segR, thenR, pnR, Int.reduceToNat, Int.reduceAdd, Int.reduceSub, Int.reduceLT, Int.reduceLE, Nat.reduceSub, Nat.reduceMul, Nat.reduceEqDiff, b93, addN]
    exact allI_intro fun w' h => hK _ (hu _ h).1
end Go.Proofs.Ytgnibcaflidjmaa
