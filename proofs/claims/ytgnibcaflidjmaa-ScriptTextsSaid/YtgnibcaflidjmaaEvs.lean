/- An event as a text, the document's; conditions: those of each theorem. -/
import Derived.Test.YtgnibcaflidjmaaInsts2
import Derived.Test.YtgnibcaflidjmaaGD
namespace Go.Proofs.Ytgnibcaflidjmaa
open Go.Fx
set_option maxRecDepth 100000
set_option linter.unusedSimpArgs false
set_option linter.unusedVariables false
/-- an event. -/
structure Ev where
  p : Int
  k : Int
  pc : Nat
  op : Int
  code : Int
  t : Bool
  m : Nat
  a : Nat
def I64 (k : Int) : Prop := -9223372036854775808 ≤ k ∧ k < 9223372036854775808
structure EvOk (e : Ev) : Prop where
  p : I64 e.p
  k : I64 e.k
  pc : e.pc < 18446744073709551616
  op : I64 e.op
  code : I64 e.code
  m : e.m < 18446744073709551616
  a : e.a < 18446744073709551616
def evC (e : Ev) : List Value := [.int .i64 e.p, .int .i64 e.k, .int .u64 e.pc, .int .i64 e.op, .int .i64 e.code, .bool e.t, .int .u64 e.m, .int .u64 e.a]
theorem evC_len (e : Ev) : (evC e).length = 8 := rfl
theorem evC_all (e : Ev) : (evC e).all (fun v => v.oneCell') = true := rfl
theorem evC_sub (e : Ev) : sub (evC e) 0 8 = evC e := rfl
theorem evC_cap (e : Ev) : sub (evC e) 5 3 = cpC e.t e.m e.a := rfl
theorem evC_at (e : Ev) : (evC e)[0]? = some (.int .i64 e.p) ∧ (evC e)[1]? = some (.int .i64 e.k) ∧ (evC e)[2]? = some (.int .u64 e.pc) ∧ (evC e)[3]? = some (.int .i64 e.op) ∧ (evC e)[4]? = some (.int .i64 e.code) := ⟨rfl, rfl, rfl, rfl, rfl⟩
theorem b0 : (⟨#[]⟩ : ByteArray) = strOfNums [] := rfl
theorem b112 : (⟨#[112]⟩ : ByteArray) = strOfNums [112] := rfl
theorem bCall : (⟨#[99, 97, 108, 108]⟩ : ByteArray) = strOfNums [99, 97, 108, 108] := rfl
theorem bCallS : (⟨#[99, 97, 108, 108, 32]⟩ : ByteArray) = strOfNums [99, 97, 108, 108, 32] := rfl
theorem bEnd : (⟨#[101, 110, 100]⟩ : ByteArray) = strOfNums [101, 110, 100] := rfl
theorem bEndS : (⟨#[101, 110, 100, 32]⟩ : ByteArray) = strOfNums [101, 110, 100, 32] := rfl
theorem bKill : (⟨#[107, 105, 108, 108]⟩ : ByteArray) = strOfNums [107, 105, 108, 108] := rfl
theorem bKillS : (⟨#[107, 105, 108, 108, 32]⟩ : ByteArray) = strOfNums [107, 105, 108, 108, 32] := rfl
theorem bQ : (⟨#[63]⟩ : ByteArray) = strOfNums [63] := rfl
theorem bQN : (⟨#[63, 10]⟩ : ByteArray) = strOfNums [63, 10] := rfl
/-- an event's text. -/
def headL (e : Ev) : List Int := [112] ++ whoL e.p ++ [32] ++ digs 16 e.pc ++ [32]
def txL (e : Ev) : List Int :=
  if e.k = 0 then headL e ++ instL e.op ++ [32] ++ tellL e.t e.m e.a ++ [10]
  else if e.k = 1 then headL e ++ [99, 97, 108, 108, 32] ++ whoL e.op ++ [32] ++ whoL e.code ++ [32] ++ tellL e.t e.m e.a ++ [10]
  else if e.k = 2 then headL e ++ [101, 110, 100, 32] ++ whoL e.code ++ [10]
  else if e.k = 3 then headL e ++ [107, 105, 108, 108, 32] ++ whoL e.code ++ [10]
  else headL e ++ [63, 10]
theorem headL_len {e : Ev} (he : EvOk e) : (headL e).length ≤ 60 := by
  have h1 := whoL_len he.p
  have h2 := digs_le (b := 16) (n := e.pc) (.inr rfl) he.pc
  simp only [headL, List.length_append, List.length_cons, List.length_nil]
  omega
theorem txL_len {e : Ev} (he : EvOk e) : (txL e).length ≤ 300 := by
  have h0 := headL_len he
  have h1 := whoL_len he.op
  have h2 := whoL_len he.code
  have h3 := tellL_len (t := e.t) (m := e.m) he.a
  have h4 := instL_len e.op
  unfold txL
  split
  · simp only [List.length_append, List.length_cons, List.length_nil]
    omega
  split
  · simp only [List.length_append, List.length_cons, List.length_nil]
    omega
  split
  · simp only [List.length_append, List.length_cons, List.length_nil]
    omega
  split
  · simp only [List.length_append, List.length_cons, List.length_nil]
    omega
  simp only [List.length_append, List.length_cons, List.length_nil]
  omega
theorem rtext_spec {w : World} {e : Ev} (he : EvOk e) {K : Value → World → Prop} (hK : ∀ w', Ext [] w w' → K (.string (strOfNums (txL e))) w') : callsK Try.prog 14 #[.agg (evC e).toArray] w K := by
  apply G14_ok
  unfold G14
  have hh := headL_len he
  have l1 := whoL_len he.p
  have l2 := digs_le (b := 16) (n := e.pc) (.inr rfl) he.pc
  have l3 := whoL_len he.op
  have l4 := whoL_len he.code
  have l5 := tellL_len (t := e.t) (m := e.m) he.a
  have l6 := instL_len e.op
  have hat := evC_at e
  simp (disch := first | assumption | omega | (simp only [szR, List.length_append, List.length_cons, List.length_nil, evC_len, evC_all] <;> omega) | rfl | decide) only [gen0, gen1, gen2, rulesC, litR, bolR, Nat.reduceAdd, Nat.reduceLeDiff, numR, memR, valR, heapR, updR, intR, decR, extR, slR, segR, thenR, pnR, Int.reduceToNat, Int.reduceAdd, Int.reduceSub, Int.reduceLT, Int.reduceLE, Nat.reduceSub, Nat.reduceMul, Nat.reduceEqDiff]
  refine joinL.intro fun J0 hJ0 => ?_
  obtain ⟨I, hI⟩ : ∃ I : World → Prop, I = fun w' => Ext [] w w' ∧ w'.heap[w.heap.size]? = some (.cells (evC e).toArray 40 (0, 0)) := ⟨_, rfl⟩
  have keep : ∀ w' w2, I w' → Ext [] w' w2 → I w2 := by
    subst hI
    rintro w' w2 ⟨hx, c3⟩ h
    exact ⟨hx.trans h (by simp), h.at c3 (by simp)⟩
  have hu : ∀ w', I w' → Ext [] w w' ∧ w'.heap[w.heap.size]? = some (.cells (evC e).toArray 40 (0, 0)) := by
    subst hI
    exact fun _ h => h
  have Li : ∀ (o : Nat) (k : Int), (evC e)[o]? = some (.int .i64 k) → ∀ K : Value → Prop, K (.int .i64 k) → iV Try.prog I (Instr.loadAt 3 (.pointer (some ⟨w.heap.size, o, none⟩))) K := fun o k hk K hK => iV.intro _ (fun w' h => by
    obtain ⟨hx, c3⟩ := hu w' h
    simp (disch := first | assumption | omega | (simp only [szR, List.length_append, List.length_cons, List.length_nil, evC_len, evC_all] <;> omega) | rfl | decide) only [gen0, gen1, gen2, rulesC, litR, bolR, Nat.reduceAdd, Nat.reduceLeDiff, numR, memR, valR, heapR, updR, intR, decR, extR, slR, segR, thenR, pnR, Int.reduceToNat, Int.reduceAdd, Int.reduceSub, Int.reduceLT, Int.reduceLE, Nat.reduceSub, Nat.reduceMul, Nat.reduceEqDiff, c3, hk]
    exact ⟨trivial, h⟩) hK
  have Lp : ∀ K : Value → Prop, K (.int .u64 e.pc) → iV Try.prog I (Instr.loadAt 28 (.pointer (some ⟨w.heap.size, 2, none⟩))) K := fun K hK => iV.intro _ (fun w' h => by
    obtain ⟨hx, c3⟩ := hu w' h
    simp (disch := first | assumption | omega | (simp only [szR, List.length_append, List.length_cons, List.length_nil, evC_len, evC_all] <;> omega) | rfl | decide) only [gen0, gen1, gen2, rulesC, litR, bolR, Nat.reduceAdd, Nat.reduceLeDiff, numR, memR, valR, heapR, updR, intR, decR, extR, slR, segR, thenR, pnR, Int.reduceToNat, Int.reduceAdd, Int.reduceSub, Int.reduceLT, Int.reduceLE, Nat.reduceSub, Nat.reduceMul, Nat.reduceEqDiff, c3, hat]
    exact ⟨trivial, h⟩) hK
  have Lc : ∀ K : Value → Prop, K (.agg (cpC e.t e.m e.a).toArray) → iV Try.prog I (Instr.loadAt 38 (.pointer (some ⟨w.heap.size, 5, none⟩))) K := fun K hK => iV.intro _ (fun w' h => by
    obtain ⟨hx, c3⟩ := hu w' h
    simp (disch := first | assumption | omega | (simp only [szR, List.length_append, List.length_cons, List.length_nil, evC_len, evC_all] <;> omega) | rfl | decide) only [gen0, gen1, gen2, rulesC, litR, bolR, Nat.reduceAdd, Nat.reduceLeDiff, numR, memR, valR, heapR, updR, intR, decR, extR, slR, segR, thenR, pnR, Int.reduceToNat, Int.reduceAdd, Int.reduceSub, Int.reduceLT, Int.reduceLE, Nat.reduceSub, Nat.reduceMul, Nat.reduceEqDiff, c3, evC_cap]
    exact ⟨trivial, h⟩) hK
  have Cw : ∀ k : Int, I64 k → ∀ K : Value → Prop, K (.string (strOfNums (whoL k))) → iN Try.prog I (callN (.func (.func 31) #[] #[]) #[.int .i64 k]) K := fun k hk K hK => iN.intro _ (fun w' h => by
    simp (disch := first | assumption | omega | (simp only [szR, List.length_append, List.length_cons, List.length_nil, evC_len, evC_all] <;> omega) | rfl | decide) only [gen0, gen1, gen2, rulesC, litR, bolR, Nat.reduceAdd, Nat.reduceLeDiff, numR, memR, valR, heapR, updR, intR, decR, extR, slR, segR, thenR, pnR, Int.reduceToNat, Int.reduceAdd, Int.reduceSub, Int.reduceLT, Int.reduceLE, Nat.reduceSub, Nat.reduceMul, Nat.reduceEqDiff]
    exact rwhole2_spec hk fun w2 hx2 => ⟨rfl, keep _ _ h hx2⟩) hK
  have Cd : ∀ K : Value → Prop, K (.string (strOfNums (digs 16 e.pc))) → iN Try.prog I (callN (.func (.func 32) #[] #[]) #[.int .u64 e.pc, .int .u64 16]) K := fun K hK => iN.intro _ (fun w' h => by
    simp (disch := first | assumption | omega | (simp only [szR, List.length_append, List.length_cons, List.length_nil, evC_len, evC_all] <;> omega) | rfl | decide) only [gen0, gen1, gen2, rulesC, litR, bolR, Nat.reduceAdd, Nat.reduceLeDiff, numR, memR, valR, heapR, updR, intR, decR, extR, slR, segR, thenR, pnR, Int.reduceToNat, Int.reduceAdd, Int.reduceSub, Int.reduceLT, Int.reduceLE, Nat.reduceSub, Nat.reduceMul, Nat.reduceEqDiff]
    exact rdigs_spec (b := 16) (.inr rfl) _ he.pc _ _ fun w2 hx2 => ⟨rfl, keep _ _ h hx2⟩) hK
  have Ct : ∀ K : Value → Prop, K (.string (strOfNums (tellL e.t e.m e.a))) → iN Try.prog I (callN (.func (.func 34) #[] #[]) #[.agg (cpC e.t e.m e.a).toArray]) K := fun K hK => iN.intro _ (fun w' h => by
    simp (disch := first | assumption | omega | (simp only [szR, List.length_append, List.length_cons, List.length_nil, evC_len, evC_all] <;> omega) | rfl | decide) only [gen0, gen1, gen2, rulesC, litR, bolR, Nat.reduceAdd, Nat.reduceLeDiff, numR, memR, valR, heapR, updR, intR, decR, extR, slR, segR, thenR, pnR, Int.reduceToNat, Int.reduceAdd, Int.reduceSub, Int.reduceLT, Int.reduceLE, Nat.reduceSub, Nat.reduceMul, Nat.reduceEqDiff]
    exact rtold_spec he.m he.a fun w2 hx2 => ⟨rfl, keep _ _ h hx2⟩) hK
  simp (disch := first | assumption | omega | (simp only [szR, List.length_append, List.length_cons, List.length_nil, evC_len, evC_all] <;> omega) | rfl | decide) only [gen0, gen1, gen2, rulesC, litR, bolR, Nat.reduceAdd, Nat.reduceLeDiff, numR, memR, valR, heapR, updR, intR, decR, extR, slR, segR, thenR, pnR, Int.reduceToNat, Int.reduceAdd, Int.reduceSub, Int.reduceLT, Int.reduceLE, Nat.reduceSub, Nat.reduceMul, Nat.reduceEqDiff]
  refine parR.intro I ?_ ?_
  · subst hI
    exact ⟨by (repeat first | assumption | exact Ext.refl | apply Ext.alloc | apply Ext.drew | (refine Ext.updN ?_ ?_; (focus first | omega | (simp only [szR] <;> omega))) | (refine Ext.updI ?_ ?_; (focus (simp; done)))), alloc_at rfl⟩
  simp (disch := first | assumption | omega | (simp only [szR, List.length_append, List.length_cons, List.length_nil, evC_len, evC_all] <;> omega) | rfl | decide) only [gen0, gen1, gen2, rulesC, litR, bolR, Nat.reduceAdd, Nat.reduceLeDiff, numR, memR, valR, heapR, updR, intR, decR, extR, slR, segR, thenR, pnR, Int.reduceToNat, Int.reduceAdd, Int.reduceSub, Int.reduceLT, Int.reduceLE, Nat.reduceSub, Nat.reduceMul, Nat.reduceEqDiff]
  refine Li 0 _ hat.1 _ ?_
  refine Cw _ he.p _ ?_
  simp (disch := first | assumption | omega | (simp only [szR, List.length_append, List.length_cons, List.length_nil, evC_len, evC_all] <;> omega) | rfl | decide) only [gen0, gen1, gen2, rulesC, litR, bolR, Nat.reduceAdd, Nat.reduceLeDiff, numR, memR, valR, heapR, updR, intR, decR, extR, slR, segR, thenR, pnR, Int.reduceToNat, Int.reduceAdd, Int.reduceSub, Int.reduceLT, Int.reduceLE, Nat.reduceSub, Nat.reduceMul, Nat.reduceEqDiff, b112, b32, addN]
  refine Lp _ ?_
  refine Cd _ ?_
  simp (disch := first | assumption | omega | (simp only [szR, List.length_append, List.length_cons, List.length_nil, evC_len, evC_all] <;> omega) | rfl | decide) only [gen0, gen1, gen2, rulesC, litR, bolR, Nat.reduceAdd, Nat.reduceLeDiff, numR, memR, valR, heapR, updR, intR, decR, extR, slR, segR, thenR, pnR, Int.reduceToNat, Int.reduceAdd, Int.reduceSub, Int.reduceLT, Int.reduceLE, Nat.reduceSub, Nat.reduceMul, Nat.reduceEqDiff, b112, b32, addN]
  refine allI_intro fun w' h => hJ0 _ _ ?_
  clear hJ0
  obtain ⟨hx, c⟩ := hu w' h
  have hhd : [112] ++ whoL e.p ++ [32] ++ digs 16 e.pc ++ [32] = headL e := rfl
  rw [hhd]
  intro _
  by_cases h0 : e.k = 0
  · have et : txL e = headL e ++ instL e.op ++ [32] ++ tellL e.t e.m e.a ++ [10] := by rw [txL, if_pos h0]
    rw [et] at hK
    simp (disch := first | assumption | omega | (simp only [szR, List.length_append, List.length_cons, List.length_nil, evC_len, evC_all] <;> omega) | rfl | decide) only [gen0, gen1, gen2, rulesC, litR, bolR, Nat.reduceAdd, Nat.reduceLeDiff, numR, memR, valR, heapR, updR, intR, decR, extR, slR, segR, thenR, pnR, Int.reduceToNat, Int.reduceAdd, Int.reduceSub, Int.reduceLT, Int.reduceLE, Nat.reduceSub, Nat.reduceMul, Nat.reduceEqDiff, c, hat]
    refine rows33_spec fun bb w1 hx1 hb => ?_
    have c1 := hx1.at c (by simp)
    have hxw := hx.trans hx1 (by simp)
    refine joinL.intro fun J2 hJ2 => ?_
    have fin : J2 [.string (strOfNums (instL e.op))] w1 := by
      refine hJ2 _ _ ?_
      intro _
      simp (disch := first | assumption | omega | (simp only [szR, List.length_append, List.length_cons, List.length_nil, evC_len, evC_all] <;> omega) | rfl | decide) only [gen0, gen1, gen2, rulesC, litR, bolR, Nat.reduceAdd, Nat.reduceLeDiff, numR, memR, valR, heapR, updR, intR, decR, extR, slR, segR, thenR, pnR, Int.reduceToNat, Int.reduceAdd, Int.reduceSub, Int.reduceLT, Int.reduceLE, Nat.reduceSub, Nat.reduceMul, Nat.reduceEqDiff, c1, evC_cap, b32, b10, addN]
      refine rtold_spec he.m he.a fun w2 hx2 => ?_
      simp (disch := first | assumption | omega | (simp only [szR, List.length_append, List.length_cons, List.length_nil, evC_len, evC_all] <;> omega) | rfl | decide) only [gen0, gen1, gen2, rulesC, litR, bolR, Nat.reduceAdd, Nat.reduceLeDiff, numR, memR, valR, heapR, updR, intR, decR, extR, slR, segR, thenR, pnR, Int.reduceToNat, Int.reduceAdd, Int.reduceSub, Int.reduceLT, Int.reduceLE, Nat.reduceSub, Nat.reduceMul, Nat.reduceEqDiff, b32, b10, addN]
      exact hK _ (hxw.trans hx2 (by simp))
    by_cases hr : 1 ≤ e.op ∧ e.op ≤ 69
    · have en : instL e.op = (rowT.getD (e.op - 1).toNat ([], 0, 0, 0, 0)).1 := by rw [instL, if_pos hr]
      have hg : (instC .u32)[(e.op - 1).toNat * 5]? = some (.string (strOfNums (instL e.op))) := by
        have := instC_get (u := .u32) (i := (e.op - 1).toNat) (by omega)
        have h2 : (sub (instC .u32) ((e.op - 1).toNat * 5) 5)[0]? = (instC .u32)[(e.op - 1).toNat * 5]? := by simp [sub, List.getElem?_take, List.getElem?_drop]
        rw [← h2, this, en]
        rfl
      have hr1 := hr.1
      have hr2 := hr.2
      simp (disch := first | assumption | omega | (simp only [szR, List.length_append, List.length_cons, List.length_nil, evC_len, evC_all] <;> omega) | rfl | decide) only [gen0, gen1, gen2, rulesC, litR, bolR, Nat.reduceAdd, Nat.reduceLeDiff, numR, memR, valR, heapR, updR, intR, decR, extR, slR, segR, thenR, pnR, Int.reduceToNat, Int.reduceAdd, Int.reduceSub, Int.reduceLT, Int.reduceLE, Nat.reduceSub, Nat.reduceMul, Nat.reduceEqDiff, joinBR, c1, hat, hb, hg]
      exact fin
    · have en : instL e.op = [] := by rw [instL, if_neg hr]
      rw [en] at fin
      by_cases h1 : 1 ≤ e.op
      · have h2 : ¬ e.op ≤ 69 := by omega
        simp (disch := first | assumption | omega | (simp only [szR, List.length_append, List.length_cons, List.length_nil, evC_len, evC_all] <;> omega) | rfl | decide) only [gen0, gen1, gen2, rulesC, litR, bolR, Nat.reduceAdd, Nat.reduceLeDiff, numR, memR, valR, heapR, updR, intR, decR, extR, slR, segR, thenR, pnR, Int.reduceToNat, Int.reduceAdd, Int.reduceSub, Int.reduceLT, Int.reduceLE, Nat.reduceSub, Nat.reduceMul, Nat.reduceEqDiff, joinBR, c1, hat, b0]
        exact fin
      · simp (disch := first | assumption | omega | (simp only [szR, List.length_append, List.length_cons, List.length_nil, evC_len, evC_all] <;> omega) | rfl | decide) only [gen0, gen1, gen2, rulesC, litR, bolR, Nat.reduceAdd, Nat.reduceLeDiff, numR, memR, valR, heapR, updR, intR, decR, extR, slR, segR, thenR, pnR, Int.reduceToNat, Int.reduceAdd, Int.reduceSub, Int.reduceLT, Int.reduceLE, Nat.reduceSub, Nat.reduceMul, Nat.reduceEqDiff, joinBR, c1, hat, b0]
        exact fin
  by_cases h1 : e.k = 1
  · have et : txL e = headL e ++ [99, 97, 108, 108, 32] ++ whoL e.op ++ [32] ++ whoL e.code ++ [32] ++ tellL e.t e.m e.a ++ [10] := by rw [txL, if_neg h0, if_pos h1]
    rw [et] at hK
    simp (disch := first | assumption | omega | (simp only [szR, List.length_append, List.length_cons, List.length_nil, evC_len, evC_all] <;> omega) | rfl | decide) only [gen0, gen1, gen2, rulesC, litR, bolR, Nat.reduceAdd, Nat.reduceLeDiff, numR, memR, valR, heapR, updR, intR, decR, extR, slR, segR, thenR, pnR, Int.reduceToNat, Int.reduceAdd, Int.reduceSub, Int.reduceLT, Int.reduceLE, Nat.reduceSub, Nat.reduceMul, Nat.reduceEqDiff, c, hat]
    refine parR.intro I (keep _ _ h (by (repeat first | assumption | exact Ext.refl | apply Ext.alloc | apply Ext.drew | (refine Ext.updN ?_ ?_; (focus first | omega | (simp only [szR] <;> omega))) | (refine Ext.updI ?_ ?_; (focus (simp; done)))))) ?_
    simp (disch := first | assumption | omega | (simp only [szR, List.length_append, List.length_cons, List.length_nil, evC_len, evC_all] <;> omega) | rfl | decide) only [gen0, gen1, gen2, rulesC, litR, bolR, Nat.reduceAdd, Nat.reduceLeDiff, numR, memR, valR, heapR, updR, intR, decR, extR, slR, segR, thenR, pnR, Int.reduceToNat, Int.reduceAdd, Int.reduceSub, Int.reduceLT, Int.reduceLE, Nat.reduceSub, Nat.reduceMul, Nat.reduceEqDiff, bCallS, addN]
    refine Li 3 _ hat.2.2.2.1 _ ?_
    refine Cw _ he.op _ ?_
    simp (disch := first | assumption | omega | (simp only [szR, List.length_append, List.length_cons, List.length_nil, evC_len, evC_all] <;> omega) | rfl | decide) only [gen0, gen1, gen2, rulesC, litR, bolR, Nat.reduceAdd, Nat.reduceLeDiff, numR, memR, valR, heapR, updR, intR, decR, extR, slR, segR, thenR, pnR, Int.reduceToNat, Int.reduceAdd, Int.reduceSub, Int.reduceLT, Int.reduceLE, Nat.reduceSub, Nat.reduceMul, Nat.reduceEqDiff, b32, addN]
    refine Li 4 _ hat.2.2.2.2 _ ?_
    refine Cw _ he.code _ ?_
    simp (disch := first | assumption | omega | (simp only [szR, List.length_append, List.length_cons, List.length_nil, evC_len, evC_all] <;> omega) | rfl | decide) only [gen0, gen1, gen2, rulesC, litR, bolR, Nat.reduceAdd, Nat.reduceLeDiff, numR, memR, valR, heapR, updR, intR, decR, extR, slR, segR, thenR, pnR, Int.reduceToNat, Int.reduceAdd, Int.reduceSub, Int.reduceLT, Int.reduceLE, Nat.reduceSub, Nat.reduceMul, Nat.reduceEqDiff, b32, addN]
    refine Lc _ ?_
    refine Ct _ ?_
    simp (disch := first | assumption | omega | (simp only [szR, List.length_append, List.length_cons, List.length_nil, evC_len, evC_all] <;> omega) | rfl | decide) only [gen0, gen1, gen2, rulesC, litR, bolR, Nat.reduceAdd, Nat.reduceLeDiff, numR, memR, valR, heapR, updR, intR, decR, extR, slR, segR, thenR, pnR, Int.reduceToNat, Int.reduceAdd, Int.reduceSub, Int.reduceLT, Int.reduceLE, Nat.reduceSub, Nat.reduceMul, Nat.reduceEqDiff, b10, addN]
    exact allI_intro fun w' h => hK _ (hu _ h).1
  by_cases h2 : e.k = 2
  · have et : txL e = headL e ++ [101, 110, 100, 32] ++ whoL e.code ++ [10] := by rw [txL, if_neg h0, if_neg h1, if_pos h2]
    rw [et] at hK
    simp (disch := first | assumption | omega | (simp only [szR, List.length_append, List.length_cons, List.length_nil, evC_len, evC_all] <;> omega) | rfl | decide) only [gen0, gen1, gen2, rulesC, litR, bolR, Nat.reduceAdd, Nat.reduceLeDiff, numR, memR, valR, heapR, updR, intR, decR, extR, slR, segR, thenR, pnR, Int.reduceToNat, Int.reduceAdd, Int.reduceSub, Int.reduceLT, Int.reduceLE, Nat.reduceSub, Nat.reduceMul, Nat.reduceEqDiff, c, hat, bEndS, addN]
    refine rwhole2_spec he.code fun w2 hx2 => ?_
    simp (disch := first | assumption | omega | (simp only [szR, List.length_append, List.length_cons, List.length_nil, evC_len, evC_all] <;> omega) | rfl | decide) only [gen0, gen1, gen2, rulesC, litR, bolR, Nat.reduceAdd, Nat.reduceLeDiff, numR, memR, valR, heapR, updR, intR, decR, extR, slR, segR, thenR, pnR, Int.reduceToNat, Int.reduceAdd, Int.reduceSub, Int.reduceLT, Int.reduceLE, Nat.reduceSub, Nat.reduceMul, Nat.reduceEqDiff, b10, addN]
    exact hK _ (hx.trans hx2 (by simp))
  by_cases h3 : e.k = 3
  · have et : txL e = headL e ++ [107, 105, 108, 108, 32] ++ whoL e.code ++ [10] := by rw [txL, if_neg h0, if_neg h1, if_neg h2, if_pos h3]
    rw [et] at hK
    simp (disch := first | assumption | omega | (simp only [szR, List.length_append, List.length_cons, List.length_nil, evC_len, evC_all] <;> omega) | rfl | decide) only [gen0, gen1, gen2, rulesC, litR, bolR, Nat.reduceAdd, Nat.reduceLeDiff, numR, memR, valR, heapR, updR, intR, decR, extR, slR, segR, thenR, pnR, Int.reduceToNat, Int.reduceAdd, Int.reduceSub, Int.reduceLT, Int.reduceLE, Nat.reduceSub, Nat.reduceMul, Nat.reduceEqDiff, c, hat, bKillS, addN]
    refine rwhole2_spec he.code fun w2 hx2 => ?_
    simp (disch := first | assumption | omega | (simp only [szR, List.length_append, List.length_cons, List.length_nil, evC_len, evC_all] <;> omega) | rfl | decide) only [gen0, gen1, gen2, rulesC, litR, bolR, Nat.reduceAdd, Nat.reduceLeDiff, numR, memR, valR, heapR, updR, intR, decR, extR, slR, segR, thenR, pnR, Int.reduceToNat, Int.reduceAdd, Int.reduceSub, Int.reduceLT, Int.reduceLE, Nat.reduceSub, Nat.reduceMul, Nat.reduceEqDiff, b10, addN]
    exact hK _ (hx.trans hx2 (by simp))
  have et : txL e = headL e ++ [63, 10] := by rw [txL, if_neg h0, if_neg h1, if_neg h2, if_neg h3]
  rw [et] at hK
  simp (disch := first | assumption | omega | (simp only [szR, List.length_append, List.length_cons, List.length_nil, evC_len, evC_all] <;> omega) | rfl | decide) only [gen0, gen1, gen2, rulesC, litR, bolR, Nat.reduceAdd, Nat.reduceLeDiff, numR, memR, valR, heapR, updR, intR, decR, extR, slR, segR, thenR, pnR, Int.reduceToNat, Int.reduceAdd, Int.reduceSub, Int.reduceLT, Int.reduceLE, Nat.reduceSub, Nat.reduceMul, Nat.reduceEqDiff, c, hat, bQN, addN]
  exact hK _ hx
end Go.Proofs.Ytgnibcaflidjmaa
