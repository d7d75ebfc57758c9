/- An instruction's word, whatever it is; conditions: those of each theorem. -/
import Derived.Test.YtobkjnmdbkieeaaDoorAI3
namespace Go.Proofs.YtobkjnmdbkieeaaDoor
open Go.Fx
set_option maxRecDepth 100000
set_option linter.unusedSimpArgs false
set_option linter.unusedVariables false
theorem pN_pickE {P : Program} {c : Bool} {a b : Value} {K : Value → Prop} : pN P (pickN (.bool c) a b) K = K (if c then a else b) := by
  apply propext
  constructor
  · rintro ⟨v, h, hk⟩
    have h1 := h default
    have h2 : (pickN (.bool c) a b).run P default = .ok (.value (if c then a else b)) default := by cases c <;> rfl
    have h3 := h1.symm.trans h2
    have h4 : v = if c then a else b := by
      injection h3 with h4
      injection h4
    exact h4 ▸ hk
  · exact pN_pick
theorem gdPR : (∀ (A : (Value → Prop) → Prop) (K : Value → Prop), gdP (yb (.bool true)) true A K = A K) ∧ (∀ (A : (Value → Prop) → Prop) (K : Value → Prop), gdP (yb (.bool false)) false A K = A K) ∧ (∀ (A : (Value → Prop) → Prop) (K : Value → Prop), gdP (yb (.bool false)) true A K = K undef) ∧
    (∀ (A : (Value → Prop) → Prop) (K : Value → Prop), gdP (yb (.bool true)) false A K = K undef) ∧ (∀ (want : Bool) (A : (Value → Prop) → Prop) (K : Value → Prop), gdP (yb undef) want A K = K undef) :=
  ⟨fun _ _ => gdP_yes, fun _ _ => gdP_yes, fun _ _ => gdP_no1, fun _ _ => gdP_no2, fun _ _ _ => by simp [gdP, yb, undef]⟩
/-- an instruction. -/
structure IZ where
  op : Int
  rd : Int
  r1 : Int
  r2 : Int
  im : Int
deriving DecidableEq
def izC (i : IZ) : List Value := [.int .i64 i.op, .int .i64 i.rd, .int .i64 i.r1, .int .i64 i.r2, .int .i64 i.im]
theorem izC_len (i : IZ) : (izC i).length = 5 := by simp [izC]
theorem izC_all (i : IZ) : (izC i).all (fun v => v.oneCell') = true := by simp [izC]; exact ⟨rfl, rfl, rfl, rfl, rfl⟩
theorem izC_sub (i : IZ) : sub (izC i) 0 5 = izC i := rfl
def in64 (x : Int) : Prop := -9223372036854775808 ≤ x ∧ x < 9223372036854775808
def izOk (i : IZ) : Prop := in64 i.op ∧ in64 i.rd ∧ in64 i.r1 ∧ in64 i.r2 ∧ in64 i.im
def regsI (i : IZ) : List (Bool × Nat × Int) := let h := hasS (rowZ i.op).s; [(h.1, 7, i.rd), (h.2.1, 15, i.r1), (h.2.2, 20, i.r2)]
def okTr (t : Bool × Nat × Int) : Bool := !t.1 || fitsU t.2.2 5
def stepR (W : Nat) (t : Bool × Nat × Int) : Nat := if t.1 then putB W t.2.1 5 (un t.2.2) else W
def encOk (i : IZ) : Bool := let L := laidS (rowZ i.op).s; okOp i.op && fitsL L.1.length L.2.1 L.2.2.1 L.2.2.2 i.im && (regsI i).all okTr
def encW (i : IZ) : Nat := (regsI i).foldl stepR ((laidS (rowZ i.op).s).1.foldl (layB i.im) (fixW (rowZ i.op))) % 4294967296
def encR (i : IZ) : Nat := if encOk i then encW i else 0
theorem pcs_okA {s : Nat} (hs : shOk s) : ∀ p ∈ (laidS s).1, pcOk p := by
  have h : ∀ s ∈ [73, 67, 72, 83, 66, 85, 74, 82, 71, 78, 0], ((laidS s).1.all fun p => decide (0 < p.2.1 ∧ p.2.1 < 64 ∧ p.1 + p.2.1 ≤ 64 ∧ p.2.2 + p.2.1 ≤ 64)) = true := by decide
  intro p hp
  have := List.all_eq_true.1 (h s (by unfold shOk at hs; simp; omega)) p hp
  exact of_decide_eq_true (p := 0 < p.2.1 ∧ p.2.1 < 64 ∧ p.1 + p.2.1 ≤ 64 ∧ p.2.2 + p.2.1 ≤ 64) this
theorem laid_bits {s : Nat} (hs : shOk s) : (laidS s).1.length ≤ 4 ∧ (0 < (laidS s).1.length → 1 ≤ (laidS s).2.1 ∧ (laidS s).2.1 ≤ 63) ∧ (laidS s).2.2.2 < 64 ∧ ((laidS s).2.2.1 = true → 1 ≤ (laidS s).2.1 ∧ (laidS s).2.1 ≤ 64) := by
  have h : ∀ s ∈ [73, 67, 72, 83, 66, 85, 74, 82, 71, 78, 0], decide ((laidS s).1.length ≤ 4 ∧ (0 < (laidS s).1.length → 1 ≤ (laidS s).2.1 ∧ (laidS s).2.1 ≤ 63) ∧ (laidS s).2.2.2 < 64 ∧ ((laidS s).2.2.1 = true → 1 ≤ (laidS s).2.1 ∧ (laidS s).2.1 ≤ 64)) = true := by decide
  exact of_decide_eq_true (h s (by unfold shOk at hs; simp; omega))
theorem wrap_u32N (x : Nat) : IntKind.u32.wrap (x : Int) = ((x % 4294967296 : Nat) : Int) := by
  simp [IntKind.wrap, IntKind.signed, IntKind.bits]
def trC (t : Bool × Nat × Int) : List Value := [.bool t.1, .int .i64 (t.2.1 : Nat), .int .i64 t.2.2]
theorem trC_len (t : Bool × Nat × Int) : (trC t).length = 3 := by simp [trC]
theorem trC_all (t : Bool × Nat × Int) : (trC t).all (fun v => v.oneCell') = true := by simp [trC]; exact ⟨rfl, rfl, rfl⟩
theorem tr_over (t : Bool × Nat × Int) : splice [.bool false, .int .i64 0, .int .i64 0] 0 (trC t) = trC t := rfl
theorem tr_over2 (t : Bool × Nat × Int) : trC t ++ List.drop (trC t).length [.bool false, .int .i64 0, .int .i64 0] = trC t := by simp [trC]
theorem tr_ix (t1 t2 t3 t : Bool × Nat × Int) (k : Nat) (hk : [t1, t2, t3][k]? = some t) (w : World) : (Instr.index 58 (.agg (trC t1 ++ trC t2 ++ trC t3).toArray) (.int .i64 (k : Nat))).run Tryd.prog w = .ok (.agg (trC t).toArray) w := by
  have hl : k < 3 := by
    have := (List.getElem?_eq_some_iff.1 hk).1
    simpa using this
  have := run_indexN (P := Tryd.prog) (t := 58) (n := 3) (m := 3) Tryd.underlying58 Tryd.isAgg57 Tryd.sizeOf57 (trC t1 ++ trC t2 ++ trC t3) .i64 (k : Nat) w (by omega)
  rw [this, Int.toNat_natCast]
  match k, hk with
  | 0, hk => simp at hk; subst hk; simp [sub, trC]
  | 1, hk => simp at hk; subst hk; simp [sub, trC]
  | 2, hk => simp at hk; subst hk; simp [sub, trC]
set_option maxHeartbeats 2000000 in
theorem Encode_spec {w : World} {i : IZ} (hi : izOk i) {K : Value → World → Prop} (hK : ∀ w', Ext [] w w' → K (.tuple #[.int .u32 (encR i : Nat), .bool (encOk i)]) w') : callsK Tryd.prog 5 #[.agg (izC i).toArray] w K := by
  obtain ⟨ho, hrd, hr1, hr2, him⟩ := hi
  apply F5_ok
  unfold F5
  have i0 : (izC i)[0]? = some (.int .i64 i.op) := rfl
  have i1 : (izC i)[1]? = some (.int .i64 i.rd) := rfl
  have i2 : (izC i)[2]? = some (.int .i64 i.r1) := rfl
  have i3 : (izC i)[3]? = some (.int .i64 i.r2) := rfl
  have i4 : (izC i)[4]? = some (.int .i64 i.im) := rfl
  simp (disch := first | assumption | omega | (simp only [szR, rwC_len, rwC_all, pcC_len, pcC_all, loC_len, loC_all, izC_len, izC_all, trC_len, trC_all] <;> omega) | rfl | decide) only [gen0, gen1, gen2, rulesC, rulesX, litR, bolR, Nat.reduceAdd, Nat.reduceLeDiff, numR, memR, valR, heapR, updR, intR, decR, extR, slR, segR, thenR, pnR, Int.reduceToNat, Int.reduceAdd, Int.reduceSub, Int.reduceLT, Int.reduceLE, Nat.reduceSub, Nat.reduceMul, Nat.reduceEqDiff, izC_sub, i0]
  have g1 : (w.alloc (.cells (izC i).toArray 28)).heap[w.heap.size]? = some (.cells (izC i).toArray 28 (0, 0)) := alloc_at rfl
  have hx0 : Ext [] w (w.alloc (.cells (izC i).toArray 28)) := Ext.alloc Ext.refl _ _
  refine iofZ_spec ho fun w1 hx1 => ?_
  have hsh := rowZ_sh i.op
  have hpc := pcs_okA hsh
  obtain ⟨hb0, hb1, hb2, hb3⟩ := laid_bits hsh
  have hW0 : okOp i.op = true → rwOk (rowZ i.op) ∧ fixW (rowZ i.op) < 4294967296 := fun h => by
    unfold rowZ
    rw [h]
    unfold okOp at h
    rw [decide_eq_true_eq] at h
    have := row_good (k := (i.op - 1).toNat) (by omega)
    exact ⟨this.1, this.2.1⟩
  have hE : encOk i = (okOp i.op && fitsL (laidS (rowZ i.op).s).1.length (laidS (rowZ i.op).s).2.1 (laidS (rowZ i.op).s).2.2.1 (laidS (rowZ i.op).s).2.2.2 i.im && [((hasS (rowZ i.op).s).1, 7, i.rd), ((hasS (rowZ i.op).s).2.1, 15, i.r1), ((hasS (rowZ i.op).s).2.2, 20, i.r2)].all okTr) := rfl
  have hR : encR i = if encOk i then [((hasS (rowZ i.op).s).1, 7, i.rd), ((hasS (rowZ i.op).s).2.1, 15, i.r1), ((hasS (rowZ i.op).s).2.2, 20, i.r2)].foldl stepR ((laidS (rowZ i.op).s).1.foldl (layB i.im) (fixW (rowZ i.op))) % 4294967296 else 0 := rfl
  generalize encOk i = eo at *
  generalize encR i = er at *
  generalize rowZ i.op = rw0 at *
  generalize okOp i.op = oo at *
  have hL : ∀ (w : World) (K : Value → World → Prop), (∀ a c w', RowsAt w' (.slice a (laidS rw0.s).1.length c) 3 ((laidS rw0.s).1.map pcC) → Ext [] w w' → K (.agg (loC (.slice a (laidS rw0.s).1.length c) (laidS rw0.s).2.1 (laidS rw0.s).2.2.1 (laidS rw0.s).2.2.2).toArray) w') → callsK Tryd.prog 13 #[.int .u8 (rw0.s : Nat)] w K := fun w K h => laidG_spec hsh fun a n c w' hn hv hx => by subst hn; exact h a c w' hv hx
  have r1 : (rwC rw0)[1]? = some (.int .u8 (rw0.s : Nat)) := rfl
  have rsb : sub (rwC rw0) 0 5 = rwC rw0 := rfl
  have g1a := hx1.at g1 (by simp)
  replace hx0 := hx0.trans hx1 (by simp)
  have lg1 := lt_of_at g1a
  simp (disch := first | assumption | omega | (simp only [szR, rwC_len, rwC_all, pcC_len, pcC_all, loC_len, loC_all, izC_len, izC_all, trC_len, trC_all] <;> omega) | rfl | decide) only [gen0, gen1, gen2, rulesC, rulesX, litR, bolR, Nat.reduceAdd, Nat.reduceLeDiff, numR, memR, valR, heapR, updR, intR, decR, extR, slR, segR, thenR, pnR, Int.reduceToNat, Int.reduceAdd, Int.reduceSub, Int.reduceLT, Int.reduceLE, Nat.reduceSub, Nat.reduceMul, Nat.reduceEqDiff, rw_over, rw_put]
  refine joinL.intro fun J0 hJ0 => ?_
  have hx2 : Ext [] w1 (w1.alloc (.cells (rwC rw0).toArray 44)).drew := by (repeat first | assumption | exact Ext.refl | apply Ext.alloc | apply Ext.drew | (refine Ext.updN ?_ ?_; (focus first | omega | (simp only [szR] <;> omega))) | (refine Ext.updI ?_ ?_; (focus (simp; done))))
  have g4 : (w1.alloc (.cells (rwC rw0).toArray 44)).drew.heap[w1.heap.size]? = some (.cells (rwC rw0).toArray 44 (0, 0)) := alloc_at rfl
  have g1b := hx2.at g1a (by simp)
  replace hx0 := hx0.trans hx2 (by simp)
  have hbad : ∀ w2, eo = false → Ext [] (w1.alloc (.cells (rwC rw0).toArray 44)).drew w2 → J0 [.bool true] w2 := by
    intro w2 he hx3
    apply hJ0
    intro _
    rw [he] at hR hK
    rw [hR] at hK
    refine .inl ⟨rfl, ?_⟩
    exact hK _ (hx0.trans hx3 (by simp))
  cases hoo : oo with
  | false =>
    rw [hoo] at hE
    have he : eo = false := hE
    simp (disch := first | assumption | omega | (simp only [szR, rwC_len, rwC_all, pcC_len, pcC_all, loC_len, loC_all, izC_len, izC_all, trC_len, trC_all] <;> omega) | rfl | decide) only [gen0, gen1, gen2, rulesC, rulesX, litR, bolR, Nat.reduceAdd, Nat.reduceLeDiff, numR, memR, valR, heapR, updR, intR, decR, extR, slR, segR, thenR, pnR, Int.reduceToNat, Int.reduceAdd, Int.reduceSub, Int.reduceLT, Int.reduceLE, Nat.reduceSub, Nat.reduceMul, Nat.reduceEqDiff, gdPR, pN_pickE, Bool.not_false, if_true]
    exact ⟨⟨hbad _ he Ext.refl, hbad _ he Ext.refl⟩, hbad _ he Ext.refl⟩
  | true =>
    rw [hoo] at hE hW0
    rw [Bool.true_and] at hE
    obtain ⟨ok, hw0⟩ := hW0 rfl
    have hfits : ∀ (a : Option Addr) (c : Nat) (w4 : World) (K : Value → World → Prop), (∀ w5, Ext [] w4 w5 → K (.bool (fitsL (laidS rw0.s).1.length (laidS rw0.s).2.1 (laidS rw0.s).2.2.1 (laidS rw0.s).2.2.2 i.im)) w5) → callsK Tryd.prog 14 #[.agg (loC (.slice a (laidS rw0.s).1.length c) (laidS rw0.s).2.1 (laidS rw0.s).2.2.1 (laidS rw0.s).2.2.2).toArray, .int .i64 i.im] w4 K := fun a c w4 K h => fitsG_spec hb0 hb1 hb2 him h
    have hlay : ∀ (a : Option Addr) (c : Nat) (w4 : World) (K : Value → World → Prop), RowsAt w4 (.slice a (laidS rw0.s).1.length c) 3 ((laidS rw0.s).1.map pcC) → (∀ w5, Ext [] w4 w5 → K (.int .u64 ((laidS rw0.s).1.foldl (layB i.im) (fixW rw0) : Nat)) w5) → callsK Tryd.prog 17 #[.agg (loC (.slice a (laidS rw0.s).1.length c) (laidS rw0.s).2.1 (laidS rw0.s).2.2.1 (laidS rw0.s).2.2.2).toArray, .int .u64 (fixW rw0 : Nat), .int .i64 i.im] w4 K := fun a c w4 K hv h => layG_spec hv hpc (by omega) h
    have hl1 : (laidS rw0.s).1.foldl (layB i.im) (fixW rw0) < 18446744073709551616 := layB_lt hpc (by omega)
    generalize fitsL (laidS rw0.s).1.length (laidS rw0.s).2.1 (laidS rw0.s).2.2.1 (laidS rw0.s).2.2.2 i.im = fo at *
    generalize (laidS rw0.s).1.foldl (layB i.im) (fixW rw0) = W1 at *
    have hend : ∀ w2, fo = true → Ext [] (w1.alloc (.cells (rwC rw0).toArray 44)).drew w2 → J0 [.bool false] w2 := by
      intro w2 hfo hx3
      rw [hfo, Bool.true_and] at hE
      apply hJ0
      intro _
      have k1 := hx3.at g1b (by simp)
      have k4 := hx3.at g4 (by simp)
      have hxa := hx0.trans hx3 (by simp)
      refine .inr ⟨rfl, ?_⟩
      simp (disch := first | assumption | omega | (simp only [szR, rwC_len, rwC_all, pcC_len, pcC_all, loC_len, loC_all, izC_len, izC_all, trC_len, trC_all] <;> omega) | rfl | decide) only [gen0, gen1, gen2, rulesC, rulesX, litR, bolR, Nat.reduceAdd, Nat.reduceLeDiff, numR, memR, valR, heapR, updR, intR, decR, extR, slR, segR, thenR, pnR, Int.reduceToNat, Int.reduceAdd, Int.reduceSub, Int.reduceLT, Int.reduceLE, Nat.reduceSub, Nat.reduceMul, Nat.reduceEqDiff, k4, rsb, List.getD_cons_zero]
      refine fixed_spec ok fun w3 hx4 => ?_
      have m1 := hx4.at k1 (by simp)
      have m4 := hx4.at k4 (by simp)
      have hxb := hxa.trans hx4 (by simp)
      simp (disch := first | assumption | omega | (simp only [szR, rwC_len, rwC_all, pcC_len, pcC_all, loC_len, loC_all, izC_len, izC_all, trC_len, trC_all] <;> omega) | rfl | decide) only [gen0, gen1, gen2, rulesC, rulesX, litR, bolR, Nat.reduceAdd, Nat.reduceLeDiff, numR, memR, valR, heapR, updR, intR, decR, extR, slR, segR, thenR, pnR, Int.reduceToNat, Int.reduceAdd, Int.reduceSub, Int.reduceLT, Int.reduceLE, Nat.reduceSub, Nat.reduceMul, Nat.reduceEqDiff, m4, r1]
      refine hasG_spec hsh ?_
      obtain ⟨t1, ht1⟩ : ∃ t : Bool × Nat × Int, t = ((hasS rw0.s).1, 7, i.rd) := ⟨_, rfl⟩
      obtain ⟨t2, ht2⟩ : ∃ t : Bool × Nat × Int, t = ((hasS rw0.s).2.1, 15, i.r1) := ⟨_, rfl⟩
      obtain ⟨t3, ht3⟩ : ∃ t : Bool × Nat × Int, t = ((hasS rw0.s).2.2, 20, i.r2) := ⟨_, rfl⟩
      rw [← ht1, ← ht2, ← ht3] at hE hR
      simp (disch := first | assumption | omega | (simp only [szR, rwC_len, rwC_all, pcC_len, pcC_all, loC_len, loC_all, izC_len, izC_all, trC_len, trC_all] <;> omega) | rfl | decide) only [gen0, gen1, gen2, rulesC, rulesX, litR, bolR, Nat.reduceAdd, Nat.reduceLeDiff, numR, memR, valR, heapR, updR, intR, decR, extR, slR, segR, thenR, pnR, Int.reduceToNat, Int.reduceAdd, Int.reduceSub, Int.reduceLT, Int.reduceLE, Nat.reduceSub, Nat.reduceMul, Nat.reduceEqDiff]
      refine joinL.intro fun J2 hJ2 => ?_
      have lm1 := lt_of_at m1
      have lm4 := lt_of_at m4
      have hend2 : ∀ w4, Ext [] w3 w4 → J2 [.int .u64 (W1 : Nat)] w4 := by
        intro w4 hx5
        apply hJ2
        intro _
        have n1 := hx5.at m1 (by simp)
        have hxc := hxb.trans hx5 (by simp)
        have hb1 : ∀ (t : Bool) (a r : Int) w, (Instr.build 57 #[(0, .bool t), (1, .int .i64 a), (2, .int .i64 r)]).run Tryd.prog w = .ok (.agg [.bool t, .int .i64 a, .int .i64 r].toArray) w := fun t a r w => run_build w 57 _ _ (by kernel_rfl)
        have hb3 : ∀ (t t' t'' : Bool) (a r a' r' a'' r'' : Int) w, (Instr.build 58 #[(0, .agg [.bool t, .int .i64 a, .int .i64 r].toArray), (1, .agg [.bool t', .int .i64 a', .int .i64 r'].toArray), (2, .agg [.bool t'', .int .i64 a'', .int .i64 r''].toArray)]).run Tryd.prog w = .ok (.agg [.bool t, .int .i64 a, .int .i64 r, .bool t', .int .i64 a', .int .i64 r', .bool t'', .int .i64 a'', .int .i64 r''].toArray) w := fun t t' t'' a r a' r' a'' r'' w => run_build w 58 _ _ (by kernel_rfl)
        simp (disch := first | assumption | omega | (simp only [szR, rwC_len, rwC_all, pcC_len, pcC_all, loC_len, loC_all, izC_len, izC_all, trC_len, trC_all] <;> omega) | rfl | decide) only [gen0, gen1, gen2, rulesC, rulesX, litR, bolR, Nat.reduceAdd, Nat.reduceLeDiff, numR, memR, valR, heapR, updR, intR, decR, extR, slR, segR, thenR, pnR, Int.reduceToNat, Int.reduceAdd, Int.reduceSub, Int.reduceLT, Int.reduceLE, Nat.reduceSub, Nat.reduceMul, Nat.reduceEqDiff, n1, i1, i2, i3, hb1, hb3, List.getD_cons_zero]
        have hag : [.bool (hasS rw0.s).1, .int .i64 7, .int .i64 i.rd, .bool (hasS rw0.s).2.1, .int .i64 15, .int .i64 i.r1, .bool (hasS rw0.s).2.2, .int .i64 20, .int .i64 i.r2] = trC t1 ++ trC t2 ++ trC t3 := by rw [ht1, ht2, ht3]; rfl
        rw [hag]
        have hgood : ∀ t ∈ [t1, t2, t3], t.2.1 ≤ 20 ∧ in64 t.2.2 := by
          intro t ht
          simp only [List.mem_cons, List.mem_nil_iff, or_false] at ht
          rcases ht with rfl | rfl | rfl
          · rw [ht1]; exact ⟨show 7 ≤ 20 by decide, hrd⟩
          · rw [ht2]; exact ⟨show 15 ≤ 20 by decide, hr1⟩
          · rw [ht3]; exact ⟨show 20 ≤ 20 by decide, hr2⟩
        have hix := tr_ix t1 t2 t3
        clear ht1 ht2 ht3 hag hb1 hb3
        obtain ⟨ts, hts⟩ : ∃ ts, ts = [t1, t2, t3] := ⟨_, rfl⟩
        have htl : ts.length = 3 := by rw [hts]; rfl
        rw [← hts] at hE hR hgood hix
        generalize trC t1 ++ trC t2 ++ trC t3 = ag at *
        clear hts
        refine loopT.intro (fun st w' => ∃ (k : Nat), k ≤ 3 ∧ st = [.int .u64 ((ts.take k).foldl stepR W1 : Nat), .int .i64 (k : Nat)] ∧ (ts.take k).all okTr = true ∧ (ts.take k).foldl stepR W1 < 18446744073709551616 ∧ Ext [] w w')
          (fun st _ => match st with
            | [_, .int _ z] => 3 - z.toNat
            | _ => 0) ⟨0, by omega, rfl, rfl, hl1, hxc⟩ ?_
        rintro st w5 ⟨k, hk, rfl, hall, hlt, hx5⟩ _
        by_cases h4 : k < 3
        · obtain ⟨t, htk⟩ : ∃ t, ts[k]? = some t := ⟨_, List.getElem?_eq_getElem (by omega)⟩
          have hix2 := hix t k htk
          obtain ⟨hg1, hg2⟩ := hgood t (List.mem_of_getElem? htk)
          have hnx : (ts.take (k + 1)).foldl stepR W1 = stepR ((ts.take k).foldl stepR W1) t := by
            rw [List.take_add_one, htk, List.foldl_append]
            rfl
          have hna : (ts.take (k + 1)).all okTr = okTr t := by
            rw [List.take_add_one, htk, List.all_append, hall]
            simp
          generalize (ts.take k).foldl stepR W1 = Wk at *
          have q0 : (trC t)[0]? = some (.bool t.1) := rfl
          have q1 : (trC t)[1]? = some (.int .i64 (t.2.1 : Nat)) := rfl
          have q2 : (trC t)[2]? = some (.int .i64 t.2.2) := rfl
          simp (disch := first | assumption | omega | (simp only [szR, rwC_len, rwC_all, pcC_len, pcC_all, loC_len, loC_all, izC_len, izC_all, trC_len, trC_all] <;> omega) | rfl | decide) only [gen0, gen1, gen2, rulesC, rulesX, litR, bolR, Nat.reduceAdd, Nat.reduceLeDiff, numR, memR, valR, heapR, updR, intR, decR, extR, slR, segR, thenR, pnR, Int.reduceToNat, Int.reduceAdd, Int.reduceSub, Int.reduceLT, Int.reduceLE, Nat.reduceSub, Nat.reduceMul, Nat.reduceEqDiff, List.getD_cons_zero, List.getD_cons_succ]
          refine joinL.intro fun J6 hJ6 => ?_
          have hxl : Ext [] w5 (w5.alloc (.cells (trC t).toArray 57)) := Ext.alloc Ext.refl _ _
          have hgo : ∀ w6, okTr t = true → stepR Wk t < 18446744073709551616 → Ext [] w5 w6 → J6 [.int .u64 (stepR Wk t : Nat)] w6 := by
            intro w6 ha hb hx6
            apply hJ6
            intro _
            rw [← hnx] at hb ⊢
            simp (disch := first | assumption | omega | (simp only [szR, rwC_len, rwC_all, pcC_len, pcC_all, loC_len, loC_all, izC_len, izC_all, trC_len, trC_all] <;> omega) | rfl | decide) only [gen0, gen1, gen2, rulesC, rulesX, litR, bolR, Nat.reduceAdd, Nat.reduceLeDiff, numR, memR, valR, heapR, updR, intR, decR, extR, slR, segR, thenR, pnR, Int.reduceToNat, Int.reduceAdd, Int.reduceSub, Int.reduceLT, Int.reduceLE, Nat.reduceSub, Nat.reduceMul, Nat.reduceEqDiff, List.getD_cons_zero, List.getD_cons_succ]
            exact ⟨⟨k + 1, by omega, rfl, hna.trans ha, hb, hx5.trans hx6 (by simp)⟩, by first | omega | (simp <;> omega)⟩
          have hno : ∀ w6, okTr t = false → Ext [] w5 w6 → K (.tuple #[.int .u32 0, .bool false]) w6 := by
            intro w6 ha hx6
            have : eo = false := by
              rw [hE, List.all_eq_false]
              exact ⟨t, List.mem_of_getElem? htk, by rw [ha]; decide⟩
            rw [this] at hR hK
            rw [hR] at hK
            exact hK _ (hx5.trans hx6 (by simp))
          have hwu := wrap_un t.2.2
          have hul := un_lt t.2.2
          unfold okTr stepR at hgo
          unfold okTr at hno
          generalize t.2.2 = tr at *
          generalize t.2.1 = ta at *
          cases ht : t.1 with
          | false =>
            rw [ht] at hgo q0
            simp (disch := first | assumption | omega | (simp only [szR, rwC_len, rwC_all, pcC_len, pcC_all, loC_len, loC_all, izC_len, izC_all, trC_len, trC_all] <;> omega) | rfl | decide) only [gen0, gen1, gen2, rulesC, rulesX, litR, bolR, Nat.reduceAdd, Nat.reduceLeDiff, numR, memR, valR, heapR, updR, intR, decR, extR, slR, segR, thenR, pnR, Int.reduceToNat, Int.reduceAdd, Int.reduceSub, Int.reduceLT, Int.reduceLE, Nat.reduceSub, Nat.reduceMul, Nat.reduceEqDiff, joinBR, hix2, q0, List.getD_cons_zero, List.getD_cons_succ, tr_over, tr_over2]
            exact hgo _ rfl hlt hxl
          | true =>
            rw [ht] at hgo hno q0
            simp (disch := first | assumption | omega | (simp only [szR, rwC_len, rwC_all, pcC_len, pcC_all, loC_len, loC_all, izC_len, izC_all, trC_len, trC_all] <;> omega) | rfl | decide) only [gen0, gen1, gen2, rulesC, rulesX, litR, bolR, Nat.reduceAdd, Nat.reduceLeDiff, numR, memR, valR, heapR, updR, intR, decR, extR, slR, segR, thenR, pnR, Int.reduceToNat, Int.reduceAdd, Int.reduceSub, Int.reduceLT, Int.reduceLE, Nat.reduceSub, Nat.reduceMul, Nat.reduceEqDiff, joinBR, hix2, q0, q1, q2, List.getD_cons_zero, List.getD_cons_succ, tr_over, tr_over2]
            refine FitsU_spec (b := 5) (by omega) hg2 ?_
            cases hf : fitsU tr 5 with
            | false =>
              rw [hf] at hno
              simp (disch := first | assumption | omega | (simp only [szR, rwC_len, rwC_all, pcC_len, pcC_all, loC_len, loC_all, izC_len, izC_all, trC_len, trC_all] <;> omega) | rfl | decide) only [gen0, gen1, gen2, rulesC, rulesX, litR, bolR, Nat.reduceAdd, Nat.reduceLeDiff, numR, memR, valR, heapR, updR, intR, decR, extR, slR, segR, thenR, pnR, Int.reduceToNat, Int.reduceAdd, Int.reduceSub, Int.reduceLT, Int.reduceLE, Nat.reduceSub, Nat.reduceMul, Nat.reduceEqDiff, joinBR, Bool.not_false, if_true]
              exact hno _ rfl hxl
            | true =>
              rw [hf] at hgo
              simp (disch := first | assumption | omega | (simp only [szR, rwC_len, rwC_all, pcC_len, pcC_all, loC_len, loC_all, izC_len, izC_all, trC_len, trC_all] <;> omega) | rfl | decide) only [gen0, gen1, gen2, rulesC, rulesX, litR, bolR, Nat.reduceAdd, Nat.reduceLeDiff, numR, memR, valR, heapR, updR, intR, decR, extR, slR, segR, thenR, pnR, Int.reduceToNat, Int.reduceAdd, Int.reduceSub, Int.reduceLT, Int.reduceLE, Nat.reduceSub, Nat.reduceMul, Nat.reduceEqDiff, joinBR, Bool.not_true, if_true, q0, q1, q2, hwu]
              refine fPutG_spec (by omega) (by omega) (by omega) hlt hul fun w7 hx7 => ?_
              exact hgo _ rfl (putB_lt hlt (by omega)) (hxl.trans hx7 (by simp))
        · obtain rfl : k = 3 := by omega
          have e3 : ts.take 3 = ts := by rw [List.take_of_length_le (by omega)]
          rw [e3] at hall hlt ⊢
          have : eo = true := by rw [hE, hall]
          rw [this, if_pos rfl] at hR
          rw [this] at hK
          have hu := wrap_u32N (ts.foldl stepR W1)
          rw [← hR] at hu
          simp (disch := first | assumption | omega | (simp only [szR, rwC_len, rwC_all, pcC_len, pcC_all, loC_len, loC_all, izC_len, izC_all, trC_len, trC_all] <;> omega) | rfl | decide) only [gen0, gen1, gen2, rulesC, rulesX, litR, bolR, Nat.reduceAdd, Nat.reduceLeDiff, numR, memR, valR, heapR, updR, intR, decR, extR, slR, segR, thenR, pnR, Int.reduceToNat, Int.reduceAdd, Int.reduceSub, Int.reduceLT, Int.reduceLE, Nat.reduceSub, Nat.reduceMul, Nat.reduceEqDiff, List.getD_cons_zero, List.getD_cons_succ, hu]
          exact hK _ hx5
      simp (disch := first | assumption | omega | (simp only [szR, rwC_len, rwC_all, pcC_len, pcC_all, loC_len, loC_all, izC_len, izC_all, trC_len, trC_all] <;> omega) | rfl | decide) only [gen0, gen1, gen2, rulesC, rulesX, litR, bolR, Nat.reduceAdd, Nat.reduceLeDiff, numR, memR, valR, heapR, updR, intR, decR, extR, slR, segR, thenR, pnR, Int.reduceToNat, Int.reduceAdd, Int.reduceSub, Int.reduceLT, Int.reduceLE, Nat.reduceSub, Nat.reduceMul, Nat.reduceEqDiff, gdPR, m1, m4, i4, r1]
      have hxd : Ext [] w3 w3.drew := by (repeat first | assumption | exact Ext.refl | apply Ext.alloc | apply Ext.drew | (refine Ext.updN ?_ ?_; (focus first | omega | (simp only [szR] <;> omega))) | (refine Ext.updI ?_ ?_; (focus (simp; done))))
      refine ⟨⟨?_, ?_⟩, ?_⟩
      · refine hL _ _ fun a c w4 hv hx5 => ?_
        have k1 := (hxd.trans hx5 (by simp)).at m1 (by simp)
        simp (disch := first | assumption | omega | (simp only [szR, rwC_len, rwC_all, pcC_len, pcC_all, loC_len, loC_all, izC_len, izC_all, trC_len, trC_all] <;> omega) | rfl | decide) only [gen0, gen1, gen2, rulesC, rulesX, litR, bolR, Nat.reduceAdd, Nat.reduceLeDiff, numR, memR, valR, heapR, updR, intR, decR, extR, slR, segR, thenR, pnR, Int.reduceToNat, Int.reduceAdd, Int.reduceSub, Int.reduceLT, Int.reduceLE, Nat.reduceSub, Nat.reduceMul, Nat.reduceEqDiff, k1, i4]
        refine hlay _ _ _ _ hv fun w5 hx6 => ?_
        exact hend2 _ ((hxd.trans hx5 (by simp)).trans hx6 (by simp))
      · refine hL _ _ fun a c w4 hv hx5 => ?_
        simp (disch := first | assumption | omega | (simp only [szR, rwC_len, rwC_all, pcC_len, pcC_all, loC_len, loC_all, izC_len, izC_all, trC_len, trC_all] <;> omega) | rfl | decide) only [gen0, gen1, gen2, rulesC, rulesX, litR, bolR, Nat.reduceAdd, Nat.reduceLeDiff, numR, memR, valR, heapR, updR, intR, decR, extR, slR, segR, thenR, pnR, Int.reduceToNat, Int.reduceAdd, Int.reduceSub, Int.reduceLT, Int.reduceLE, Nat.reduceSub, Nat.reduceMul, Nat.reduceEqDiff]
        refine hlay _ _ _ _ hv fun w5 hx6 => ?_
        exact hend2 _ ((hxd.trans hx5 (by simp)).trans hx6 (by simp))
      · refine hL _ _ fun a c w4 hv hx5 => ?_
        simp (disch := first | assumption | omega | (simp only [szR, rwC_len, rwC_all, pcC_len, pcC_all, loC_len, loC_all, izC_len, izC_all, trC_len, trC_all] <;> omega) | rfl | decide) only [gen0, gen1, gen2, rulesC, rulesX, litR, bolR, Nat.reduceAdd, Nat.reduceLeDiff, numR, memR, valR, heapR, updR, intR, decR, extR, slR, segR, thenR, pnR, Int.reduceToNat, Int.reduceAdd, Int.reduceSub, Int.reduceLT, Int.reduceLE, Nat.reduceSub, Nat.reduceMul, Nat.reduceEqDiff]
        refine hlay _ _ _ _ hv fun w5 hx6 => ?_
        exact hend2 _ ((hxd.trans hx5 (by simp)).trans hx6 (by simp))
    have hgo : ∀ w2, Ext [] (w1.alloc (.cells (rwC rw0).toArray 44)).drew w2 → J0 [.bool !fo] w2 := by
      intro w2 hx
      cases hfo : fo with
      | true => exact hend w2 hfo hx
      | false =>
        rw [hfo] at hE
        exact hbad w2 hE hx
    simp (disch := first | assumption | omega | (simp only [szR, rwC_len, rwC_all, pcC_len, pcC_all, loC_len, loC_all, izC_len, izC_all, trC_len, trC_all] <;> omega) | rfl | decide) only [gen0, gen1, gen2, rulesC, rulesX, litR, bolR, Nat.reduceAdd, Nat.reduceLeDiff, numR, memR, valR, heapR, updR, intR, decR, extR, slR, segR, thenR, pnR, Int.reduceToNat, Int.reduceAdd, Int.reduceSub, Int.reduceLT, Int.reduceLE, Nat.reduceSub, Nat.reduceMul, Nat.reduceEqDiff, gdPR, Bool.not_true, g1a, i4, r1]
    refine ⟨⟨?_, ?_⟩, ?_⟩
    · refine hL _ _ fun a c w3 hv hx3 => ?_
      have k1 := hx3.at g1b (by simp)
      simp (disch := first | assumption | omega | (simp only [szR, rwC_len, rwC_all, pcC_len, pcC_all, loC_len, loC_all, izC_len, izC_all, trC_len, trC_all] <;> omega) | rfl | decide) only [gen0, gen1, gen2, rulesC, rulesX, litR, bolR, Nat.reduceAdd, Nat.reduceLeDiff, numR, memR, valR, heapR, updR, intR, decR, extR, slR, segR, thenR, pnR, Int.reduceToNat, Int.reduceAdd, Int.reduceSub, Int.reduceLT, Int.reduceLE, Nat.reduceSub, Nat.reduceMul, Nat.reduceEqDiff, k1, i4, gdPR]
      refine hfits _ _ _ _ fun w4 hx4 => ?_
      simp (disch := first | assumption | omega | (simp only [szR, rwC_len, rwC_all, pcC_len, pcC_all, loC_len, loC_all, izC_len, izC_all, trC_len, trC_all] <;> omega) | rfl | decide) only [gen0, gen1, gen2, rulesC, rulesX, litR, bolR, Nat.reduceAdd, Nat.reduceLeDiff, numR, memR, valR, heapR, updR, intR, decR, extR, slR, segR, thenR, pnR, Int.reduceToNat, Int.reduceAdd, Int.reduceSub, Int.reduceLT, Int.reduceLE, Nat.reduceSub, Nat.reduceMul, Nat.reduceEqDiff, gdPR, Bool.not_true, pN_pickE, if_false]
      exact hgo _ (hx3.trans hx4 (by simp))
    · refine hL _ _ fun a c w3 hv hx3 => ?_
      have k1 := hx3.at g1b (by simp)
      simp (disch := first | assumption | omega | (simp only [szR, rwC_len, rwC_all, pcC_len, pcC_all, loC_len, loC_all, izC_len, izC_all, trC_len, trC_all] <;> omega) | rfl | decide) only [gen0, gen1, gen2, rulesC, rulesX, litR, bolR, Nat.reduceAdd, Nat.reduceLeDiff, numR, memR, valR, heapR, updR, intR, decR, extR, slR, segR, thenR, pnR, Int.reduceToNat, Int.reduceAdd, Int.reduceSub, Int.reduceLT, Int.reduceLE, Nat.reduceSub, Nat.reduceMul, Nat.reduceEqDiff, k1, i4, gdPR]
      refine hfits _ _ _ _ fun w4 hx4 => ?_
      simp (disch := first | assumption | omega | (simp only [szR, rwC_len, rwC_all, pcC_len, pcC_all, loC_len, loC_all, izC_len, izC_all, trC_len, trC_all] <;> omega) | rfl | decide) only [gen0, gen1, gen2, rulesC, rulesX, litR, bolR, Nat.reduceAdd, Nat.reduceLeDiff, numR, memR, valR, heapR, updR, intR, decR, extR, slR, segR, thenR, pnR, Int.reduceToNat, Int.reduceAdd, Int.reduceSub, Int.reduceLT, Int.reduceLE, Nat.reduceSub, Nat.reduceMul, Nat.reduceEqDiff, gdPR, Bool.not_true, pN_pickE, if_false]
      exact hgo _ (hx3.trans hx4 (by simp))
    · refine hL _ _ fun a c w3 hv hx3 => ?_
      have k1 := hx3.at g1b (by simp)
      simp (disch := first | assumption | omega | (simp only [szR, rwC_len, rwC_all, pcC_len, pcC_all, loC_len, loC_all, izC_len, izC_all, trC_len, trC_all] <;> omega) | rfl | decide) only [gen0, gen1, gen2, rulesC, rulesX, litR, bolR, Nat.reduceAdd, Nat.reduceLeDiff, numR, memR, valR, heapR, updR, intR, decR, extR, slR, segR, thenR, pnR, Int.reduceToNat, Int.reduceAdd, Int.reduceSub, Int.reduceLT, Int.reduceLE, Nat.reduceSub, Nat.reduceMul, Nat.reduceEqDiff, k1, i4, gdPR]
      refine hfits _ _ _ _ fun w4 hx4 => ?_
      simp (disch := first | assumption | omega | (simp only [szR, rwC_len, rwC_all, pcC_len, pcC_all, loC_len, loC_all, izC_len, izC_all, trC_len, trC_all] <;> omega) | rfl | decide) only [gen0, gen1, gen2, rulesC, rulesX, litR, bolR, Nat.reduceAdd, Nat.reduceLeDiff, numR, memR, valR, heapR, updR, intR, decR, extR, slR, segR, thenR, pnR, Int.reduceToNat, Int.reduceAdd, Int.reduceSub, Int.reduceLT, Int.reduceLE, Nat.reduceSub, Nat.reduceMul, Nat.reduceEqDiff, gdPR, Bool.not_true, pN_pickE, if_false]
      exact hgo _ (hx3.trans hx4 (by simp))
end Go.Proofs.YtobkjnmdbkieeaaDoor
