/- Part 4 of what the law AsmLists stands on: formulas of the functions that it reaches, and what each of them does; conditions: those of each theorem. -/
import Derived.Test.YtobkjnmdbkieeaaGreatDoorP3
set_option linter.unusedVariables false
set_option linter.unusedSimpArgs false
namespace Go.Proofs.YtobkjnmdbkieeaaGreatDoor
open Go.Fx
set_option maxRecDepth 100000
theorem pN_pickE {P : Program} {c : Bool} {a b : Value} {K : Value -> Prop} : pN P (pickN (.bool c) a b) K = K (if c then a else b) := by
 apply propext
 constructor
 ·rintro ⟨v, h, hk⟩
  have h1 := h default
  have h2 : (pickN (.bool c) a b).run P default = .ok (.value (if c then a else b)) default := by cases c <;> rfl
  have h3 := h1.symm.trans h2
  have h4 : v = if c then a else b := by
   injection h3 with h4
   injection h4
  exact h4 ▸ hk
 ·exact pN_pick
theorem gdPR : (∀ (A : (Value -> Prop) -> Prop) (K : Value -> Prop), gdP (yb (.bool true)) true A K = A K) /\ (∀ (A : (Value -> Prop) -> Prop) (K : Value -> Prop), gdP (yb (.bool false)) false A K = A K) /\ (∀ (A : (Value -> Prop) -> Prop) (K : Value -> Prop), gdP (yb (.bool false)) true A K = K undef) /\
  (∀ (A : (Value -> Prop) -> Prop) (K : Value -> Prop), gdP (yb (.bool true)) false A K = K undef) /\ (∀ (want : Bool) (A : (Value -> Prop) -> Prop) (K : Value -> Prop), gdP (yb undef) want A K = K undef) :=
 ⟨fun _ _ => gdP_yes, fun _ _ => gdP_yes, fun _ _ => gdP_no1, fun _ _ => gdP_no2, fun _ _ _ => by simp [gdP, yb, undef]⟩
/-- an instruction. -/
structure IZ where
 op : Int
 rd : Int
 r1 : Int
 r2 : Int
 im : Int
deriving DecidableEq
def izC (i : IZ) : List Value := [.int .i64 i.op, .int .i64 i.rd, .int .i64 i.r1, .int .i64 i.r2, .int .i64 i.im]
theorem izC_len (i : IZ) : (izC i).length = 5 := by simp [izC]
theorem izC_all (i : IZ) : (izC i).all (fun v => v.oneCell') = true := by simp [izC]; exact ⟨rfl, rfl, rfl, rfl, rfl⟩
theorem izC_sub (i : IZ) : sub (izC i) 0 5 = izC i := rfl
def in64 (x : Int) : Prop := -9223372036854775808 <= x /\ x < 9223372036854775808
def izOk (i : IZ) : Prop := in64 i.op /\ in64 i.rd /\ in64 i.r1 /\ in64 i.r2 /\ in64 i.im
def regsI (i : IZ) : List (Bool × Nat × Int) := let h := hasS (rowZ i.op).s; [(h.1, 7, i.rd), (h.2.1, 15, i.r1), (h.2.2, 20, i.r2)]
def okTr (t : Bool × Nat × Int) : Bool := !t.1 || fitsU t.2.2 5
def stepR (W : Nat) (t : Bool × Nat × Int) : Nat := if t.1 then putB W t.2.1 5 (un t.2.2) else W
def encOk (i : IZ) : Bool := let L := laidS (rowZ i.op).s; okOp i.op && fitsL L.1.length L.2.1 L.2.2.1 L.2.2.2 i.im && (regsI i).all okTr
def encW (i : IZ) : Nat := (regsI i).foldl stepR ((laidS (rowZ i.op).s).1.foldl (layB i.im) (fixW (rowZ i.op))) % 4294967296
def encR (i : IZ) : Nat := if encOk i then encW i else 0
theorem pcs_okA {s : Nat} (hs : shOk s) : ∀ p ∈ (laidS s).1, pcOk p := by
 have h : ∀ s ∈ [73, 67, 72, 83, 66, 85, 74, 82, 71, 78, 0], ((laidS s).1.all fun p => decide (0 < p.2.1 /\ p.2.1 < 64 /\ p.1 + p.2.1 <= 64 /\ p.2.2 + p.2.1 <= 64)) = true := by decide
 intro p hp
 have := List.all_eq_true.1 (h s (by unfold shOk at hs; simp; omega)) p hp
 exact of_decide_eq_true (p := 0 < p.2.1 /\ p.2.1 < 64 /\ p.1 + p.2.1 <= 64 /\ p.2.2 + p.2.1 <= 64) this
theorem laid_bits {s : Nat} (hs : shOk s) : (laidS s).1.length <= 4 /\ (0 < (laidS s).1.length -> 1 <= (laidS s).2.1 /\ (laidS s).2.1 <= 63) /\ (laidS s).2.2.2 < 64 /\ ((laidS s).2.2.1 = true -> 1 <= (laidS s).2.1 /\ (laidS s).2.1 <= 64) := by
 have h : ∀ s ∈ [73, 67, 72, 83, 66, 85, 74, 82, 71, 78, 0], decide ((laidS s).1.length <= 4 /\ (0 < (laidS s).1.length -> 1 <= (laidS s).2.1 /\ (laidS s).2.1 <= 63) /\ (laidS s).2.2.2 < 64 /\ ((laidS s).2.2.1 = true -> 1 <= (laidS s).2.1 /\ (laidS s).2.1 <= 64)) = true := by decide
 exact of_decide_eq_true (h s (by unfold shOk at hs; simp; omega))
theorem wrap_u32N (x : Nat) : IntKind.u32.wrap (x : Int) = ((x % 4294967296 : Nat) : Int) := by
 simp [IntKind.wrap, IntKind.signed, IntKind.bits]
def trC (t : Bool × Nat × Int) : List Value := [.bool t.1, .int .i64 (t.2.1 : Nat), .int .i64 t.2.2]
theorem trC_len (t : Bool × Nat × Int) : (trC t).length = 3 := by simp [trC]
theorem trC_all (t : Bool × Nat × Int) : (trC t).all (fun v => v.oneCell') = true := by simp [trC]; exact ⟨rfl, rfl, rfl⟩
theorem tr_over (t : Bool × Nat × Int) : splice [.bool false, .int .i64 0, .int .i64 0] 0 (trC t) = trC t := rfl
theorem tr_over2 (t : Bool × Nat × Int) : trC t ++ List.drop (trC t).length [.bool false, .int .i64 0, .int .i64 0] = trC t := by simp [trC]
theorem tr_ix (t1 t2 t3 t : Bool × Nat × Int) (k : Nat) (hk : [t1, t2, t3][k]? = some t) (w : World) : (Instr.index 129 (.agg (trC t1 ++ trC t2 ++ trC t3).toArray) (.int .i64 (k : Nat))).run Tryz.prog w = .ok (.agg (trC t).toArray) w := by
 have hl : k < 3 := by
  have := (List.getElem?_eq_some_iff.1 hk).1
  simpa using this
 have := run_indexN (P := Tryz.prog) (t := 129) (n := 3) (m := 3) Tryz.underlying129 Tryz.isAgg128 Tryz.sizeOf128 (trC t1 ++ trC t2 ++ trC t3) .i64 (k : Nat) w (by omega)
 rw [this, Int.toNat_natCast]
 match k, hk with
 | 0, hk => simp at hk; subst hk; simp [sub, trC]
 | 1, hk => simp at hk; subst hk; simp [sub, trC]
 | 2, hk => simp at hk; subst hk; simp [sub, trC]
theorem qZ4 : type_of% (And.intro @szR (And.intro @rwC_len (And.intro @rwC_all (And.intro @pcC_len (And.intro @pcC_all (And.intro @loC_len (And.intro @loC_all (And.intro @izC_len (And.intro @izC_all (And.intro @trC_len (@trC_all))))))))))) := ⟨@szR, @rwC_len, @rwC_all, @pcC_len, @pcC_all, @loC_len, @loC_all, @izC_len, @izC_all, @trC_len, @trC_all⟩
theorem qD4 {p : Prop} (h : p := by first | assumption | omega | (simp only [qZ4] <;> omega) | rfl | decide) : p := h
set_option maxHeartbeats 2000000 in
theorem Encode_spec {w : World} {i : IZ} (hi : izOk i) {K : Value -> World -> Prop} (hK : ∀ w', Ext [] w w' -> K (.tuple #[.int .u32 (encR i : Nat), .bool (encOk i)]) w') : callsK Tryz.prog 31 #[.agg (izC i).toArray] w K := by
 obtain ⟨ho, hrd, hr1, hr2, him⟩ := hi
 apply F31_ok
 unfold F31
 have i0 : (izC i)[0]? = some (.int .i64 i.op) := rfl
 have i1 : (izC i)[1]? = some (.int .i64 i.rd) := rfl
 have i2 : (izC i)[2]? = some (.int .i64 i.r1) := rfl
 have i3 : (izC i)[3]? = some (.int .i64 i.r2) := rfl
 have i4 : (izC i)[4]? = some (.int .i64 i.im) := rfl
 simp (disch := first | exact qD4 | fail) only [qG1, Nat.reduceAdd, Nat.reduceLeDiff, Int.reduceToNat, Int.reduceAdd, Int.reduceSub, Int.reduceLT, Int.reduceLE, Nat.reduceSub, Nat.reduceMul, Nat.reduceEqDiff, izC_sub, i0]
 have g1 : (w.alloc (.cells (izC i).toArray 25)).heap[w.heap.size]? = some (.cells (izC i).toArray 25 (0, 0)) := alloc_at rfl
 have hx0 : Ext [] w (w.alloc (.cells (izC i).toArray 25)) := Ext.alloc Ext.refl _ _
 refine iofZ_spec ho fun w1 hx1 => ?_
 have hsh := rowZ_sh i.op
 have hpc := pcs_okA hsh
 obtain ⟨hb0, hb1, hb2, hb3⟩ := laid_bits hsh
 have hW0 : okOp i.op = true -> rwOk (rowZ i.op) /\ fixW (rowZ i.op) < 4294967296 := fun h => by
  unfold rowZ
  rw [h]
  unfold okOp at h
  rw [decide_eq_true_eq] at h
  have := row_good (k := (i.op - 1).toNat) (by omega)
  exact ⟨this.1, this.2.1⟩
 have hE : encOk i = (okOp i.op && fitsL (laidS (rowZ i.op).s).1.length (laidS (rowZ i.op).s).2.1 (laidS (rowZ i.op).s).2.2.1 (laidS (rowZ i.op).s).2.2.2 i.im && [((hasS (rowZ i.op).s).1, 7, i.rd), ((hasS (rowZ i.op).s).2.1, 15, i.r1), ((hasS (rowZ i.op).s).2.2, 20, i.r2)].all okTr) := rfl
 have hR : encR i = if encOk i then [((hasS (rowZ i.op).s).1, 7, i.rd), ((hasS (rowZ i.op).s).2.1, 15, i.r1), ((hasS (rowZ i.op).s).2.2, 20, i.r2)].foldl stepR ((laidS (rowZ i.op).s).1.foldl (layB i.im) (fixW (rowZ i.op))) % 4294967296 else 0 := rfl
 generalize encOk i = eo at *
 generalize encR i = er at *
 generalize rowZ i.op = rw0 at *
 generalize okOp i.op = oo at *
 have hL : ∀ (w : World) (K : Value -> World -> Prop), (∀ a c w', RowsAt w' (.slice a (laidS rw0.s).1.length c) 3 ((laidS rw0.s).1.map pcC) -> Ext [] w w' -> K (.agg (loC (.slice a (laidS rw0.s).1.length c) (laidS rw0.s).2.1 (laidS rw0.s).2.2.1 (laidS rw0.s).2.2.2).toArray) w') -> callsK Tryz.prog 22 #[.int .u8 (rw0.s : Nat)] w K := fun w K h => laidG_spec hsh fun a n c w' hn hv hx => by subst hn; exact h a c w' hv hx
 have r1 : (rwC rw0)[1]? = some (.int .u8 (rw0.s : Nat)) := rfl
 have rsb : sub (rwC rw0) 0 5 = rwC rw0 := rfl
 have g1a := hx1.at g1 (by simp)
 replace hx0 := hx0.trans hx1 (by simp)
 have lg1 := lt_of_at g1a
 simp (disch := first | exact qD4 | fail) only [qG1, Nat.reduceAdd, Nat.reduceLeDiff, Int.reduceToNat, Int.reduceAdd, Int.reduceSub, Int.reduceLT, Int.reduceLE, Nat.reduceSub, Nat.reduceMul, Nat.reduceEqDiff, rw_over, rw_put]
 refine joinL.intro fun J0 hJ0 => ?_
 have hx2 : Ext [] w1 (w1.alloc (.cells (rwC rw0).toArray 57)).drew := qX
 have g4 : (w1.alloc (.cells (rwC rw0).toArray 57)).drew.heap[w1.heap.size]? = some (.cells (rwC rw0).toArray 57 (0, 0)) := alloc_at rfl
 have g1b := hx2.at g1a (by simp)
 replace hx0 := hx0.trans hx2 (by simp)
 have hbad : ∀ w2, eo = false -> Ext [] (w1.alloc (.cells (rwC rw0).toArray 57)).drew w2 -> J0 [.bool true] w2 := by
  intro w2 he hx3
  apply hJ0
  intro _
  rw [he] at hR hK
  rw [hR] at hK
  refine .inl ⟨rfl, ?_⟩
  exact hK _ (hx0.trans hx3 (by simp))
 cases hoo : oo with
 | false =>
  rw [hoo] at hE
  have he : eo = false := hE
  simp (disch := first | exact qD4 | fail) only [qG1, Nat.reduceAdd, Nat.reduceLeDiff, Int.reduceToNat, Int.reduceAdd, Int.reduceSub, Int.reduceLT, Int.reduceLE, Nat.reduceSub, Nat.reduceMul, Nat.reduceEqDiff, gdPR, pN_pickE, Bool.not_false, if_true]
  exact ⟨⟨hbad _ he Ext.refl, hbad _ he Ext.refl⟩, hbad _ he Ext.refl⟩
 | true =>
  rw [hoo] at hE hW0
  rw [Bool.true_and] at hE
  obtain ⟨ok, hw0⟩ := hW0 rfl
  have hfits : ∀ (a : Option Addr) (c : Nat) (w4 : World) (K : Value -> World -> Prop), (∀ w5, Ext [] w4 w5 -> K (.bool (fitsL (laidS rw0.s).1.length (laidS rw0.s).2.1 (laidS rw0.s).2.2.1 (laidS rw0.s).2.2.2 i.im)) w5) -> callsK Tryz.prog 62 #[.agg (loC (.slice a (laidS rw0.s).1.length c) (laidS rw0.s).2.1 (laidS rw0.s).2.2.1 (laidS rw0.s).2.2.2).toArray, .int .i64 i.im] w4 K := fun a c w4 K h => fitsG_spec hb0 hb1 hb2 him h
  have hlay : ∀ (a : Option Addr) (c : Nat) (w4 : World) (K : Value -> World -> Prop), RowsAt w4 (.slice a (laidS rw0.s).1.length c) 3 ((laidS rw0.s).1.map pcC) -> (∀ w5, Ext [] w4 w5 -> K (.int .u64 ((laidS rw0.s).1.foldl (layB i.im) (fixW rw0) : Nat)) w5) -> callsK Tryz.prog 63 #[.agg (loC (.slice a (laidS rw0.s).1.length c) (laidS rw0.s).2.1 (laidS rw0.s).2.2.1 (laidS rw0.s).2.2.2).toArray, .int .u64 (fixW rw0 : Nat), .int .i64 i.im] w4 K := fun a c w4 K hv h => layG_spec hv hpc (by omega) h
  have hl1 : (laidS rw0.s).1.foldl (layB i.im) (fixW rw0) < 18446744073709551616 := layB_lt hpc (by omega)
  generalize fitsL (laidS rw0.s).1.length (laidS rw0.s).2.1 (laidS rw0.s).2.2.1 (laidS rw0.s).2.2.2 i.im = fo at *
  generalize (laidS rw0.s).1.foldl (layB i.im) (fixW rw0) = W1 at *
  have hend : ∀ w2, fo = true -> Ext [] (w1.alloc (.cells (rwC rw0).toArray 57)).drew w2 -> J0 [.bool false] w2 := by
   intro w2 hfo hx3
   rw [hfo, Bool.true_and] at hE
   apply hJ0
   intro _
   have k1 := hx3.at g1b (by simp)
   have k4 := hx3.at g4 (by simp)
   have hxa := hx0.trans hx3 (by simp)
   refine .inr ⟨rfl, ?_⟩
   simp (disch := first | exact qD4 | fail) only [qG1, Nat.reduceAdd, Nat.reduceLeDiff, Int.reduceToNat, Int.reduceAdd, Int.reduceSub, Int.reduceLT, Int.reduceLE, Nat.reduceSub, Nat.reduceMul, Nat.reduceEqDiff, k4, rsb, List.getD_cons_zero]
   refine fixed_spec ok fun w3 hx4 => ?_
   have m1 := hx4.at k1 (by simp)
   have m4 := hx4.at k4 (by simp)
   have hxb := hxa.trans hx4 (by simp)
   simp (disch := first | exact qD4 | fail) only [qG1, Nat.reduceAdd, Nat.reduceLeDiff, Int.reduceToNat, Int.reduceAdd, Int.reduceSub, Int.reduceLT, Int.reduceLE, Nat.reduceSub, Nat.reduceMul, Nat.reduceEqDiff, m4, r1]
   refine hasG_spec hsh ?_
   obtain ⟨t1, ht1⟩ : ∃ t : Bool × Nat × Int, t = ((hasS rw0.s).1, 7, i.rd) := ⟨_, rfl⟩
   obtain ⟨t2, ht2⟩ : ∃ t : Bool × Nat × Int, t = ((hasS rw0.s).2.1, 15, i.r1) := ⟨_, rfl⟩
   obtain ⟨t3, ht3⟩ : ∃ t : Bool × Nat × Int, t = ((hasS rw0.s).2.2, 20, i.r2) := ⟨_, rfl⟩
   rw [<- ht1, <- ht2, <- ht3] at hE hR
   simp (disch := first | exact qD4 | fail) only [qG1, Nat.reduceAdd, Nat.reduceLeDiff, Int.reduceToNat, Int.reduceAdd, Int.reduceSub, Int.reduceLT, Int.reduceLE, Nat.reduceSub, Nat.reduceMul, Nat.reduceEqDiff]
   refine joinL.intro fun J2 hJ2 => ?_
   have lm1 := lt_of_at m1
   have lm4 := lt_of_at m4
   have hend2 : ∀ w4, Ext [] w3 w4 -> J2 [.int .u64 (W1 : Nat)] w4 := by
    intro w4 hx5
    apply hJ2
    intro _
    have n1 := hx5.at m1 (by simp)
    have hxc := hxb.trans hx5 (by simp)
    have hb1 : ∀ (t : Bool) (a r : Int) w, (Instr.build 128 #[(0, .bool t), (1, .int .i64 a), (2, .int .i64 r)]).run Tryz.prog w = .ok (.agg [.bool t, .int .i64 a, .int .i64 r].toArray) w := fun t a r w => run_build w 128 _ _ (by kernel_rfl)
    have hb3 : ∀ (t t' t'' : Bool) (a r a' r' a'' r'' : Int) w, (Instr.build 129 #[(0, .agg [.bool t, .int .i64 a, .int .i64 r].toArray), (1, .agg [.bool t', .int .i64 a', .int .i64 r'].toArray), (2, .agg [.bool t'', .int .i64 a'', .int .i64 r''].toArray)]).run Tryz.prog w = .ok (.agg [.bool t, .int .i64 a, .int .i64 r, .bool t', .int .i64 a', .int .i64 r', .bool t'', .int .i64 a'', .int .i64 r''].toArray) w := fun t t' t'' a r a' r' a'' r'' w => run_build w 129 _ _ (by kernel_rfl)
    simp (disch := first | exact qD4 | fail) only [qG1, Nat.reduceAdd, Nat.reduceLeDiff, Int.reduceToNat, Int.reduceAdd, Int.reduceSub, Int.reduceLT, Int.reduceLE, Nat.reduceSub, Nat.reduceMul, Nat.reduceEqDiff, n1, i1, i2, i3, hb1, hb3, List.getD_cons_zero]
    have hag : [.bool (hasS rw0.s).1, .int .i64 7, .int .i64 i.rd, .bool (hasS rw0.s).2.1, .int .i64 15, .int .i64 i.r1, .bool (hasS rw0.s).2.2, .int .i64 20, .int .i64 i.r2] = trC t1 ++ trC t2 ++ trC t3 := by rw [ht1, ht2, ht3]; rfl
    rw [hag]
    have hgood : ∀ t ∈ [t1, t2, t3], t.2.1 <= 20 /\ in64 t.2.2 := by
     intro t ht
     simp only [List.mem_cons, List.mem_nil_iff, or_false] at ht
     rcases ht with rfl | rfl | rfl
     ·rw [ht1]; exact ⟨show 7 <= 20 by decide, hrd⟩
     ·rw [ht2]; exact ⟨show 15 <= 20 by decide, hr1⟩
     ·rw [ht3]; exact ⟨show 20 <= 20 by decide, hr2⟩
    have hix := tr_ix t1 t2 t3
    clear ht1 ht2 ht3 hag hb1 hb3
    obtain ⟨ts, hts⟩ : ∃ ts, ts = [t1, t2, t3] := ⟨_, rfl⟩
    have htl : ts.length = 3 := by rw [hts]; rfl
    rw [<- hts] at hE hR hgood hix
    generalize trC t1 ++ trC t2 ++ trC t3 = ag at *
    clear hts
    refine loopT.intro (fun st w' => ∃ (k : Nat), k <= 3 /\ st = [.int .u64 ((ts.take k).foldl stepR W1 : Nat), .int .i64 (k : Nat)] /\ (ts.take k).all okTr = true /\ (ts.take k).foldl stepR W1 < 18446744073709551616 /\ Ext [] w w')
     (fun st _ => match st with
      | [_, .int _ z] => 3 - z.toNat
      | _ => 0) ⟨0, by omega, rfl, rfl, hl1, hxc⟩ ?_
    rintro st w5 ⟨k, hk, rfl, hall, hlt, hx5⟩ _
    by_cases h4 : k < 3
    ·obtain ⟨t, htk⟩ : ∃ t, ts[k]? = some t := ⟨_, List.getElem?_eq_getElem (by omega)⟩
     have hix2 := hix t k htk
     obtain ⟨hg1, hg2⟩ := hgood t (List.mem_of_getElem? htk)
     have hnx : (ts.take (k + 1)).foldl stepR W1 = stepR ((ts.take k).foldl stepR W1) t := by
      rw [List.take_add_one, htk, List.foldl_append]
      rfl
     have hna : (ts.take (k + 1)).all okTr = okTr t := by
      rw [List.take_add_one, htk, List.all_append, hall]
      simp
     generalize (ts.take k).foldl stepR W1 = Wk at *
     have q0 : (trC t)[0]? = some (.bool t.1) := rfl
     have q1 : (trC t)[1]? = some (.int .i64 (t.2.1 : Nat)) := rfl
     have q2 : (trC t)[2]? = some (.int .i64 t.2.2) := rfl
     simp (disch := first | exact qD4 | fail) only [qG1, Nat.reduceAdd, Nat.reduceLeDiff, Int.reduceToNat, Int.reduceAdd, Int.reduceSub, Int.reduceLT, Int.reduceLE, Nat.reduceSub, Nat.reduceMul, Nat.reduceEqDiff, List.getD_cons_zero, List.getD_cons_succ]
     refine joinL.intro fun J6 hJ6 => ?_
     have hxl : Ext [] w5 (w5.alloc (.cells (trC t).toArray 128)) := Ext.alloc Ext.refl _ _
     have hgo : ∀ w6, okTr t = true -> stepR Wk t < 18446744073709551616 -> Ext [] w5 w6 -> J6 [.int .u64 (stepR Wk t : Nat)] w6 := by
      intro w6 ha hb hx6
      apply hJ6
      intro _
      rw [<- hnx] at hb ⊢
      simp (disch := first | exact qD4 | fail) only [qG1, Nat.reduceAdd, Nat.reduceLeDiff, Int.reduceToNat, Int.reduceAdd, Int.reduceSub, Int.reduceLT, Int.reduceLE, Nat.reduceSub, Nat.reduceMul, Nat.reduceEqDiff, List.getD_cons_zero, List.getD_cons_succ]
      exact ⟨⟨k + 1, by omega, rfl, hna.trans ha, hb, hx5.trans hx6 (by simp)⟩, by first | omega | (simp <;> omega)⟩
     have hno : ∀ w6, okTr t = false -> Ext [] w5 w6 -> K (.tuple #[.int .u32 0, .bool false]) w6 := by
      intro w6 ha hx6
      have : eo = false := by
       rw [hE, List.all_eq_false]
       exact ⟨t, List.mem_of_getElem? htk, by rw [ha]; decide⟩
      rw [this] at hR hK
      rw [hR] at hK
      exact hK _ (hx5.trans hx6 (by simp))
     have hwu := wrap_un t.2.2
     have hul := un_lt t.2.2
     unfold okTr stepR at hgo
     unfold okTr at hno
     generalize t.2.2 = tr at *
     generalize t.2.1 = ta at *
     cases ht : t.1 with
     | false =>
      rw [ht] at hgo q0
      simp (disch := first | exact qD4 | fail) only [qG1, Nat.reduceAdd, Nat.reduceLeDiff, Int.reduceToNat, Int.reduceAdd, Int.reduceSub, Int.reduceLT, Int.reduceLE, Nat.reduceSub, Nat.reduceMul, Nat.reduceEqDiff, joinBR, hix2, q0, List.getD_cons_zero, List.getD_cons_succ, tr_over, tr_over2]
      exact hgo _ rfl hlt hxl
     | true =>
      rw [ht] at hgo hno q0
      simp (disch := first | exact qD4 | fail) only [qG1, Nat.reduceAdd, Nat.reduceLeDiff, Int.reduceToNat, Int.reduceAdd, Int.reduceSub, Int.reduceLT, Int.reduceLE, Nat.reduceSub, Nat.reduceMul, Nat.reduceEqDiff, joinBR, hix2, q0, q1, q2, List.getD_cons_zero, List.getD_cons_succ, tr_over, tr_over2]
      refine FitsU_spec (b := 5) (by omega) hg2 ?_
      cases hf : fitsU tr 5 with
      | false =>
       rw [hf] at hno
       simp (disch := first | exact qD4 | fail) only [qG1, Nat.reduceAdd, Nat.reduceLeDiff, Int.reduceToNat, Int.reduceAdd, Int.reduceSub, Int.reduceLT, Int.reduceLE, Nat.reduceSub, Nat.reduceMul, Nat.reduceEqDiff, joinBR, Bool.not_false, if_true]
       exact hno _ rfl hxl
      | true =>
       rw [hf] at hgo
       simp (disch := first | exact qD4 | fail) only [qG1, Nat.reduceAdd, Nat.reduceLeDiff, Int.reduceToNat, Int.reduceAdd, Int.reduceSub, Int.reduceLT, Int.reduceLE, Nat.reduceSub, Nat.reduceMul, Nat.reduceEqDiff, joinBR, Bool.not_true, if_true, q0, q1, q2, hwu]
       refine fPutG_spec (by omega) (by omega) (by omega) hlt hul fun w7 hx7 => ?_
       exact hgo _ rfl (putB_lt hlt (by omega)) (hxl.trans hx7 (by simp))
    ·obtain rfl : k = 3 := by omega
     have e3 : ts.take 3 = ts := by rw [List.take_of_length_le (by omega)]
     rw [e3] at hall hlt ⊢
     have : eo = true := by rw [hE, hall]
     rw [this, if_pos rfl] at hR
     rw [this] at hK
     have hu := wrap_u32N (ts.foldl stepR W1)
     rw [<- hR] at hu
     simp (disch := first | exact qD4 | fail) only [qG1, Nat.reduceAdd, Nat.reduceLeDiff, Int.reduceToNat, Int.reduceAdd, Int.reduceSub, Int.reduceLT, Int.reduceLE, Nat.reduceSub, Nat.reduceMul, Nat.reduceEqDiff, List.getD_cons_zero, List.getD_cons_succ, hu]
     exact hK _ hx5
   simp (disch := first | exact qD4 | fail) only [qG1, Nat.reduceAdd, Nat.reduceLeDiff, Int.reduceToNat, Int.reduceAdd, Int.reduceSub, Int.reduceLT, Int.reduceLE, Nat.reduceSub, Nat.reduceMul, Nat.reduceEqDiff, gdPR, m1, m4, i4, r1]
   have hxd : Ext [] w3 w3.drew := qX
   refine ⟨⟨?_, ?_⟩, ?_⟩
   ·refine hL _ _ fun a c w4 hv hx5 => ?_
    have k1 := (hxd.trans hx5 (by simp)).at m1 (by simp)
    simp (disch := first | exact qD4 | fail) only [qG1, Nat.reduceAdd, Nat.reduceLeDiff, Int.reduceToNat, Int.reduceAdd, Int.reduceSub, Int.reduceLT, Int.reduceLE, Nat.reduceSub, Nat.reduceMul, Nat.reduceEqDiff, k1, i4]
    refine hlay _ _ _ _ hv fun w5 hx6 => ?_
    exact hend2 _ ((hxd.trans hx5 (by simp)).trans hx6 (by simp))
   ·refine hL _ _ fun a c w4 hv hx5 => ?_
    simp (disch := first | exact qD4 | fail) only [qG1, Nat.reduceAdd, Nat.reduceLeDiff, Int.reduceToNat, Int.reduceAdd, Int.reduceSub, Int.reduceLT, Int.reduceLE, Nat.reduceSub, Nat.reduceMul, Nat.reduceEqDiff]
    refine hlay _ _ _ _ hv fun w5 hx6 => ?_
    exact hend2 _ ((hxd.trans hx5 (by simp)).trans hx6 (by simp))
   ·refine hL _ _ fun a c w4 hv hx5 => ?_
    simp (disch := first | exact qD4 | fail) only [qG1, Nat.reduceAdd, Nat.reduceLeDiff, Int.reduceToNat, Int.reduceAdd, Int.reduceSub, Int.reduceLT, Int.reduceLE, Nat.reduceSub, Nat.reduceMul, Nat.reduceEqDiff]
    refine hlay _ _ _ _ hv fun w5 hx6 => ?_
    exact hend2 _ ((hxd.trans hx5 (by simp)).trans hx6 (by simp))
  have hgo : ∀ w2, Ext [] (w1.alloc (.cells (rwC rw0).toArray 57)).drew w2 -> J0 [.bool !fo] w2 := by
   intro w2 hx
   cases hfo : fo with
   | true => exact hend w2 hfo hx
   | false =>
    rw [hfo] at hE
    exact hbad w2 hE hx
  simp (disch := first | exact qD4 | fail) only [qG1, Nat.reduceAdd, Nat.reduceLeDiff, Int.reduceToNat, Int.reduceAdd, Int.reduceSub, Int.reduceLT, Int.reduceLE, Nat.reduceSub, Nat.reduceMul, Nat.reduceEqDiff, gdPR, Bool.not_true, g1a, i4, r1]
  refine ⟨⟨?_, ?_⟩, ?_⟩
  ·refine hL _ _ fun a c w3 hv hx3 => ?_
   have k1 := hx3.at g1b (by simp)
   simp (disch := first | exact qD4 | fail) only [qG1, Nat.reduceAdd, Nat.reduceLeDiff, Int.reduceToNat, Int.reduceAdd, Int.reduceSub, Int.reduceLT, Int.reduceLE, Nat.reduceSub, Nat.reduceMul, Nat.reduceEqDiff, k1, i4, gdPR]
   refine hfits _ _ _ _ fun w4 hx4 => ?_
   simp (disch := first | exact qD4 | fail) only [qG1, Nat.reduceAdd, Nat.reduceLeDiff, Int.reduceToNat, Int.reduceAdd, Int.reduceSub, Int.reduceLT, Int.reduceLE, Nat.reduceSub, Nat.reduceMul, Nat.reduceEqDiff, gdPR, Bool.not_true, pN_pickE, if_false]
   exact hgo _ (hx3.trans hx4 (by simp))
  ·refine hL _ _ fun a c w3 hv hx3 => ?_
   have k1 := hx3.at g1b (by simp)
   simp (disch := first | exact qD4 | fail) only [qG1, Nat.reduceAdd, Nat.reduceLeDiff, Int.reduceToNat, Int.reduceAdd, Int.reduceSub, Int.reduceLT, Int.reduceLE, Nat.reduceSub, Nat.reduceMul, Nat.reduceEqDiff, k1, i4, gdPR]
   refine hfits _ _ _ _ fun w4 hx4 => ?_
   simp (disch := first | exact qD4 | fail) only [qG1, Nat.reduceAdd, Nat.reduceLeDiff, Int.reduceToNat, Int.reduceAdd, Int.reduceSub, Int.reduceLT, Int.reduceLE, Nat.reduceSub, Nat.reduceMul, Nat.reduceEqDiff, gdPR, Bool.not_true, pN_pickE, if_false]
   exact hgo _ (hx3.trans hx4 (by simp))
  ·refine hL _ _ fun a c w3 hv hx3 => ?_
   have k1 := hx3.at g1b (by simp)
   simp (disch := first | exact qD4 | fail) only [qG1, Nat.reduceAdd, Nat.reduceLeDiff, Int.reduceToNat, Int.reduceAdd, Int.reduceSub, Int.reduceLT, Int.reduceLE, Nat.reduceSub, Nat.reduceMul, Nat.reduceEqDiff, k1, i4, gdPR]
   refine hfits _ _ _ _ fun w4 hx4 => ?_
   simp (disch := first | exact qD4 | fail) only [qG1, Nat.reduceAdd, Nat.reduceLeDiff, Int.reduceToNat, Int.reduceAdd, Int.reduceSub, Int.reduceLT, Int.reduceLE, Nat.reduceSub, Nat.reduceMul, Nat.reduceEqDiff, gdPR, Bool.not_true, pN_pickE, if_false]
   exact hgo _ (hx3.trans hx4 (by simp))
end Go.Proofs.YtobkjnmdbkieeaaGreatDoor
namespace Go.Proofs
open Go.Shelf Go.RowKit
def Tryz.lays156_ren : Go.Shelf.Ren := ⟨fun | 156 => 67 | 165 => 86 | 166 => 36 | 169 => 13 | 240 => 70 | 241 => 99 | 276 => 88 | 277 => 108 | n => n, fun | 31 => 80 | 9 => 9 | 3 => 3 | 4 => 4 | 0 => 0 | 20 => 20 | 72 => 39 | 76 => 92 | 70 => 36 | 37 => 37 | 75 => 91 | 127 => 94 | 164 => 150 | 5 => 5 | 80 => 45 | n => n, fun | n => n⟩
theorem Tryz.lays156 : Go.Proofs.Lays.n156 Tryz.prog Tryz.lays156_ren := {
 mixed := by kernel_rfl
 f156 := Tryz.func67.trans (congrArg some (by kernel_rfl))
 f165 := Tryz.func86.trans (congrArg some (by kernel_rfl))
 f166 := Tryz.func36.trans (congrArg some (by kernel_rfl))
 f169 := Tryz.func13.trans (congrArg some (by kernel_rfl))
 f240 := Tryz.func70.trans (congrArg some (by kernel_rfl))
 f241 := Tryz.func99.trans (congrArg some (by kernel_rfl))
 f276 := Tryz.func88.trans (congrArg some (by kernel_rfl))
 f277 := Tryz.func108.trans (congrArg some (by kernel_rfl))
 t0 := Tryz.underlying0
 a0 := Tryz.isAgg0
 z0 := Tryz.sizeOf0
 v0 := Tryz.zeroValue0
 t3 := Tryz.underlying3
 a3 := Tryz.isAgg3
 z3 := Tryz.sizeOf3
 v3 := Tryz.zeroValue3
 t4 := Tryz.underlying4
 a4 := Tryz.isAgg4
 z4 := Tryz.sizeOf4
 v4 := Tryz.zeroValue4
 t9 := Tryz.underlying9
 a9 := Tryz.isAgg9
 z9 := Tryz.sizeOf9
 v9 := Tryz.zeroValue9
 t20 := Tryz.underlying20
 a20 := Tryz.isAgg20
 z20 := Tryz.sizeOf20
 v20 := Tryz.zeroValue20
 t31 := Tryz.underlying80
 a31 := Tryz.isAgg80
 z31 := Tryz.sizeOf80
 v31 := Tryz.zeroValue80
 t37 := Tryz.underlying37
 a37 := Tryz.isAgg37
 z37 := Tryz.sizeOf37
 v37 := Tryz.zeroValue37
 t70 := Tryz.underlying36
 a70 := Tryz.isAgg36
 z70 := Tryz.sizeOf36
 v70 := Tryz.zeroValue36
 t72 := Tryz.underlying39
 a72 := Tryz.isAgg39
 z72 := Tryz.sizeOf39
 v72 := Tryz.zeroValue39
 t75 := Tryz.underlying91
 a75 := Tryz.isAgg91
 z75 := Tryz.sizeOf91
 v75 := Tryz.zeroValue91
 t76 := Tryz.underlying92
 a76 := Tryz.isAgg92
 z76 := Tryz.sizeOf92
 v76 := Tryz.zeroValue92
 t127 := Tryz.underlying94
 a127 := Tryz.isAgg94
 z127 := Tryz.sizeOf94
 v127 := Tryz.zeroValue94
 t164 := Tryz.underlying150
 a164 := Tryz.isAgg150
 z164 := Tryz.sizeOf150
 v164 := Tryz.zeroValue150 }
theorem Tryz.Builder_Extra_156 : Builder.Extra Tryz.prog Tryz.lays156_ren := {
 sizeBuilder := by kernel_rfl
 liesBuilder := by kernel_rfl
 t5 := Tryz.underlying5
 a5 := Tryz.isAgg5
 z5 := Tryz.sizeOf5
 v5 := Tryz.zeroValue5
 infoByte := by kernel_rfl
 cellsByte := by kernel_rfl
 sizeByte := by kernel_rfl
 neB5 := by decide }
theorem Tryz.strings_Join (bk o c : Nat) (xs : List ByteArray) (sep : ByteArray) (w : World) (hcells : ∀ (j : Nat) x, xs[j]? = some x -> w.cell? ⟨bk, o + j, none⟩ = some (.string x)) (hbk : bk < w.heap.size) (hN : xs.length <= 140737488355328) (hcap : xs.length <= c) (hlen : (Lib.join (xs.map (·.data.toList)) sep.data.toList).length <= 140737488355328) :
  Calls Tryz.prog 67 #[.slice (some ⟨bk, o, none⟩) xs.length c, .string sep] w fun e w' => e = .returned (.string ⟨(Lib.join (xs.map (·.data.toList)) sep.data.toList).toArray⟩) /\ Below w.heap.size w w' := Any.strings_Join Tryz.lays156 Tryz.Builder_Extra_156 bk o c xs sep w hcells hbk hN hcap hlen
def Tryz.lays161_ren : Go.Shelf.Ren := ⟨fun | 161 => 49 | 231 => 77 | 227 => 78 | 233 => 79 | 235 => 80 | 228 => 94 | 197 => 95 | 151 => 96 | 260 => 102 | 152 => 103 | 137 => 109 | 119 => 110 | 224 => 106 | 225 => 105 | 217 => 104 | 266 => 111 | n => n, fun | 9 => 9 | 4 => 4 | 3 => 3 | 5 => 5 | 117 => 143 | 116 => 142 | 0 => 0 | 124 => 146 | 105 => 154 | 21 => 21 | 119 => 160 | 46 => 136 | 139 => 163 | 138 => 162 | n => n, fun | 3 => 1 | 4 => 2 | n => n⟩
theorem Tryz.lays161 : Go.Proofs.Lays.n161 Tryz.prog Tryz.lays161_ren := {
 mixed := by kernel_rfl
 f119 := Tryz.func110.trans (congrArg some (by kernel_rfl))
 f137 := Tryz.func109.trans (congrArg some (by kernel_rfl))
 f151 := Tryz.func96.trans (congrArg some (by kernel_rfl))
 f152 := Tryz.func103.trans (congrArg some (by kernel_rfl))
 f161 := Tryz.func49.trans (congrArg some (by kernel_rfl))
 f197 := Tryz.func95.trans (congrArg some (by kernel_rfl))
 f217 := Tryz.func104.trans (congrArg some (by kernel_rfl))
 f224 := Tryz.func106.trans (congrArg some (by kernel_rfl))
 f225 := Tryz.func105.trans (congrArg some (by kernel_rfl))
 f227 := Tryz.func78.trans (congrArg some (by kernel_rfl))
 f228 := Tryz.func94.trans (congrArg some (by kernel_rfl))
 f231 := Tryz.func77.trans (congrArg some (by kernel_rfl))
 f233 := Tryz.func79.trans (congrArg some (by kernel_rfl))
 f235 := Tryz.func80.trans (congrArg some (by kernel_rfl))
 f260 := Tryz.func102.trans (congrArg some (by kernel_rfl))
 f266 := Tryz.func111.trans (congrArg some (by kernel_rfl))
 t0 := Tryz.underlying0
 a0 := Tryz.isAgg0
 z0 := Tryz.sizeOf0
 v0 := Tryz.zeroValue0
 t3 := Tryz.underlying3
 a3 := Tryz.isAgg3
 z3 := Tryz.sizeOf3
 v3 := Tryz.zeroValue3
 t4 := Tryz.underlying4
 a4 := Tryz.isAgg4
 z4 := Tryz.sizeOf4
 v4 := Tryz.zeroValue4
 t5 := Tryz.underlying5
 a5 := Tryz.isAgg5
 z5 := Tryz.sizeOf5
 v5 := Tryz.zeroValue5
 t9 := Tryz.underlying9
 a9 := Tryz.isAgg9
 z9 := Tryz.sizeOf9
 v9 := Tryz.zeroValue9
 t21 := Tryz.underlying21
 a21 := Tryz.isAgg21
 z21 := Tryz.sizeOf21
 v21 := Tryz.zeroValue21
 t46 := Tryz.underlying136
 a46 := Tryz.isAgg136
 z46 := Tryz.sizeOf136
 v46 := Tryz.zeroValue136
 t105 := Tryz.underlying154
 a105 := Tryz.isAgg154
 z105 := Tryz.sizeOf154
 v105 := Tryz.zeroValue154
 t116 := Tryz.underlying142
 a116 := Tryz.isAgg142
 z116 := Tryz.sizeOf142
 t117 := Tryz.underlying143
 a117 := Tryz.isAgg143
 z117 := Tryz.sizeOf143
 v117 := Tryz.zeroValue143
 t119 := Tryz.underlying160
 a119 := Tryz.isAgg160
 z119 := Tryz.sizeOf160
 t124 := Tryz.underlying146
 a124 := Tryz.isAgg146
 z124 := Tryz.sizeOf146
 v124 := Tryz.zeroValue146
 t138 := Tryz.underlying162
 a138 := Tryz.isAgg162
 z138 := Tryz.sizeOf162
 v138 := Tryz.zeroValue162
 t139 := Tryz.underlying163
 a139 := Tryz.isAgg163
 z139 := Tryz.sizeOf163
 v139 := Tryz.zeroValue163
 g3 := by kernel_rfl
 g4 := by kernel_rfl }
theorem Tryz.strings_TrimLeft_one (s : ByteArray) (c : UInt8) (hc : c.toNat < 128) (w : World) :
  Calls Tryz.prog 49 #[.string s, .string ⟨#[c]⟩] w fun e w' => e = .returned (.string ⟨(Lib.trimLeftB s.data.toList c).toArray⟩) /\ w' = w := Any.strings_TrimLeft_one Tryz.lays161 s c hc w
def Tryz.lays103_ren : Go.Shelf.Ren := ⟨fun | 103 => 59 | 210 => 85 | 206 => 81 | n => n, fun | 9 => 9 | 4 => 4 | 24 => 112 | 3 => 3 | n => n, fun | n => n⟩
theorem Tryz.lays103 : Go.Proofs.Lays.n103 Tryz.prog Tryz.lays103_ren := {
 mixed := by kernel_rfl
 f103 := Tryz.func59.trans (congrArg some (by kernel_rfl))
 f206 := Tryz.func81.trans (congrArg some (by kernel_rfl))
 f210 := Tryz.func85.trans (congrArg some (by kernel_rfl))
 t3 := Tryz.underlying3
 a3 := Tryz.isAgg3
 z3 := Tryz.sizeOf3
 v3 := Tryz.zeroValue3
 t4 := Tryz.underlying4
 a4 := Tryz.isAgg4
 z4 := Tryz.sizeOf4
 v4 := Tryz.zeroValue4
 t9 := Tryz.underlying9
 a9 := Tryz.isAgg9
 z9 := Tryz.sizeOf9
 v9 := Tryz.zeroValue9
 t24 := Tryz.underlying112
 a24 := Tryz.isAgg112
 z24 := Tryz.sizeOf112
 v24 := Tryz.zeroValue112 }
theorem Tryz.strings_CutPrefix (s p : ByteArray) (w : World) :
  Calls Tryz.prog 59 #[.string s, .string p] w fun e w' => e = .returned (.tuple #[.string ⟨(Lib.trimPrefix s.data.toList p.data.toList).toArray⟩, .bool (Lib.hasPrefix s.data.toList p.data.toList)]) /\ w' = w := Any.strings_CutPrefix Tryz.lays103 s p w
def Tryz.lays104_ren : Go.Shelf.Ren := ⟨fun | 104 => 51 | 211 => 82 | 207 => 97 | n => n, fun | 9 => 9 | 4 => 4 | 24 => 112 | 3 => 3 | n => n, fun | n => n⟩
theorem Tryz.lays104 : Go.Proofs.Lays.n104 Tryz.prog Tryz.lays104_ren := {
 mixed := by kernel_rfl
 f104 := Tryz.func51.trans (congrArg some (by kernel_rfl))
 f207 := Tryz.func97.trans (congrArg some (by kernel_rfl))
 f211 := Tryz.func82.trans (congrArg some (by kernel_rfl))
 t3 := Tryz.underlying3
 a3 := Tryz.isAgg3
 z3 := Tryz.sizeOf3
 v3 := Tryz.zeroValue3
 t4 := Tryz.underlying4
 a4 := Tryz.isAgg4
 z4 := Tryz.sizeOf4
 v4 := Tryz.zeroValue4
 t9 := Tryz.underlying9
 a9 := Tryz.isAgg9
 z9 := Tryz.sizeOf9
 v9 := Tryz.zeroValue9
 t24 := Tryz.underlying112
 a24 := Tryz.isAgg112
 z24 := Tryz.sizeOf112
 v24 := Tryz.zeroValue112 }
theorem Tryz.strings_CutSuffix (s p : ByteArray) (w : World) (hs : s.size <= 9223372036854775807) :
  Calls Tryz.prog 51 #[.string s, .string p] w fun e w' => e = .returned (.tuple #[.string ⟨(Lib.trimSuffix s.data.toList p.data.toList).toArray⟩, .bool (Lib.hasSuffix s.data.toList p.data.toList)]) /\ w' = w := Any.strings_CutSuffix Tryz.lays104 s p w hs
def Tryz.lays145_ren : Go.Shelf.Ren := ⟨fun | 145 => 53 | 220 => 83 | 219 => 98 | 217 => 104 | 225 => 105 | 224 => 106 | 267 => 107 | 266 => 111 | 314 => 112 | n => n, fun | 9 => 9 | 4 => 4 | 59 => 115 | 3 => 3 | 5 => 5 | 46 => 136 | 146 => 148 | 51 => 28 | n => n, fun | 1 => 0 | n => n⟩
theorem Tryz.lays145 : Go.Proofs.Lays.n145 Tryz.prog Tryz.lays145_ren := {
 mixed := by kernel_rfl
 f145 := Tryz.func53.trans (congrArg some (by kernel_rfl))
 f217 := Tryz.func104.trans (congrArg some (by kernel_rfl))
 f219 := Tryz.func98.trans (congrArg some (by kernel_rfl))
 f220 := Tryz.func83.trans (congrArg some (by kernel_rfl))
 f224 := Tryz.func106.trans (congrArg some (by kernel_rfl))
 f225 := Tryz.func105.trans (congrArg some (by kernel_rfl))
 f266 := Tryz.func111.trans (congrArg some (by kernel_rfl))
 f267 := Tryz.func107.trans (congrArg some (by kernel_rfl))
 f314 := Tryz.func112.trans (congrArg some (by kernel_rfl))
 t3 := Tryz.underlying3
 a3 := Tryz.isAgg3
 z3 := Tryz.sizeOf3
 v3 := Tryz.zeroValue3
 t4 := Tryz.underlying4
 a4 := Tryz.isAgg4
 z4 := Tryz.sizeOf4
 v4 := Tryz.zeroValue4
 t5 := Tryz.underlying5
 a5 := Tryz.isAgg5
 z5 := Tryz.sizeOf5
 v5 := Tryz.zeroValue5
 t9 := Tryz.underlying9
 a9 := Tryz.isAgg9
 z9 := Tryz.sizeOf9
 v9 := Tryz.zeroValue9
 t46 := Tryz.underlying136
 a46 := Tryz.isAgg136
 z46 := Tryz.sizeOf136
 v46 := Tryz.zeroValue136
 t51 := Tryz.underlying28
 a51 := Tryz.isAgg28
 z51 := Tryz.sizeOf28
 v51 := Tryz.zeroValue28
 t59 := Tryz.underlying115
 a59 := Tryz.isAgg115
 z59 := Tryz.sizeOf115
 v59 := Tryz.zeroValue115
 t146 := Tryz.underlying148
 a146 := Tryz.isAgg148
 z146 := Tryz.sizeOf148
 v146 := Tryz.zeroValue148
 g1 := by kernel_rfl }
theorem Tryz.strings_Cut (s sep : ByteArray) (m : Int) (w : World) (hs : s.size < 4294967281) (hm : w.cell? ⟨0, 0, none⟩ = some (.int .i64 m)) :
  Calls Tryz.prog 53 #[.string s, .string sep] w fun e w' => e = .returned (.tuple #[.string ⟨(Lib.cut s.data.toList sep.data.toList).1.toArray⟩, .string ⟨(Lib.cut s.data.toList sep.data.toList).2.1.toArray⟩, .bool (Lib.cut s.data.toList sep.data.toList).2.2]) /\ ∃ n, w' = w.drewN n := Any.strings_Cut Tryz.lays145 s sep m w hs hm
def Tryz.lays148_ren : Go.Shelf.Ren := ⟨fun | 148 => 35 | 222 => 68 | 223 => 69 | 269 => 87 | n => n, fun | 9 => 9 | 3 => 3 | 4 => 4 | 5 => 5 | 146 => 148 | 51 => 28 | 46 => 136 | n => n, fun | n => n⟩
theorem Tryz.lays148 : Go.Proofs.Lays.n148 Tryz.prog Tryz.lays148_ren := {
 mixed := by kernel_rfl
 f148 := Tryz.func35.trans (congrArg some (by kernel_rfl))
 f222 := Tryz.func68.trans (congrArg some (by kernel_rfl))
 f223 := Tryz.func69.trans (congrArg some (by kernel_rfl))
 f269 := Tryz.func87.trans (congrArg some (by kernel_rfl))
 t3 := Tryz.underlying3
 a3 := Tryz.isAgg3
 z3 := Tryz.sizeOf3
 v3 := Tryz.zeroValue3
 t4 := Tryz.underlying4
 a4 := Tryz.isAgg4
 z4 := Tryz.sizeOf4
 v4 := Tryz.zeroValue4
 t5 := Tryz.underlying5
 a5 := Tryz.isAgg5
 z5 := Tryz.sizeOf5
 v5 := Tryz.zeroValue5
 t9 := Tryz.underlying9
 a9 := Tryz.isAgg9
 z9 := Tryz.sizeOf9
 v9 := Tryz.zeroValue9
 t46 := Tryz.underlying136
 a46 := Tryz.isAgg136
 z46 := Tryz.sizeOf136
 v46 := Tryz.zeroValue136
 t51 := Tryz.underlying28
 a51 := Tryz.isAgg28
 z51 := Tryz.sizeOf28
 v51 := Tryz.zeroValue28
 t146 := Tryz.underlying148
 a146 := Tryz.isAgg148
 z146 := Tryz.sizeOf148
 v146 := Tryz.zeroValue148 }
theorem Tryz.strings_LastIndex (s sub : ByteArray) (hs : s.size < 4611686018427387904) (w : World) :
  Calls Tryz.prog 35 #[.string s, .string sub] w fun e w' => e = .returned (.int .i64 (Lib.lastIndex s.data.toList sub.data.toList)) /\ w' = w := Any.strings_LastIndex Tryz.lays148 s sub hs w
def Tryz.lays99_ren : Go.Shelf.Ren := ⟨fun | 99 => 50 | 206 => 81 | n => n, fun | 9 => 9 | 4 => 4 | 3 => 3 | n => n, fun | n => n⟩
theorem Tryz.lays99 : Go.Proofs.Lays.n99 Tryz.prog Tryz.lays99_ren := {
 mixed := by kernel_rfl
 f99 := Tryz.func50.trans (congrArg some (by kernel_rfl))
 f206 := Tryz.func81.trans (congrArg some (by kernel_rfl))
 t3 := Tryz.underlying3
 a3 := Tryz.isAgg3
 z3 := Tryz.sizeOf3
 v3 := Tryz.zeroValue3
 t4 := Tryz.underlying4
 a4 := Tryz.isAgg4
 z4 := Tryz.sizeOf4
 v4 := Tryz.zeroValue4
 t9 := Tryz.underlying9
 a9 := Tryz.isAgg9
 z9 := Tryz.sizeOf9
 v9 := Tryz.zeroValue9 }
theorem Tryz.strings_HasPrefix (s p : ByteArray) (w : World) :
  Calls Tryz.prog 50 #[.string s, .string p] w fun e w' => e = .returned (.bool (Lib.hasPrefix s.data.toList p.data.toList)) /\ w' = w := Any.strings_HasPrefix Tryz.lays99 s p w
def Tryz.lays146_ren : Go.Shelf.Ren := ⟨fun | 146 => 48 | 221 => 76 | 268 => 91 | 138 => 92 | 143 => 93 | 195 => 100 | 197 => 95 | 218 => 101 | 219 => 98 | 260 => 102 | 217 => 104 | 225 => 105 | 224 => 106 | 267 => 107 | 266 => 111 | 314 => 112 | n => n, fun | 9 => 9 | 31 => 80 | 3 => 3 | 4 => 4 | 0 => 0 | 105 => 154 | 21 => 21 | 5 => 5 | 46 => 136 | 119 => 160 | 139 => 163 | 138 => 162 | 146 => 148 | 51 => 28 | n => n, fun | 1 => 0 | 3 => 1 | 4 => 2 | n => n⟩
theorem Tryz.lays146 : Go.Proofs.Lays.n146 Tryz.prog Tryz.lays146_ren := {
 mixed := by kernel_rfl
 f138 := Tryz.func92.trans (congrArg some (by kernel_rfl))
 f143 := Tryz.func93.trans (congrArg some (by kernel_rfl))
 f146 := Tryz.func48.trans (congrArg some (by kernel_rfl))
 f195 := Tryz.func100.trans (congrArg some (by kernel_rfl))
 f197 := Tryz.func95.trans (congrArg some (by kernel_rfl))
 f217 := Tryz.func104.trans (congrArg some (by kernel_rfl))
 f218 := Tryz.func101.trans (congrArg some (by kernel_rfl))
 f219 := Tryz.func98.trans (congrArg some (by kernel_rfl))
 f221 := Tryz.func76.trans (congrArg some (by kernel_rfl))
 f224 := Tryz.func106.trans (congrArg some (by kernel_rfl))
 f225 := Tryz.func105.trans (congrArg some (by kernel_rfl))
 f260 := Tryz.func102.trans (congrArg some (by kernel_rfl))
 f266 := Tryz.func111.trans (congrArg some (by kernel_rfl))
 f267 := Tryz.func107.trans (congrArg some (by kernel_rfl))
 f268 := Tryz.func91.trans (congrArg some (by kernel_rfl))
 f314 := Tryz.func112.trans (congrArg some (by kernel_rfl))
 t0 := Tryz.underlying0
 a0 := Tryz.isAgg0
 z0 := Tryz.sizeOf0
 v0 := Tryz.zeroValue0
 t3 := Tryz.underlying3
 a3 := Tryz.isAgg3
 z3 := Tryz.sizeOf3
 v3 := Tryz.zeroValue3
 t4 := Tryz.underlying4
 a4 := Tryz.isAgg4
 z4 := Tryz.sizeOf4
 v4 := Tryz.zeroValue4
 t5 := Tryz.underlying5
 a5 := Tryz.isAgg5
 z5 := Tryz.sizeOf5
 v5 := Tryz.zeroValue5
 t9 := Tryz.underlying9
 a9 := Tryz.isAgg9
 z9 := Tryz.sizeOf9
 v9 := Tryz.zeroValue9
 t21 := Tryz.underlying21
 a21 := Tryz.isAgg21
 z21 := Tryz.sizeOf21
 v21 := Tryz.zeroValue21
 t31 := Tryz.underlying80
 a31 := Tryz.isAgg80
 z31 := Tryz.sizeOf80
 v31 := Tryz.zeroValue80
 t46 := Tryz.underlying136
 a46 := Tryz.isAgg136
 z46 := Tryz.sizeOf136
 v46 := Tryz.zeroValue136
 t51 := Tryz.underlying28
 a51 := Tryz.isAgg28
 z51 := Tryz.sizeOf28
 v51 := Tryz.zeroValue28
 t105 := Tryz.underlying154
 a105 := Tryz.isAgg154
 z105 := Tryz.sizeOf154
 v105 := Tryz.zeroValue154
 t119 := Tryz.underlying160
 a119 := Tryz.isAgg160
 z119 := Tryz.sizeOf160
 t138 := Tryz.underlying162
 a138 := Tryz.isAgg162
 z138 := Tryz.sizeOf162
 v138 := Tryz.zeroValue162
 t139 := Tryz.underlying163
 a139 := Tryz.isAgg163
 z139 := Tryz.sizeOf163
 v139 := Tryz.zeroValue163
 t146 := Tryz.underlying148
 a146 := Tryz.isAgg148
 z146 := Tryz.sizeOf148
 v146 := Tryz.zeroValue148
 g1 := by kernel_rfl
 g3 := by kernel_rfl
 g4 := by kernel_rfl }
theorem Tryz.strings_Split (s sep : ByteArray) (m : Int) (w : World) (hs : s.size < 4294967281) (hm : w.cell? ⟨0, 0, none⟩ = some (.int .i64 m)) (h1 : 1 <= sep.size) :
  Calls Tryz.prog 48 #[.string s, .string sep] w fun e w' =>
   e = .returned (.slice (some ⟨w.heap.size, 0, none⟩) (Lib.countB s sep + 1) (Lib.countB s sep + 1)) /\ w' = w.alloc (.cells ((Lib.splitB sep 0 (Lib.countB s sep) s).map Value.string).toArray 9) := Any.strings_Split Tryz.lays146 (by kernel_rfl) s sep m w hs hm h1
end Go.Proofs
namespace Go.Proofs.YtobkjnmdbkieeaaGreatDoor
open Go.Fx
theorem qG2 : type_of% (And.intro @gen0 (And.intro (@gen1 Tryz.prog) (And.intro @gen2 (And.intro @rulesC (And.intro @rulesX (And.intro @rulesA (And.intro @litR (And.intro @bolR (And.intro (@numR Tryz.prog) (And.intro (@memR Tryz.prog) (And.intro @valR (And.intro @heapR (And.intro @updR (And.intro @intR (And.intro @decR (And.intro (@extR Tryz.prog) (And.intro (@slR Tryz.prog) (And.intro @segR (And.intro @thenR ((@pnR Tryz.prog))))))))))))))))))))) := ⟨@gen0, (@gen1 Tryz.prog), @gen2, @rulesC, @rulesX, @rulesA, @litR, @bolR, (@numR Tryz.prog), (@memR Tryz.prog), @valR, @heapR, @updR, @intR, @decR, (@extR Tryz.prog), (@slR Tryz.prog), @segR, @thenR, (@pnR Tryz.prog)⟩
set_option maxRecDepth 100000
theorem ext_belowS {w0 w w' : World} (hx : Ext [] w0 w) (hb : RowKit.Below w0.heap.size w w') : Ext [] w0 w' := by
 obtain ⟨h1, h2, h3, h4, h5⟩ := hb
 exact ⟨h1.trans hx.os, h2.trans hx.tape, h3.trans hx.output, Nat.le_trans hx.size h4, fun k hk _ => (h5 k hk).trans (hx.kept k hk (by simp))⟩
/-- a text of bytes. -/
def sV (l : List UInt8) : Value := .string ⟨l.toArray⟩
theorem size_mk (l : List UInt8) : (⟨l.toArray⟩ : ByteArray).size = l.length := by simp [ByteArray.size]
theorem app_mk (a b : List UInt8) : (⟨a.toArray⟩ : ByteArray) ++ ⟨b.toArray⟩ = ⟨(a ++ b).toArray⟩ := by
 apply ByteArray.ext
 simp
theorem cut_mk (l : List UInt8) (a b : Nat) : (⟨l.toArray⟩ : ByteArray).extract a b = ⟨((l.drop a).take (b - a)).toArray⟩ := by
 apply ByteArray.ext
 simp
theorem addS {a b : List UInt8} (h : a.length + b.length <= 9223372036854775807) (x y : Operand) (w : World) : (binV .add 9 x y (.string ⟨a.toArray⟩) (.string ⟨b.toArray⟩)).run Tryz.prog w = .ok (.string ⟨(a ++ b).toArray⟩) w := by
 rw [run_addS (by rw [size_mk, size_mk]; exact h), app_mk]
theorem eqlS (a b : List UInt8) (x y : Operand) (w : World) : (binV .eql 9 x y (.string ⟨a.toArray⟩) (.string ⟨b.toArray⟩)).run Tryz.prog w = .ok (.bool (decide (a = b))) w := by
 rw [run_eqlS]
 have : ((⟨a.toArray⟩ : ByteArray).toList == (⟨b.toArray⟩ : ByteArray).toList) = decide (a = b) := by
  by_cases h : a = b
  ·subst h
   rw [beq_self_eq_true, decide_eq_true rfl]
  ·rw [decide_eq_false h, beq_eq_false_iff_ne]
   simpa using h
 rw [this]
theorem lenS (l : List UInt8) (w : World) : (Builtin.len_ #[9] 3 #[.string ⟨l.toArray⟩]).run Tryz.prog w = .ok (.int .i64 (l.length : Nat)) w := by
 rw [run_lenS Tryz.underlying9, size_mk]
theorem ixS {l : List UInt8} {k : Nat} {b : UInt8} (h : l[k]? = some b) (w : World) : (Instr.index 9 (.string ⟨l.toArray⟩) (.int .i64 (k : Nat))).run Tryz.prog w = .ok (.int .u8 (b.toNat : Nat)) w := by
 obtain ⟨hk, rfl⟩ := List.getElem?_eq_some_iff.1 h
 rw [run_index_string w 9 _ .i64 _ Tryz.underlying9, dif_pos ⟨by omega, by rw [size_mk]; omega⟩]
 simp only [Int.toNat_natCast]
 rfl
/-- a byte's cell. -/
def bC (b : UInt8) : List Value := [.int .u8 (b.toNat : Nat)]
theorem bC_all (l : List UInt8) : ∀ r ∈ l.map bC, r.all (fun v => v.oneCell') = true := by
 intro r hr
 obtain ⟨l, -, rfl⟩ := List.mem_map.1 hr
 rfl
theorem nums_mk (l : List UInt8) : strOfNums (l.map fun b => ((b.toNat : Nat) : Int)) = ⟨l.toArray⟩ := by
 have e : ((fun n : Int => UInt8.ofNat n.toNat) ∘ fun b : UInt8 => ((b.toNat : Nat) : Int)) = id := by
  funext b
  simp
 apply ByteArray.ext
 simp [strOfNums, e]
theorem text_of_bytes {w : World} {v : Value} {l : List UInt8} (h : RowsAt w v 1 (l.map bC)) (h0 : l ≠ []) : (convert 37 9 v).run Tryz.prog w = .ok (.string ⟨l.toArray⟩) w := by
 obtain ⟨a, cap, rfl, hc, hr⟩ := h
 rcases hr with hr | ⟨b, o, c, E, f, rfl, hb, hfit, hsub⟩
 ·exact absurd (by simpa using hr) h0
 ·rw [<- nums_mk]
  refine run_convert_bytes_arg w 37 5 Tryz.underlying37 Tryz.underlying5 b o (l.map bC).length cap (l.map fun b => ((b.toNat : Nat) : Int)) (by simp) (fun i hi => ?_) 9 Tryz.underlying9
  simp only [List.length_map] at hi
  have h1 := hsub i (bC l[i]) (by simp [hi])
  rw [cell_of_block hb]
  have h2 : (Go.Fx.sub c (o + i * 1) 1)[0]? = some (.int .u8 (l[i].toNat : Nat)) := by rw [h1]; rfl
  unfold Go.Fx.sub at h2
  rw [List.getElem?_take_of_lt (by omega), List.getElem?_drop] at h2
  rw [Nat.mul_one, Nat.add_zero] at h2
  rw [h2]
  simp [hi]
/-- a number's digits. -/
def decF : Nat -> Nat -> List UInt8
 | 0, _ => []
 | f + 1, n => if n < 10 then [UInt8.ofNat (48 + n)] else decF f (n / 10) ++ [UInt8.ofNat (48 + n % 10)]
def decN (n : Nat) : List UInt8 := decF 20 n
theorem decF_small {f n : Nat} (h : n < 10) : decF (f + 1) n = [UInt8.ofNat (48 + n)] := by rw [decF, if_pos h]
theorem decF_big {f n : Nat} (h : ¬ n < 10) : decF (f + 1) n = decF f (n / 10) ++ [UInt8.ofNat (48 + n % 10)] := by rw [decF, if_neg h]
theorem decF_len : ∀ f n, (decF f n).length <= f
 | 0, n => Nat.le_refl _
 | f + 1, n => by
  by_cases h : n < 10
  ·rw [decF_small h]; simp
  ·rw [decF_big h]
   have := decF_len f (n / 10)
   simp
   omega
theorem decF_lenk : ∀ k f n, n < 10 ^ k -> 0 < k -> (decF f n).length <= k
 | 0, f, n, _, h => absurd h (by omega)
 | k + 1, 0, n, _, _ => Nat.zero_le _
 | k + 1, f + 1, n, hn, _ => by
  by_cases h : n < 10
  ·rw [decF_small h]; simp
  ·rw [decF_big h]
   have hk : 0 < k := by
    rcases Nat.eq_zero_or_pos k with rfl | h1
    ·simp at hn; omega
    ·exact h1
   have := decF_lenk k f (n / 10) (by rw [Nat.div_lt_iff_lt_mul (by omega), <- Nat.pow_succ]; exact hn) hk
   simp
   omega
/-- a number's text. -/
def dec (n : Int) : List UInt8 := if n < 0 then 45 :: decN n.natAbs else decN n.natAbs
theorem u8_dig {d : Nat} (h : d < 10) : ((UInt8.ofNat (48 + d)).toNat : Int) = 48 + (d : Int) := by
 rw [UInt8.toNat_ofNat']
 omega
theorem app38 {base : Nat} {v x : Value} {rows rows2 : List (List Value)} {w : World} {K : Value -> World -> Prop} (hown : OwnR w base 5 1 v rows) (hx : RowsAt w x 1 rows2) (h1 : ∀ r ∈ rows2, r.all (fun v => v.oneCell') = true)
  (hl : rows.length + rows2.length <= 1000000) (hbase : base <= w.heap.size) (hK : ∀ v' w', OwnR w' base 5 1 v' (rows ++ rows2) -> App base v w w' -> K v' w') : resV K ((Builtin.append_ #[37, 37] 37 #[v, x]).run Tryz.prog w) :=
 kV_appR Tryz.underlying37 (by kernel_rfl) (by omega) (bytes := 1) hown hx h1 (by simp only [maxLen]; omega) (by omega) hbase hK
theorem digits_spec {w : World} {n : Int} (hn : in64 n) {K : Value -> World -> Prop} (hK : ∀ w', Ext [] w w' -> K (.string ⟨(dec n).toArray⟩) w') : callsK Tryz.prog 37 #[.int .i64 n] w K := by
 obtain ⟨hn1, hn2⟩ := hn
 apply F37_ok
 unfold F37
 have hw := wrap_un n
 have key : ∀ (u : Nat) (J : List Value -> World -> Prop), u = n.natAbs -> J [.int .u64 (u : Nat)] w -> J [.int .u64 (n.natAbs : Nat)] w := fun u J h hj => h ▸ hj
 simp (disch := first | exact qDR | fail) only [qG2, Nat.reduceAdd, Nat.reduceLeDiff, Int.reduceToNat, Int.reduceAdd, Int.reduceSub, Int.reduceLT, Int.reduceLE, Nat.reduceSub, Nat.reduceMul, Nat.reduceEqDiff, hw]
 refine joinL.intro fun J0 hJ0 => ?_
 have hgo : J0 [.int .u64 (n.natAbs : Nat)] w := by
  apply hJ0
  intro _
  have hN : n.natAbs < 18446744073709551616 := by omega
  obtain ⟨N, hNe⟩ : ∃ N, N = n.natAbs := ⟨_, rfl⟩
  rw [<- hNe] at hN ⊢
  simp (disch := first | exact qDR | fail) only [qG2, Nat.reduceAdd, Nat.reduceLeDiff, Int.reduceToNat, Int.reduceAdd, Int.reduceSub, Int.reduceLT, Int.reduceLE, Nat.reduceSub, Nat.reduceMul, Nat.reduceEqDiff, List.getD_cons_zero]
  refine loopT.intro (fun st w' => ∃ (v : Value) (m f : Nat) (z : Int) (acc : List UInt8), st = [v, .int .u64 z] /\ z = m /\ m <= N /\ m < 10 ^ f /\ 0 < f /\ RowsAt w' v 1 (acc.map bC) /\ decN N = decF f m ++ acc /\ Ext [] w w')
   (fun st _ => match st with
    | [_, .int _ z] => z.toNat
    | _ => 0) ⟨_, N, 20, N, [], rfl, rfl, Nat.le_refl _, by omega, by omega, OwnR.nil.rows (base := 0) (e := 5), by simp [decN], Ext.refl⟩ ?_
  rintro st w' ⟨v, m, f, z, acc, rfl, rfl, hm, hmf, hf0, hrows, hdec, hx⟩ _
  have hd : (m : Int) % 10 = ((m % 10 : Nat) : Int) := by omega
  have hq : (m : Int) / 10 = ((m / 10 : Nat) : Int) := by omega
  have hlen := congrArg List.length hdec
  have hle := decF_len 20 N
  rw [decN] at hlen
  simp only [List.length_append] at hlen
  have hdg := u8_dig (d := m % 10) (by omega)
  have hx1 : Ext [] w' (w'.alloc (.cells [.int .u8 (48 + ((m % 10 : Nat) : Int))].toArray 5)) := qX
  have hbe : bC (UInt8.ofNat (48 + m % 10)) = [.int .u8 (48 + ((m % 10 : Nat) : Int))] := by
   unfold bC
   rw [show (((UInt8.ofNat (48 + m % 10)).toNat : Nat) : Int) = 48 + ((m % 10 : Nat) : Int) from hdg]
  simp (disch := first | exact qDR | fail) only [qG2, Nat.reduceAdd, Nat.reduceLeDiff, Int.reduceToNat, Int.reduceAdd, Int.reduceSub, Int.reduceLT, Int.reduceLE, Nat.reduceSub, Nat.reduceMul, Nat.reduceEqDiff, hd, hq, List.getD_cons_zero, List.getD_cons_succ]
  refine app38 (rows := [bC (UInt8.ofNat (48 + m % 10))]) (base := w'.heap.size) (by rw [hbe]; exact OwnR.fresh rfl rfl (Nat.le_refl _)) (hrows.ext hx1 (by simp)) (bC_all acc) (by simp; omega) hx1.size fun v10 w2 ho ha => ?_
  have hx2 := ha.ext w' [] (Nat.le_refl _) hx1
  have hr2 : RowsAt w2 v10 1 ((UInt8.ofNat (48 + m % 10) :: acc).map bC) := ho.rows
  have hxw := hx.trans hx2 (by simp)
  obtain ⟨f, rfl⟩ : ∃ f', f = f' + 1 := ⟨f - 1, by omega⟩
  by_cases h10 : m < 10
  ·have htxt := text_of_bytes hr2 (by simp)
   rw [decF_small h10] at hdec
   have e : decN N = UInt8.ofNat (48 + m % 10) :: acc := by rw [hdec, show m % 10 = m by omega]; rfl
   rw [<- e] at htxt
   by_cases hneg : n < 0
   ·have hadd := addS (a := [45]) (b := decN N) (by simp [decN]; omega)
    have ed : dec n = [45] ++ decN N := by rw [dec, if_pos hneg, <- hNe]; rfl
    rw [ed] at hK
    simp (disch := first | exact qDR | fail) only [qG2, Nat.reduceAdd, Nat.reduceLeDiff, Int.reduceToNat, Int.reduceAdd, Int.reduceSub, Int.reduceLT, Int.reduceLE, Nat.reduceSub, Nat.reduceMul, Nat.reduceEqDiff, htxt, hadd, List.getD_cons_zero, List.getD_cons_succ]
    exact hK _ hxw
   ·have ed : dec n = decN N := by rw [dec, if_neg hneg, <- hNe]
    rw [ed] at hK
    simp (disch := first | exact qDR | fail) only [qG2, Nat.reduceAdd, Nat.reduceLeDiff, Int.reduceToNat, Int.reduceAdd, Int.reduceSub, Int.reduceLT, Int.reduceLE, Nat.reduceSub, Nat.reduceMul, Nat.reduceEqDiff, htxt, List.getD_cons_zero, List.getD_cons_succ]
    exact hK _ hxw
  ·simp (disch := first | exact qDR | fail) only [qG2, Nat.reduceAdd, Nat.reduceLeDiff, Int.reduceToNat, Int.reduceAdd, Int.reduceSub, Int.reduceLT, Int.reduceLE, Nat.reduceSub, Nat.reduceMul, Nat.reduceEqDiff, List.getD_cons_zero, List.getD_cons_succ]
   refine ⟨⟨v10, m / 10, f, _, UInt8.ofNat (48 + m % 10) :: acc, rfl, rfl, by omega, ?_, ?_, hr2, ?_, hxw⟩, by omega⟩
   ·rw [Nat.div_lt_iff_lt_mul (by omega), <- Nat.pow_succ]; exact hmf
   ·rcases Nat.eq_zero_or_pos f with rfl | h1
    ·simp at hmf; omega
    ·exact h1
   ·rw [hdec, decF_big h10]
    simp
 clear hK
 by_cases hneg : n < 0
 ·have hu := un_neg (x := n) ⟨by omega, hneg⟩
  have hw2 : IntKind.u64.wrap (0 - ((un n : Nat) : Int)) = ((n.natAbs : Nat) : Int) := by
   rw [wrap_un]
   unfold un
   unfold un at hu
   omega
  simp (disch := first | exact qDR | fail) only [qG2, Nat.reduceAdd, Nat.reduceLeDiff, Int.reduceToNat, Int.reduceAdd, Int.reduceSub, Int.reduceLT, Int.reduceLE, Nat.reduceSub, Nat.reduceMul, Nat.reduceEqDiff, hw2]
  exact hgo
 ·have hu := un_nn (x := n) ⟨by omega, by omega⟩
  have e : un n = n.natAbs := by omega
  rw [<- e] at hgo
  simp (disch := first | exact qDR | fail) only [qG2, Nat.reduceAdd, Nat.reduceLeDiff, Int.reduceToNat, Int.reduceAdd, Int.reduceSub, Int.reduceLT, Int.reduceLE, Nat.reduceSub, Nat.reduceMul, Nat.reduceEqDiff]
  exact hgo
open Go.Fx
set_option maxRecDepth 100000
theorem CutPrefix_spec {w : World} {s p : List UInt8} {K : Value -> World -> Prop} (hK : K (.tuple #[.string ⟨(Lib.trimPrefix s p).toArray⟩, .bool (Lib.hasPrefix s p)]) w) : callsK Tryz.prog 59 #[.string ⟨s.toArray⟩, .string ⟨p.toArray⟩] w K := by
 refine Calls.mono (Tryz.strings_CutPrefix ⟨s.toArray⟩ ⟨p.toArray⟩ w) ?_
 rintro e w' ⟨rfl, rfl⟩
 exact ⟨_, rfl, hK⟩
theorem CutSuffix_spec {w : World} {s p : List UInt8} (h : s.length <= 9223372036854775807) {K : Value -> World -> Prop} (hK : K (.tuple #[.string ⟨(Lib.trimSuffix s p).toArray⟩, .bool (Lib.hasSuffix s p)]) w) : callsK Tryz.prog 51 #[.string ⟨s.toArray⟩, .string ⟨p.toArray⟩] w K := by
 refine Calls.mono (Tryz.strings_CutSuffix ⟨s.toArray⟩ ⟨p.toArray⟩ w (by rw [size_mk]; exact h)) ?_
 rintro e w' ⟨rfl, rfl⟩
 exact ⟨_, rfl, hK⟩
theorem HasPrefix_spec {w : World} {s p : List UInt8} {K : Value -> World -> Prop} (hK : K (.bool (Lib.hasPrefix s p)) w) : callsK Tryz.prog 50 #[.string ⟨s.toArray⟩, .string ⟨p.toArray⟩] w K := by
 refine Calls.mono (Tryz.strings_HasPrefix ⟨s.toArray⟩ ⟨p.toArray⟩ w) ?_
 rintro e w' ⟨rfl, rfl⟩
 exact ⟨_, rfl, hK⟩
theorem TrimLeft_spec {w : World} {s : List UInt8} {c : UInt8} (hc : c.toNat < 128) {K : Value -> World -> Prop} (hK : K (.string ⟨(Lib.trimLeftB s c).toArray⟩) w) : callsK Tryz.prog 49 #[.string ⟨s.toArray⟩, .string ⟨#[c]⟩] w K := by
 refine Calls.mono (Tryz.strings_TrimLeft_one ⟨s.toArray⟩ c hc w) ?_
 rintro e w' ⟨rfl, rfl⟩
 exact ⟨_, rfl, hK⟩
theorem LastIndex_spec {w : World} {s p : List UInt8} (h : s.length < 4611686018427387904) {K : Value -> World -> Prop} (hK : K (.int .i64 (Lib.lastIndex s p)) w) : callsK Tryz.prog 35 #[.string ⟨s.toArray⟩, .string ⟨p.toArray⟩] w K := by
 refine Calls.mono (Tryz.strings_LastIndex ⟨s.toArray⟩ ⟨p.toArray⟩ (by rw [size_mk]; exact h) w) ?_
 rintro e w' ⟨rfl, rfl⟩
 exact ⟨_, rfl, hK⟩
/-- where Go's library keeps how long a text it looks for may be. -/
def Gm (w : World) : Prop := 0 < w.heap.size /\ ∃ m : Int, w.cell? ⟨0, 0, none⟩ = some (.int .i64 m)
theorem Gm.ext {w w' : World} (h : Gm w) (hx : Ext [] w w') : Gm w' := by
 obtain ⟨h0, m, hm⟩ := h
 have hk := hx.kept 0 h0 (by simp)
 have hs := hx.size
 refine ⟨by omega, m, ?_⟩
 rw [<- hm]
 unfold World.cell?
 rw [hk]
theorem drewN_ext (w : World) (n : Nat) : Ext [] w (w.drewN n) := ⟨rfl, rfl, rfl, Nat.le_refl _, fun _ _ _ => rfl⟩
theorem Cut_spec {w : World} {s p : List UInt8} (hg : Gm w) (h : s.length < 4294967281) {K : Value -> World -> Prop} (hK : ∀ w', Ext [] w w' -> K (.tuple #[.string ⟨(Lib.cut s p).1.toArray⟩, .string ⟨(Lib.cut s p).2.1.toArray⟩, .bool (Lib.cut s p).2.2]) w') : callsK Tryz.prog 53 #[.string ⟨s.toArray⟩, .string ⟨p.toArray⟩] w K := by
 obtain ⟨h0, m, hm⟩ := hg
 refine Calls.mono (Tryz.strings_Cut ⟨s.toArray⟩ ⟨p.toArray⟩ m w (by rw [size_mk]; exact h) hm) ?_
 rintro e w' ⟨rfl, n, rfl⟩
 exact ⟨_, rfl, hK _ (drewN_ext w n)⟩
/-- a text's cell. -/
def sC (l : List UInt8) : List Value := [.string ⟨l.toArray⟩]
theorem Split_spec {w : World} {s p : List UInt8} (hg : Gm w) (h : s.length < 4294967281) (h1 : p ≠ []) {K : Value -> World -> Prop} (hK : ∀ v w', RowsAt w' v 1 ((Lib.split s p).map sC) -> Ext [] w w' -> (∀ b, blockOf v = some b -> w.heap.size <= b) -> K v w') : callsK Tryz.prog 48 #[.string ⟨s.toArray⟩, .string ⟨p.toArray⟩] w K := by
 obtain ⟨h0, m, hm⟩ := hg
 have hp1 : 1 <= (⟨p.toArray⟩ : ByteArray).size := by
  rw [size_mk]
  exact List.length_pos_iff.2 h1
 have hd := Lib.splitB_data ⟨p.toArray⟩ 0 (Lib.countB ⟨s.toArray⟩ ⟨p.toArray⟩) ⟨s.toArray⟩
 have hlen := Lib.splitB_all ⟨p.toArray⟩ hp1 0 (Lib.countB ⟨s.toArray⟩ ⟨p.toArray⟩) ⟨s.toArray⟩ rfl
 refine Calls.mono (Tryz.strings_Split ⟨s.toArray⟩ ⟨p.toArray⟩ m w (by rw [size_mk]; exact h) hm hp1) ?_
 rintro e w' ⟨rfl, rfl⟩
 refine ⟨_, rfl, ?_⟩
 have hcells : (Lib.splitB ⟨p.toArray⟩ 0 (Lib.countB ⟨s.toArray⟩ ⟨p.toArray⟩) ⟨s.toArray⟩).map Value.string = (Lib.split s p).map fun l => .string ⟨l.toArray⟩ := by
  have e2 : Lib.split s p = (Lib.splitB ⟨p.toArray⟩ 0 (Lib.countB ⟨s.toArray⟩ ⟨p.toArray⟩) ⟨s.toArray⟩).map (·.data.toList) := by rw [hd]; rfl
  rw [e2, List.map_map]
  apply List.map_congr_left
  intro x _
  rfl
 have hlen2 : (Lib.split s p).length = Lib.countB ⟨s.toArray⟩ ⟨p.toArray⟩ + 1 := by
  rw [<- hlen]
  simpa using (congrArg List.length hcells).symm
 rw [hcells, <- hlen2]
 have hcount : (Lib.split s p).length <= maxLen := by
  have := Lib.countB_le ⟨p.toArray⟩ hp1 s.length ⟨s.toArray⟩ (by rw [size_mk]; exact Nat.le_refl _)
  rw [size_mk] at this
  simp only [maxLen]
  omega
 refine hK _ _ ⟨_, (Lib.split s p).length, by rw [List.length_map], ⟨by simp, hcount⟩, .inr ⟨w.heap.size, 0, _, _, _, rfl, alloc_at rfl, by simp, fun i r hi => ?_⟩⟩ qX (fun b hb => Nat.le_of_eq (Option.some.inj hb))
 rw [List.getElem?_map] at hi
 obtain ⟨l, hl, rfl⟩ := Option.map_eq_some_iff.1 hi
 obtain ⟨hi2, rfl⟩ := List.getElem?_eq_some_iff.1 hl
 unfold Go.Fx.sub
 rw [Nat.zero_add, Nat.mul_one, List.take_one, List.head?_drop, List.getElem?_map, hl]
 rfl
/-- a decimal digit. -/
def digB (b : UInt8) : Bool := decide (48 <= b.toNat /\ b.toNat <= 57)
def valL (l : List UInt8) : Nat := l.foldl (fun n b => n * 10 + (b.toNat - 48)) 0
theorem valL_lt : ∀ (l : List UInt8), l.all digB = true -> valL l < 10 ^ l.length := by
 intro l
 unfold valL
 suffices h : ∀ (l : List UInt8) (n k : Nat), n < 10 ^ k -> l.all digB = true -> l.foldl (fun n b => n * 10 + (b.toNat - 48)) n < 10 ^ (k + l.length) by
  intro ha
  have := h l 0 0 (by decide) ha
  rwa [Nat.zero_add] at this
 intro l
 induction l with
 | nil => intro n k h _; exact h
 | cons b l ih =>
  intro n k h ha
  rw [List.all_cons, Bool.and_eq_true] at ha
  obtain ⟨hb, ha⟩ := ha
  unfold digB at hb
  rw [decide_eq_true_eq] at hb
  rw [List.foldl_cons, List.length_cons]
  have := ih (n * 10 + (b.toNat - 48)) (k + 1) (by rw [Nat.pow_succ]; omega) ha
  rwa [show k + (l.length + 1) = k + 1 + l.length by omega]
/-- a text's number; false: it is none. -/
def numberF (s : List UInt8) : Int × Bool :=
 if Lib.trimPrefix s [45] = [] ∨ 10 < (Lib.trimPrefix s [45]).length ∨ (1 < (Lib.trimPrefix s [45]).length /\ (Lib.trimPrefix s [45])[0]? = some 48) ∨ (Lib.hasPrefix s [45] = true /\ Lib.trimPrefix s [45] = [48]) then (0, false)
 else if (Lib.trimPrefix s [45]).all digB then (if Lib.hasPrefix s [45] then 0 - ((valL (Lib.trimPrefix s [45]) : Nat) : Int) else ((valL (Lib.trimPrefix s [45]) : Nat) : Int), true) else (0, false)
theorem number_spec {w : World} {s : List UInt8} (hs : s.length < 4294967281) {K : Value -> World -> Prop} (hK : K (.tuple #[.int .i64 (numberF s).1, .bool (numberF s).2]) w) : callsK Tryz.prog 60 #[.string ⟨s.toArray⟩] w K := by
 apply F60_ok
 unfold F60
 refine CutPrefix_spec (s := s) (p := [45]) ?_
 have hlr : (Lib.trimPrefix s [45]).length <= s.length := by
  unfold Lib.trimPrefix
  split
  ·simp
  ·exact Nat.le_refl _
 unfold numberF at hK
 generalize Lib.trimPrefix s [45] = r at *
 generalize Lib.hasPrefix s [45] = ng at *
 have hE := eqlS r []
 have hE2 := eqlS r [48]
 have hL := lenS r
 by_cases h0 : r = []
 ·rw [if_pos (.inl h0)] at hK
  simp (disch := first | exact qDR | fail) only [qG2, Nat.reduceAdd, Nat.reduceLeDiff, Int.reduceToNat, Int.reduceAdd, Int.reduceSub, Int.reduceLT, Int.reduceLE, Nat.reduceSub, Nat.reduceMul, Nat.reduceEqDiff, joinBR, hE, decide_eq_true h0]
  exact hK
 have hd0 := decide_eq_false h0
 by_cases h1 : 10 < r.length
 ·rw [if_pos (.inr (.inl h1))] at hK
  simp (disch := first | exact qDR | fail) only [qG2, Nat.reduceAdd, Nat.reduceLeDiff, Int.reduceToNat, Int.reduceAdd, Int.reduceSub, Int.reduceLT, Int.reduceLE, Nat.reduceSub, Nat.reduceMul, Nat.reduceEqDiff, joinBR, hE, hd0, hL]
  exact hK
 obtain ⟨b0, hb0⟩ : ∃ b, r[0]? = some b := by
  cases r with
  | nil => exact absurd rfl h0
  | cons b r => exact ⟨b, rfl⟩
 have hix0 := ixS hb0
 have hix0' : ∀ w, (Instr.index 9 (.string ⟨r.toArray⟩) (.int .i64 0)).run Tryz.prog w = .ok (.int .u8 (b0.toNat : Nat)) w := hix0
 have hb48 : (((b0.toNat : Nat) : Int) = 48) ↔ b0 = 48 := by
  constructor
  ·intro h
   apply UInt8.toNat_inj.1
   have : (48 : UInt8).toNat = 48 := rfl
   omega
  ·rintro rfl; rfl
 by_cases h2 : 1 < r.length /\ r[0]? = some 48
 ·rw [if_pos (.inr (.inr (.inl h2)))] at hK
  have hb : ((b0.toNat : Nat) : Int) = 48 := hb48.2 (by rw [hb0] at h2; exact Option.some.inj h2.2)
  obtain ⟨h2a, h2b⟩ := h2
  simp (disch := first | exact qDR | fail) only [qG2, Nat.reduceAdd, Nat.reduceLeDiff, Int.reduceToNat, Int.reduceAdd, Int.reduceSub, Int.reduceLT, Int.reduceLE, Nat.reduceSub, Nat.reduceMul, Nat.reduceEqDiff, joinBR, hE, hd0, hL, hix0', hb]
  exact hK
 by_cases h3 : ng = true /\ r = [48]
 ·rw [if_pos (.inr (.inr (.inr h3)))] at hK
  obtain ⟨h3a, h3b⟩ := h3
  subst h3b
  subst h3a
  simp (disch := first | exact qDR | fail) only [qG2, Nat.reduceAdd, Nat.reduceLeDiff, Int.reduceToNat, Int.reduceAdd, Int.reduceSub, Int.reduceLT, Int.reduceLE, Nat.reduceSub, Nat.reduceMul, Nat.reduceEqDiff, joinBR, hE, hd0, hL, hE2, decide_eq_true]
  exact hK
 rw [if_neg (by rintro (h | h | h | h) <;> contradiction)] at hK
 have hn10 : r.length <= 10 := by omega
 have hc1 : (1 < r.length /\ ((b0.toNat : Nat) : Int) ≠ 48) ∨ ¬ 1 < r.length := by
  by_cases h : 1 < r.length
  ·exact .inl ⟨h, fun h5 => h2 ⟨h, by rw [hb0, hb48.1 h5]⟩⟩
  ·exact .inr h
 have hc2 : (ng = true /\ decide (r = [48]) = false) ∨ ng = false := by
  cases ng with
  | false => exact .inr rfl
  | true => exact .inl ⟨rfl, decide_eq_false fun h => h3 ⟨rfl, h⟩⟩
 rcases hc1 with ⟨c1, c2⟩ | c1 <;> rcases hc2 with ⟨rfl, d2⟩ | rfl
 ·simp (disch := first | exact qDR | fail) only [qG2, Nat.reduceAdd, Nat.reduceLeDiff, Int.reduceToNat, Int.reduceAdd, Int.reduceSub, Int.reduceLT, Int.reduceLE, Nat.reduceSub, Nat.reduceMul, Nat.reduceEqDiff, joinBR, hE, hd0, hL, hix0', hE2, d2]
  refine loopT.intro (fun st w' => ∃ (k : Nat), k <= r.length /\ st = [.int .i64 (valL (r.take k) : Nat), .int .i64 (k : Nat)] /\ (r.take k).all digB = true /\ w' = w)
   (fun st _ => match st with
    | [_, .int _ z] => r.length - z.toNat
    | _ => 0) ⟨0, Nat.zero_le _, rfl, rfl, rfl⟩ ?_
  rintro st w' ⟨k, hk, rfl, hall, rfl⟩ _
  have hv := valL_lt _ hall
  have hv2 : valL (r.take k) < 10 ^ 10 := Nat.lt_of_lt_of_le hv (Nat.pow_le_pow_right (by decide) (by simp; omega))
  by_cases h4 : k < r.length
  ·obtain ⟨b, hb⟩ : ∃ b, r[k]? = some b := ⟨_, List.getElem?_eq_getElem h4⟩
   have hix := ixS hb
   have hnv : valL (r.take (k + 1)) = valL (r.take k) * 10 + (b.toNat - 48) := by
    unfold valL
    rw [List.take_add_one, hb, List.foldl_append]
    rfl
   have hna : (r.take (k + 1)).all digB = digB b := by
    rw [List.take_add_one, hb, List.all_append, hall]
    simp
   generalize valL (r.take k) = n at *
   have hbl := b.toNat_lt
   by_cases h5 : 48 <= b.toNat /\ b.toNat <= 57
   ·have hdb : digB b = true := decide_eq_true h5
    have e1 : ((b.toNat : Nat) : Int) - 48 = ((b.toNat - 48 : Nat) : Int) := by omega
    simp (disch := first | exact qDR | fail) only [qG2, Nat.reduceAdd, Nat.reduceLeDiff, Int.reduceToNat, Int.reduceAdd, Int.reduceSub, Int.reduceLT, Int.reduceLE, Nat.reduceSub, Nat.reduceMul, Nat.reduceEqDiff, joinBR, hix, List.getD_cons_zero, List.getD_cons_succ, e1]
    refine ⟨⟨k + 1, by omega, by rw [hnv]; simp, hna.trans hdb, trivial⟩, by first | omega | (simp <;> omega)⟩
   ·have hdb : r.all digB = false := by
     rw [List.all_eq_false]
     exact ⟨b, List.mem_of_getElem? hb, by unfold digB; simpa using h5⟩
    rw [hdb] at hK
    by_cases h6 : b.toNat < 48
    ·simp (disch := first | exact qDR | fail) only [qG2, Nat.reduceAdd, Nat.reduceLeDiff, Int.reduceToNat, Int.reduceAdd, Int.reduceSub, Int.reduceLT, Int.reduceLE, Nat.reduceSub, Nat.reduceMul, Nat.reduceEqDiff, joinBR, hix, List.getD_cons_zero, List.getD_cons_succ]
     exact hK
    ·simp (disch := first | exact qDR | fail) only [qG2, Nat.reduceAdd, Nat.reduceLeDiff, Int.reduceToNat, Int.reduceAdd, Int.reduceSub, Int.reduceLT, Int.reduceLE, Nat.reduceSub, Nat.reduceMul, Nat.reduceEqDiff, joinBR, hix, List.getD_cons_zero, List.getD_cons_succ]
     exact hK
  ·obtain rfl : k = r.length := by omega
   rw [List.take_length] at hall hv2 ⊢
   rw [hall] at hK
   generalize valL r = n at *
   simp (disch := first | exact qDR | fail) only [qG2, Nat.reduceAdd, Nat.reduceLeDiff, Int.reduceToNat, Int.reduceAdd, Int.reduceSub, Int.reduceLT, Int.reduceLE, Nat.reduceSub, Nat.reduceMul, Nat.reduceEqDiff, joinR, List.getD_cons_zero, List.getD_cons_succ]
   first | exact hK | exact fun _ => hK
 ·simp (disch := first | exact qDR | fail) only [qG2, Nat.reduceAdd, Nat.reduceLeDiff, Int.reduceToNat, Int.reduceAdd, Int.reduceSub, Int.reduceLT, Int.reduceLE, Nat.reduceSub, Nat.reduceMul, Nat.reduceEqDiff, joinBR, hE, hd0, hL, hix0', hE2]
  refine loopT.intro (fun st w' => ∃ (k : Nat), k <= r.length /\ st = [.int .i64 (valL (r.take k) : Nat), .int .i64 (k : Nat)] /\ (r.take k).all digB = true /\ w' = w)
   (fun st _ => match st with
    | [_, .int _ z] => r.length - z.toNat
    | _ => 0) ⟨0, Nat.zero_le _, rfl, rfl, rfl⟩ ?_
  rintro st w' ⟨k, hk, rfl, hall, rfl⟩ _
  have hv := valL_lt _ hall
  have hv2 : valL (r.take k) < 10 ^ 10 := Nat.lt_of_lt_of_le hv (Nat.pow_le_pow_right (by decide) (by simp; omega))
  by_cases h4 : k < r.length
  ·obtain ⟨b, hb⟩ : ∃ b, r[k]? = some b := ⟨_, List.getElem?_eq_getElem h4⟩
   have hix := ixS hb
   have hnv : valL (r.take (k + 1)) = valL (r.take k) * 10 + (b.toNat - 48) := by
    unfold valL
    rw [List.take_add_one, hb, List.foldl_append]
    rfl
   have hna : (r.take (k + 1)).all digB = digB b := by
    rw [List.take_add_one, hb, List.all_append, hall]
    simp
   generalize valL (r.take k) = n at *
   have hbl := b.toNat_lt
   by_cases h5 : 48 <= b.toNat /\ b.toNat <= 57
   ·have hdb : digB b = true := decide_eq_true h5
    have e1 : ((b.toNat : Nat) : Int) - 48 = ((b.toNat - 48 : Nat) : Int) := by omega
    simp (disch := first | exact qDR | fail) only [qG2, Nat.reduceAdd, Nat.reduceLeDiff, Int.reduceToNat, Int.reduceAdd, Int.reduceSub, Int.reduceLT, Int.reduceLE, Nat.reduceSub, Nat.reduceMul, Nat.reduceEqDiff, joinBR, hix, List.getD_cons_zero, List.getD_cons_succ, e1]
    refine ⟨⟨k + 1, by omega, by rw [hnv]; simp, hna.trans hdb, trivial⟩, by first | omega | (simp <;> omega)⟩
   ·have hdb : r.all digB = false := by
     rw [List.all_eq_false]
     exact ⟨b, List.mem_of_getElem? hb, by unfold digB; simpa using h5⟩
    rw [hdb] at hK
    by_cases h6 : b.toNat < 48
    ·simp (disch := first | exact qDR | fail) only [qG2, Nat.reduceAdd, Nat.reduceLeDiff, Int.reduceToNat, Int.reduceAdd, Int.reduceSub, Int.reduceLT, Int.reduceLE, Nat.reduceSub, Nat.reduceMul, Nat.reduceEqDiff, joinBR, hix, List.getD_cons_zero, List.getD_cons_succ]
     exact hK
    ·simp (disch := first | exact qDR | fail) only [qG2, Nat.reduceAdd, Nat.reduceLeDiff, Int.reduceToNat, Int.reduceAdd, Int.reduceSub, Int.reduceLT, Int.reduceLE, Nat.reduceSub, Nat.reduceMul, Nat.reduceEqDiff, joinBR, hix, List.getD_cons_zero, List.getD_cons_succ]
     exact hK
  ·obtain rfl : k = r.length := by omega
   rw [List.take_length] at hall hv2 ⊢
   rw [hall] at hK
   generalize valL r = n at *
   simp (disch := first | exact qDR | fail) only [qG2, Nat.reduceAdd, Nat.reduceLeDiff, Int.reduceToNat, Int.reduceAdd, Int.reduceSub, Int.reduceLT, Int.reduceLE, Nat.reduceSub, Nat.reduceMul, Nat.reduceEqDiff, joinR, List.getD_cons_zero, List.getD_cons_succ]
   first | exact hK | exact fun _ => hK
 ·simp (disch := first | exact qDR | fail) only [qG2, Nat.reduceAdd, Nat.reduceLeDiff, Int.reduceToNat, Int.reduceAdd, Int.reduceSub, Int.reduceLT, Int.reduceLE, Nat.reduceSub, Nat.reduceMul, Nat.reduceEqDiff, joinBR, hE, hd0, hL, hix0', hE2, d2]
  refine loopT.intro (fun st w' => ∃ (k : Nat), k <= r.length /\ st = [.int .i64 (valL (r.take k) : Nat), .int .i64 (k : Nat)] /\ (r.take k).all digB = true /\ w' = w)
   (fun st _ => match st with
    | [_, .int _ z] => r.length - z.toNat
    | _ => 0) ⟨0, Nat.zero_le _, rfl, rfl, rfl⟩ ?_
  rintro st w' ⟨k, hk, rfl, hall, rfl⟩ _
  have hv := valL_lt _ hall
  have hv2 : valL (r.take k) < 10 ^ 10 := Nat.lt_of_lt_of_le hv (Nat.pow_le_pow_right (by decide) (by simp; omega))
  by_cases h4 : k < r.length
  ·obtain ⟨b, hb⟩ : ∃ b, r[k]? = some b := ⟨_, List.getElem?_eq_getElem h4⟩
   have hix := ixS hb
   have hnv : valL (r.take (k + 1)) = valL (r.take k) * 10 + (b.toNat - 48) := by
    unfold valL
    rw [List.take_add_one, hb, List.foldl_append]
    rfl
   have hna : (r.take (k + 1)).all digB = digB b := by
    rw [List.take_add_one, hb, List.all_append, hall]
    simp
   generalize valL (r.take k) = n at *
   have hbl := b.toNat_lt
   by_cases h5 : 48 <= b.toNat /\ b.toNat <= 57
   ·have hdb : digB b = true := decide_eq_true h5
    have e1 : ((b.toNat : Nat) : Int) - 48 = ((b.toNat - 48 : Nat) : Int) := by omega
    simp (disch := first | exact qDR | fail) only [qG2, Nat.reduceAdd, Nat.reduceLeDiff, Int.reduceToNat, Int.reduceAdd, Int.reduceSub, Int.reduceLT, Int.reduceLE, Nat.reduceSub, Nat.reduceMul, Nat.reduceEqDiff, joinBR, hix, List.getD_cons_zero, List.getD_cons_succ, e1]
    refine ⟨⟨k + 1, by omega, by rw [hnv]; simp, hna.trans hdb, trivial⟩, by first | omega | (simp <;> omega)⟩
   ·have hdb : r.all digB = false := by
     rw [List.all_eq_false]
     exact ⟨b, List.mem_of_getElem? hb, by unfold digB; simpa using h5⟩
    rw [hdb] at hK
    by_cases h6 : b.toNat < 48
    ·simp (disch := first | exact qDR | fail) only [qG2, Nat.reduceAdd, Nat.reduceLeDiff, Int.reduceToNat, Int.reduceAdd, Int.reduceSub, Int.reduceLT, Int.reduceLE, Nat.reduceSub, Nat.reduceMul, Nat.reduceEqDiff, joinBR, hix, List.getD_cons_zero, List.getD_cons_succ]
     exact hK
    ·simp (disch := first | exact qDR | fail) only [qG2, Nat.reduceAdd, Nat.reduceLeDiff, Int.reduceToNat, Int.reduceAdd, Int.reduceSub, Int.reduceLT, Int.reduceLE, Nat.reduceSub, Nat.reduceMul, Nat.reduceEqDiff, joinBR, hix, List.getD_cons_zero, List.getD_cons_succ]
     exact hK
  ·obtain rfl : k = r.length := by omega
   rw [List.take_length] at hall hv2 ⊢
   rw [hall] at hK
   generalize valL r = n at *
   simp (disch := first | exact qDR | fail) only [qG2, Nat.reduceAdd, Nat.reduceLeDiff, Int.reduceToNat, Int.reduceAdd, Int.reduceSub, Int.reduceLT, Int.reduceLE, Nat.reduceSub, Nat.reduceMul, Nat.reduceEqDiff, joinR, List.getD_cons_zero, List.getD_cons_succ]
   first | exact hK | exact fun _ => hK
 ·simp (disch := first | exact qDR | fail) only [qG2, Nat.reduceAdd, Nat.reduceLeDiff, Int.reduceToNat, Int.reduceAdd, Int.reduceSub, Int.reduceLT, Int.reduceLE, Nat.reduceSub, Nat.reduceMul, Nat.reduceEqDiff, joinBR, hE, hd0, hL, hix0', hE2]
  refine loopT.intro (fun st w' => ∃ (k : Nat), k <= r.length /\ st = [.int .i64 (valL (r.take k) : Nat), .int .i64 (k : Nat)] /\ (r.take k).all digB = true /\ w' = w)
   (fun st _ => match st with
    | [_, .int _ z] => r.length - z.toNat
    | _ => 0) ⟨0, Nat.zero_le _, rfl, rfl, rfl⟩ ?_
  rintro st w' ⟨k, hk, rfl, hall, rfl⟩ _
  have hv := valL_lt _ hall
  have hv2 : valL (r.take k) < 10 ^ 10 := Nat.lt_of_lt_of_le hv (Nat.pow_le_pow_right (by decide) (by simp; omega))
  by_cases h4 : k < r.length
  ·obtain ⟨b, hb⟩ : ∃ b, r[k]? = some b := ⟨_, List.getElem?_eq_getElem h4⟩
   have hix := ixS hb
   have hnv : valL (r.take (k + 1)) = valL (r.take k) * 10 + (b.toNat - 48) := by
    unfold valL
    rw [List.take_add_one, hb, List.foldl_append]
    rfl
   have hna : (r.take (k + 1)).all digB = digB b := by
    rw [List.take_add_one, hb, List.all_append, hall]
    simp
   generalize valL (r.take k) = n at *
   have hbl := b.toNat_lt
   by_cases h5 : 48 <= b.toNat /\ b.toNat <= 57
   ·have hdb : digB b = true := decide_eq_true h5
    have e1 : ((b.toNat : Nat) : Int) - 48 = ((b.toNat - 48 : Nat) : Int) := by omega
    simp (disch := first | exact qDR | fail) only [qG2, Nat.reduceAdd, Nat.reduceLeDiff, Int.reduceToNat, Int.reduceAdd, Int.reduceSub, Int.reduceLT, Int.reduceLE, Nat.reduceSub, Nat.reduceMul, Nat.reduceEqDiff, joinBR, hix, List.getD_cons_zero, List.getD_cons_succ, e1]
    refine ⟨⟨k + 1, by omega, by rw [hnv]; simp, hna.trans hdb, trivial⟩, by first | omega | (simp <;> omega)⟩
   ·have hdb : r.all digB = false := by
     rw [List.all_eq_false]
     exact ⟨b, List.mem_of_getElem? hb, by unfold digB; simpa using h5⟩
    rw [hdb] at hK
    by_cases h6 : b.toNat < 48
    ·simp (disch := first | exact qDR | fail) only [qG2, Nat.reduceAdd, Nat.reduceLeDiff, Int.reduceToNat, Int.reduceAdd, Int.reduceSub, Int.reduceLT, Int.reduceLE, Nat.reduceSub, Nat.reduceMul, Nat.reduceEqDiff, joinBR, hix, List.getD_cons_zero, List.getD_cons_succ]
     exact hK
    ·simp (disch := first | exact qDR | fail) only [qG2, Nat.reduceAdd, Nat.reduceLeDiff, Int.reduceToNat, Int.reduceAdd, Int.reduceSub, Int.reduceLT, Int.reduceLE, Nat.reduceSub, Nat.reduceMul, Nat.reduceEqDiff, joinBR, hix, List.getD_cons_zero, List.getD_cons_succ]
     exact hK
  ·obtain rfl : k = r.length := by omega
   rw [List.take_length] at hall hv2 ⊢
   rw [hall] at hK
   generalize valL r = n at *
   simp (disch := first | exact qDR | fail) only [qG2, Nat.reduceAdd, Nat.reduceLeDiff, Int.reduceToNat, Int.reduceAdd, Int.reduceSub, Int.reduceLT, Int.reduceLE, Nat.reduceSub, Nat.reduceMul, Nat.reduceEqDiff, joinR, List.getD_cons_zero, List.getD_cons_succ]
   first | exact hK | exact fun _ => hK
open Go.Fx
set_option maxRecDepth 100000
/-- a sign of a mark's name. -/
def chB (b : UInt8) : Bool := decide ((97 <= b.toNat /\ b.toNat <= 122) ∨ (48 <= b.toNat /\ b.toNat <= 57) ∨ b.toNat = 95)
def headB : List UInt8 -> Bool
 | [] => false
 | b :: _ => decide (97 <= b.toNat /\ b.toNat <= 122)
def namedF (s : List UInt8) : Bool := decide (s.length <= 64) && headB s && s.all chB
theorem qZ5 : type_of% (And.intro @szR (And.intro @izC_len (@izC_all))) := ⟨@szR, @izC_len, @izC_all⟩
theorem qD5 {p : Prop} (h : p := by first | assumption | omega | (simp only [qZ5] <;> omega) | rfl | decide) : p := h
theorem named_spec {w : World} {s : List UInt8} (hs : s.length < 4294967281) {K : Value -> World -> Prop} (hK : K (.bool (namedF s)) w) : callsK Tryz.prog 52 #[.string ⟨s.toArray⟩] w K := by
 apply F52_ok
 unfold F52
 have hE := eqlS s []
 have hL := lenS s
 cases s with
 | nil =>
  have hf : namedF [] = false := rfl
  rw [hf] at hK
  simp (disch := first | exact qD5 | fail) only [qG2, Nat.reduceAdd, Nat.reduceLeDiff, Int.reduceToNat, Int.reduceAdd, Int.reduceSub, Int.reduceLT, Int.reduceLE, Nat.reduceSub, Nat.reduceMul, Nat.reduceEqDiff, joinBR, hE]
  exact hK
 | cons b0 s0 =>
  have hE' : ∀ x y w, (binV .eql 9 x y (.string ⟨(b0 :: s0).toArray⟩) (.string ⟨#[]⟩)).run Tryz.prog w = .ok (.bool false) w := fun x y w => (hE x y w).trans (by rw [decide_eq_false (by simp)])
  have hix0 : ∀ w, (Instr.index 9 (.string ⟨(b0 :: s0).toArray⟩) (.int .i64 0)).run Tryz.prog w = .ok (.int .u8 (b0.toNat : Nat)) w := ixS (l := b0 :: s0) (k := 0) (b := b0) rfl
  have hb0 := b0.toNat_lt
  obtain ⟨s, hse⟩ : ∃ s, s = b0 :: s0 := ⟨_, rfl⟩
  have hn : namedF s = (decide (s.length <= 64) && decide (97 <= b0.toNat /\ b0.toNat <= 122) && s.all chB) := by rw [hse]; rfl
  rw [<- hse] at hK hE' hix0 hL hs ⊢
  rw [hn] at hK
  clear hn hse hE
  by_cases h1 : s.length <= 64
  ·rw [decide_eq_true h1, Bool.true_and] at hK
   by_cases h2 : 97 <= b0.toNat /\ b0.toNat <= 122
   ·rw [decide_eq_true h2, Bool.true_and] at hK
    simp (disch := first | exact qD5 | fail) only [qG2, Nat.reduceAdd, Nat.reduceLeDiff, Int.reduceToNat, Int.reduceAdd, Int.reduceSub, Int.reduceLT, Int.reduceLE, Nat.reduceSub, Nat.reduceMul, Nat.reduceEqDiff, joinBR, hE', hL, hix0]
    refine loopT.intro (fun st w' => ∃ (k : Nat), k <= s.length /\ st = [.int .i64 (k : Nat)] /\ (s.take k).all chB = true /\ w' = w)
     (fun st _ => match st with
      | [.int _ z] => s.length - z.toNat
      | _ => 0) ⟨0, Nat.zero_le _, rfl, rfl, rfl⟩ ?_
    rintro st w' ⟨k, hk, rfl, hall, rfl⟩ _
    by_cases h4 : k < s.length
    ·obtain ⟨b, hb⟩ : ∃ b, s[k]? = some b := ⟨_, List.getElem?_eq_getElem h4⟩
     have hix := ixS hb
     have hna : (s.take (k + 1)).all chB = chB b := by
      rw [List.take_add_one, hb, List.all_append, hall]
      simp
     have hbl := b.toNat_lt
     have hyes : chB b = true -> ((∃ (k_1 : Nat), k_1 <= s.length /\ [Value.int .i64 (k + 1 : Int)] = [Value.int .i64 (k_1 : Nat)] /\ (s.take k_1).all chB = true /\ True) /\ s.length - (k + 1) < s.length - k) := fun h => ⟨⟨k + 1, by omega, rfl, hna.trans h, trivial⟩, by omega⟩
     have hno : chB b = false -> K (.bool false) w' := fun h => by
      have : s.all chB = false := List.all_eq_false.2 ⟨b, List.mem_of_getElem? hb, by rw [h]; decide⟩
      rwa [this] at hK
     clear hK
     unfold chB at hyes hno
     by_cases c1 : b.toNat < 97
     ·by_cases c2 : b.toNat < 48
      ·simp (disch := first | exact qD5 | fail) only [qG2, Nat.reduceAdd, Nat.reduceLeDiff, Int.reduceToNat, Int.reduceAdd, Int.reduceSub, Int.reduceLT, Int.reduceLE, Nat.reduceSub, Nat.reduceMul, Nat.reduceEqDiff, joinBR, hix, List.getD_cons_zero]
       exact hno (decide_eq_false (by omega))
      ·by_cases c3 : 57 < b.toNat
       ·by_cases c4 : b.toNat = 95
        ·simp (disch := first | exact qD5 | fail) only [qG2, Nat.reduceAdd, Nat.reduceLeDiff, Int.reduceToNat, Int.reduceAdd, Int.reduceSub, Int.reduceLT, Int.reduceLE, Nat.reduceSub, Nat.reduceMul, Nat.reduceEqDiff, joinBR, hix, List.getD_cons_zero]
         exact ⟨⟨k + 1, by omega, rfl, by rw [hna]; exact decide_eq_true (by omega), trivial⟩, by first | omega | (simp <;> omega)⟩
        ·simp (disch := first | exact qD5 | fail) only [qG2, Nat.reduceAdd, Nat.reduceLeDiff, Int.reduceToNat, Int.reduceAdd, Int.reduceSub, Int.reduceLT, Int.reduceLE, Nat.reduceSub, Nat.reduceMul, Nat.reduceEqDiff, joinBR, hix, List.getD_cons_zero]
         exact hno (decide_eq_false (by omega))
       ·simp (disch := first | exact qD5 | fail) only [qG2, Nat.reduceAdd, Nat.reduceLeDiff, Int.reduceToNat, Int.reduceAdd, Int.reduceSub, Int.reduceLT, Int.reduceLE, Nat.reduceSub, Nat.reduceMul, Nat.reduceEqDiff, joinBR, hix, List.getD_cons_zero]
        exact ⟨⟨k + 1, by omega, rfl, by rw [hna]; exact decide_eq_true (by omega), trivial⟩, by first | omega | (simp <;> omega)⟩
     ·by_cases c3 : 122 < b.toNat
      ·simp (disch := first | exact qD5 | fail) only [qG2, Nat.reduceAdd, Nat.reduceLeDiff, Int.reduceToNat, Int.reduceAdd, Int.reduceSub, Int.reduceLT, Int.reduceLE, Nat.reduceSub, Nat.reduceMul, Nat.reduceEqDiff, joinBR, hix, List.getD_cons_zero]
       exact hno (decide_eq_false (by omega))
      ·simp (disch := first | exact qD5 | fail) only [qG2, Nat.reduceAdd, Nat.reduceLeDiff, Int.reduceToNat, Int.reduceAdd, Int.reduceSub, Int.reduceLT, Int.reduceLE, Nat.reduceSub, Nat.reduceMul, Nat.reduceEqDiff, joinBR, hix, List.getD_cons_zero]
       exact ⟨⟨k + 1, by omega, rfl, by rw [hna]; exact decide_eq_true (by omega), trivial⟩, by first | omega | (simp <;> omega)⟩
    ·obtain rfl : k = s.length := by omega
     rw [List.take_length] at hall
     rw [hall] at hK
     simp (disch := first | exact qD5 | fail) only [qG2, Nat.reduceAdd, Nat.reduceLeDiff, Int.reduceToNat, Int.reduceAdd, Int.reduceSub, Int.reduceLT, Int.reduceLE, Nat.reduceSub, Nat.reduceMul, Nat.reduceEqDiff, joinBR, List.getD_cons_zero]
     exact hK
   ·rw [decide_eq_false h2] at hK
    by_cases h3 : b0.toNat < 97
    ·simp (disch := first | exact qD5 | fail) only [qG2, Nat.reduceAdd, Nat.reduceLeDiff, Int.reduceToNat, Int.reduceAdd, Int.reduceSub, Int.reduceLT, Int.reduceLE, Nat.reduceSub, Nat.reduceMul, Nat.reduceEqDiff, joinBR, hE', hL, hix0]
     exact hK
    ·simp (disch := first | exact qD5 | fail) only [qG2, Nat.reduceAdd, Nat.reduceLeDiff, Int.reduceToNat, Int.reduceAdd, Int.reduceSub, Int.reduceLT, Int.reduceLE, Nat.reduceSub, Nat.reduceMul, Nat.reduceEqDiff, joinBR, hE', hL, hix0]
     exact hK
  ·rw [decide_eq_false h1] at hK
   simp (disch := first | exact qD5 | fail) only [qG2, Nat.reduceAdd, Nat.reduceLeDiff, Int.reduceToNat, Int.reduceAdd, Int.reduceSub, Int.reduceLT, Int.reduceLE, Nat.reduceSub, Nat.reduceMul, Nat.reduceEqDiff, joinBR, hE', hL]
   exact hK
open Go.Fx
set_option maxRecDepth 100000
theorem appT {base : Nat} {v x : Value} {rows rows2 : List (List Value)} {w : World} {K : Value -> World -> Prop} (hown : OwnR w base 9 1 v rows) (hx : RowsAt w x 1 rows2) (h1 : ∀ r ∈ rows2, r.all (fun v => v.oneCell') = true)
  (hl : rows.length + rows2.length <= 1000000) (hbase : base <= w.heap.size) (hK : ∀ v' w', OwnR w' base 9 1 v' (rows ++ rows2) -> App base v w w' -> K v' w') : resV K ((Builtin.append_ #[80, 80] 80 #[v, x]).run Tryz.prog w) :=
 kV_appR Tryz.underlying80 (by kernel_rfl) (by omega) (bytes := 16) hown hx h1 (by simp only [maxLen]; omega) (by omega) hbase hK
/-- texts that are put together in a variable at bx. -/
structure Acc (w0 w4 w : World) (bx : Nat) (v : Value) (L : List (List UInt8)) : Prop where
 box : w.heap[bx]? = some (.cells [v].toArray 80 (0, 0))
 own : OwnR w w4.heap.size 9 1 v (L.map sC)
 low : w0.heap.size <= bx
 lt : bx < w4.heap.size
 ext : Ext [] w0 w
 ext4 : Ext [bx] w4 w
theorem Acc.stay {w0 w4 w w' : World} {bx : Nat} {v : Value} {L : List (List UInt8)} (h : Acc w0 w4 w bx v L) (hx : Ext [] w w') : Acc w0 w4 w' bx v L :=
 ⟨hx.at h.box (by simp), h.own.ext hx (by simp), h.low, h.lt, h.ext.trans hx (by simp), h.ext4.trans hx (by simp)⟩
theorem Acc.push {w0 w4 w w' : World} {bx : Nat} {v v' : Value} {L : List (List UInt8)} {s : List UInt8} (h : Acc w0 w4 w bx v L) (ho : OwnR w' w4.heap.size 9 1 v' ((L ++ [s]).map sC)) (ha : App w4.heap.size v w w') : Acc w0 w4 (World.upd w' bx [v']) bx v' (L ++ [s]) := by
 have hb := h.box
 have lb := lt_of_at hb
 have hlow := h.low
 have hlt := h.lt
 have hbv : blockOf v ≠ some bx := fun e => by
  have := h.own.block bx e
  omega
 have hb' : w'.heap[bx]? = some (.cells [v].toArray 80 (0, 0)) := (ha.kept bx lb hbv).trans hb
 have hx' := ha.ext w0 [] (by omega) h.ext
 have hx4 := ha.ext w4 [bx] (Nat.le_refl _) h.ext4
 have hx2 : Ext [bx] w' (World.upd w' bx [v']) := Ext.updI (by simp) Ext.refl
 refine ⟨upd_at hb', ho.ext hx2 fun b hb2 => ?_, hlow, hlt, ?_, hx4.trans hx2 (by intro k hk; simp at hk; simp [hk])⟩
 ·have := ho.block b hb2
  simp
  omega
 ·exact hx'.trans hx2 (by intro k hk; simp at hk; omega)
theorem dec_len {n : Int} : (dec n).length <= 21 := by
 unfold dec
 split
 ·have := decF_len 20 n.natAbs
  simp [decN]
  omega
 ·have := decF_len 20 n.natAbs
  simp [decN]
  omega
theorem reg_spec {w0 w4 w : World} {bx : Nat} {v : Value} {L : List (List UInt8)} {n : Int} (hn : in64 n) (h : Acc w0 w4 w bx v L) (hl : L.length <= 1000) {K : Value -> World -> Prop}
  (hK : ∀ v' w', Acc w0 w4 w' bx v' (L ++ [99 :: dec n]) -> K (.tuple #[]) w') : callsK Tryz.prog 65 #[.int .i64 n, .pointer (some ⟨bx, 0, none⟩)] w K := by
 apply F65_ok
 unfold F65
 have hd := dec_len (n := n)
 have hadd : ∀ (x y : Operand) (w : World), (binV .add 9 x y (.string ⟨#[99]⟩) (.string ⟨(dec n).toArray⟩)).run Tryz.prog w = .ok (.string ⟨(99 :: dec n).toArray⟩) w := addS (a := [99]) (b := dec n) (by simp; omega)
 have h1 := h.box
 simp (disch := first | exact qD5 | fail) only [qG2, Nat.reduceAdd, Nat.reduceLeDiff, Int.reduceToNat, Int.reduceAdd, Int.reduceSub, Int.reduceLT, Int.reduceLE, Nat.reduceSub, Nat.reduceMul, Nat.reduceEqDiff, h1]
 refine ⟨?_, ?_⟩
 ·refine digits_spec hn fun w2 hx2 => ?_
  have h2 := (h.stay (Ext.trans (S := []) qX hx2 (by simp)))
  have h3 : Acc w0 w4 (w2.alloc (.cells [.string ⟨(99 :: dec n).toArray⟩].toArray 9)) bx v L := h2.stay qX
  have b2 := h2.box
  have b3 := h3.box
  have l3 := lt_of_at b3
  simp (disch := first | exact qD5 | fail) only [qG2, Nat.reduceAdd, Nat.reduceLeDiff, Int.reduceToNat, Int.reduceAdd, Int.reduceSub, Int.reduceLT, Int.reduceLE, Nat.reduceSub, Nat.reduceMul, Nat.reduceEqDiff, hadd, b2, b3, and_self]
  refine appT h3.own (rows2 := [sC (99 :: dec n)]) (OwnR.fresh (base := 0) rfl rfl (Nat.zero_le _)).rows (by intro r hr; simp at hr; subst hr; rfl) (by simp; omega) (by have := h3.ext4.size; omega) fun v8 w5 ho ha => ?_
  rw [show L.map sC ++ [sC (99 :: dec n)] = (L ++ [99 :: dec n]).map sC by simp] at ho
  obtain ⟨a8, c8, hv8⟩ := ho.rows.len
  generalize ((L ++ [99 :: dec n]).map sC).length = n8 at hv8
  subst hv8
  have hP := h3.push ho ha
  have hb4 : w5.heap[bx]? = some (.cells [v].toArray 80 (0, 0)) := (ha.kept bx l3 (fun e => by have := h3.own.block bx e; have := h3.lt; omega)).trans b3
  have l4 := lt_of_at hb4
  simp (disch := first | exact qD5 | fail) only [qG2, Nat.reduceAdd, Nat.reduceLeDiff, Int.reduceToNat, Int.reduceAdd, Int.reduceSub, Int.reduceLT, Int.reduceLE, Nat.reduceSub, Nat.reduceMul, Nat.reduceEqDiff, hb4, List.set_cons_zero]
  exact hK _ _ hP
 ·refine digits_spec hn fun w2 hx2 => ?_
  have h2 := (h.stay (Ext.trans (S := []) qX hx2 (by simp)))
  have h3 : Acc w0 w4 (w2.alloc (.cells [.string ⟨(99 :: dec n).toArray⟩].toArray 9)) bx v L := h2.stay qX
  have b2 := h2.box
  have b3 := h3.box
  have l3 := lt_of_at b3
  simp (disch := first | exact qD5 | fail) only [qG2, Nat.reduceAdd, Nat.reduceLeDiff, Int.reduceToNat, Int.reduceAdd, Int.reduceSub, Int.reduceLT, Int.reduceLE, Nat.reduceSub, Nat.reduceMul, Nat.reduceEqDiff, hadd, b2, b3, and_self]
  refine appT h3.own (rows2 := [sC (99 :: dec n)]) (OwnR.fresh (base := 0) rfl rfl (Nat.zero_le _)).rows (by intro r hr; simp at hr; subst hr; rfl) (by simp; omega) (by have := h3.ext4.size; omega) fun v8 w5 ho ha => ?_
  rw [show L.map sC ++ [sC (99 :: dec n)] = (L ++ [99 :: dec n]).map sC by simp] at ho
  obtain ⟨a8, c8, hv8⟩ := ho.rows.len
  generalize ((L ++ [99 :: dec n]).map sC).length = n8 at hv8
  subst hv8
  have hP := h3.push ho ha
  have hb4 : w5.heap[bx]? = some (.cells [v].toArray 80 (0, 0)) := (ha.kept bx l3 (fun e => by have := h3.own.block bx e; have := h3.lt; omega)).trans b3
  have l4 := lt_of_at hb4
  simp (disch := first | exact qD5 | fail) only [qG2, Nat.reduceAdd, Nat.reduceLeDiff, Int.reduceToNat, Int.reduceAdd, Int.reduceSub, Int.reduceLT, Int.reduceLE, Nat.reduceSub, Nat.reduceMul, Nat.reduceEqDiff, hb4, List.set_cons_zero]
  exact hK _ _ hP
open Go.Fx
set_option maxRecDepth 100000
theorem bytes_of_text {l : List UInt8} (hl : l.length <= 1000000) {w : World} {K : Value -> World -> Prop} (hK : ∀ v w', RowsAt w' v 1 (l.map bC) -> Ext [] w w' -> (∀ b, blockOf v = some b -> w.heap.size <= b) -> K v w') : resV K ((convert 9 37 (.string ⟨l.toArray⟩)).run Tryz.prog w) := by
 have hrun := run_bytes_of_string (P := Tryz.prog) w 9 37 5 ⟨l.toArray⟩ Tryz.underlying9 Tryz.underlying37 Tryz.underlying5
 have hsz := size_mk l
 have hge := grownCap_ge w (⟨l.toArray⟩ : ByteArray).size 0 5
 have hcm := grownCap_le_maxLen w (⟨l.toArray⟩ : ByteArray).size 0 5 (by rw [hsz]; simp only [maxLen]; omega)
 generalize grownCap w (⟨l.toArray⟩ : ByteArray).size 0 5 = c at *
 rw [hsz] at hrun hge
 rw [hrun]
 show K _ _
 refine hK _ _ ⟨some ⟨w.heap.size, 0, none⟩, c, by rw [List.length_map], ⟨by simpa using hge, hcm⟩, .inr ⟨w.heap.size, 0, (bytesRow ⟨l.toArray⟩ c).toList, 5, _, rfl, (alloc_at rfl).trans (by rw [Array.toArray_toList]), by simp [bytesRow], fun i r hi => ?_⟩⟩ ?_ ?_
 ·rw [List.getElem?_map] at hi
  obtain ⟨b, hb, rfl⟩ := Option.map_eq_some_iff.1 hi
  obtain ⟨hi2, rfl⟩ := List.getElem?_eq_some_iff.1 hb
  have hat := bytesRow_at ⟨l.toArray⟩ c i (by simpa using hi2)
  unfold Go.Fx.sub
  rw [Nat.zero_add, Nat.mul_one, List.take_one, List.head?_drop, Array.getElem?_toList, hat]
  rfl
 ·exact ⟨rfl, rfl, rfl, by show w.heap.size <= (w.heap.push _).size; simp, fun k hk _ => (alloc_ne (by show k ≠ w.heap.size; omega)).trans rfl⟩
 ·intro b hb
  have : w.heap.size = b := Option.some.inj hb
  omega
theorem Join_spec {w : World} {v : Value} {L : List (List UInt8)} {sep : List UInt8} (hv : RowsAt w v 1 (L.map sC)) (h0 : L ≠ []) (hn : L.length <= 1000) (hj : (Lib.join L sep).length <= 1000000) {K : Value -> World -> Prop}
  (hK : ∀ w', Ext [] w w' -> K (.string ⟨(Lib.join L sep).toArray⟩) w') : callsK Tryz.prog 67 #[v, .string ⟨sep.toArray⟩] w K := by
 obtain ⟨a, cap, rfl, hc, hr⟩ := hv
 rcases hr with hr | ⟨b, o, l, E, f, rfl, hb, hfit, hsub⟩
 ·exact absurd (by simpa using hr) h0
 ·have e1 : (L.map fun x => (⟨x.toArray⟩ : ByteArray)).map (·.data.toList) = L := by
   rw [List.map_map]
   exact List.map_id L
  have := Tryz.strings_Join b o cap (L.map fun x => ⟨x.toArray⟩) ⟨sep.toArray⟩ w (fun j x hx => ?_) (lt_of_at hb) (by simp; omega) (by simpa using hc.1) (by rw [e1]; show (Lib.join L sep).length <= _; omega)
  ·rw [List.length_map] at this
   rw [List.length_map]
   refine Calls.mono this ?_
   rintro e w' ⟨rfl, hbl⟩
   refine ⟨_, rfl, ?_⟩
   rw [e1]
   exact hK w' (ext_belowS Ext.refl hbl)
  ·rw [List.getElem?_map] at hx
   obtain ⟨s, hs, rfl⟩ := Option.map_eq_some_iff.1 hx
   have h1 := hsub j (sC s) (by rw [List.getElem?_map, hs]; rfl)
   rw [cell_of_block hb]
   have h2 : (Go.Fx.sub l (o + j * 1) 1)[0]? = some (.string ⟨s.toArray⟩) := by rw [h1]; rfl
   unfold Go.Fx.sub at h2
   rw [List.getElem?_take_of_lt (by omega), List.getElem?_drop] at h2
   rw [Nat.mul_one, Nat.add_zero] at h2
   exact h2
def partF (i : IZ) (b : UInt8) : List UInt8 := if b = 100 then 99 :: dec i.rd else if b = 97 then 99 :: dec i.r1 else if b = 98 then 99 :: dec i.r2 else dec i.im
def nameR (i : IZ) : List UInt8 := (rowZ i.op).n
/-- an instruction's text. -/
def textF (i : IZ) : List UInt8 := if encOk i then (if orderS (rowZ i.op).s = [] then nameR i else nameR i ++ ([32] ++ Lib.join ((orderS (rowZ i.op).s).map (partF i)) [44, 32])) else []
theorem order_len (s : Nat) : (orderS s).length <= 3 := by
 unfold orderS
 repeat' split
 all_goals simp
theorem name_len (i : IZ) : (nameR i).length <= 20 := by
 unfold nameR rowZ
 split
 ·rename_i h
  unfold okOp at h
  rw [decide_eq_true_eq] at h
  have hall : rowI.all (fun r => decide (r.n.length <= 20)) = true := by decide
  have := List.all_eq_true.1 hall _ (row_mem (k := (i.op - 1).toNat) (by omega))
  exact of_decide_eq_true this
 ·exact Nat.zero_le _
theorem part_len (i : IZ) (b : UInt8) : (partF i b).length <= 22 := by
 have h1 := dec_len (n := i.rd)
 have h2 := dec_len (n := i.r1)
 have h3 := dec_len (n := i.r2)
 have h4 := dec_len (n := i.im)
 unfold partF
 repeat' split
 all_goals first | (simp; omega) | omega
theorem join_len (sep : List UInt8) : ∀ (L : List (List UInt8)), (∀ x ∈ L, x.length <= 22) -> (Lib.join L sep).length <= L.length * (22 + sep.length)
 | [], _ => by simp [Lib.join_nil]
 | x :: L, h => by
  rw [Lib.join_cons]
  have h1 := h x (by simp)
  have h2 : ∀ (L : List (List UInt8)), (∀ x ∈ L, x.length <= 22) -> (Lib.joinTail sep L).length <= L.length * (22 + sep.length) := by
   intro L
   induction L with
   | nil => intro _; simp [Lib.joinTail]
   | cons y L ih =>
    intro h
    have := ih fun z hz => h z (by simp [hz])
    have hy := h y (by simp)
    unfold Lib.joinTail at this ⊢
    rw [List.map_cons, List.flatten_cons, List.length_append, List.length_append, List.length_cons, Nat.add_mul]
    omega
  have := h2 L fun z hz => h z (by simp [hz])
  rw [List.length_append, List.length_cons, Nat.add_mul]
  omega
theorem textF_len (i : IZ) : (textF i).length <= 100 := by
 have hn := name_len i
 have ho := order_len (rowZ i.op).s
 have hj := join_len [44, 32] ((orderS (rowZ i.op).s).map (partF i)) (by intro x hx; obtain ⟨b, -, rfl⟩ := List.mem_map.1 hx; exact part_len i b)
 rw [List.length_map] at hj
 have : (orderS (rowZ i.op).s).length * (22 + [44, 32].length) <= 3 * 24 := Nat.mul_le_mul ho (by simp)
 unfold textF
 split
 ·split
  ·omega
  ·rw [List.length_append, List.length_append]
   simp
   omega
 ·simp
set_option maxHeartbeats 1000000 in
theorem Text_spec {w : World} {i : IZ} (hi : izOk i) {K : Value -> World -> Prop} (hK : ∀ w', Ext [] w w' -> K (.string ⟨(textF i).toArray⟩) w') : callsK Tryz.prog 34 #[.agg (izC i).toArray] w K := by
 have hi' := hi
 obtain ⟨ho, hrd, hr1, hr2, him⟩ := hi'
 apply F34_ok
 unfold F34
 have i0 : (izC i)[0]? = some (.int .i64 i.op) := rfl
 have i1 : (izC i)[1]? = some (.int .i64 i.rd) := rfl
 have i2 : (izC i)[2]? = some (.int .i64 i.r1) := rfl
 have i3 : (izC i)[3]? = some (.int .i64 i.r2) := rfl
 have i4 : (izC i)[4]? = some (.int .i64 i.im) := rfl
 simp (disch := first | exact qD5 | fail) only [qG2, Nat.reduceAdd, Nat.reduceLeDiff, Int.reduceToNat, Int.reduceAdd, Int.reduceSub, Int.reduceLT, Int.reduceLE, Nat.reduceSub, Nat.reduceMul, Nat.reduceEqDiff, izC_sub]
 have g1 : (w.alloc (.cells (izC i).toArray 25)).heap[w.heap.size]? = some (.cells (izC i).toArray 25 (0, 0)) := alloc_at rfl
 have hx0 : Ext [] w (w.alloc (.cells (izC i).toArray 25)) := Ext.alloc Ext.refl _ _
 refine Encode_spec hi fun w1 hx1 => ?_
 have g1a := hx1.at g1 (by simp)
 replace hx0 := hx0.trans hx1 (by simp)
 clear g1 hx1
 have hT : textF i = if encOk i then (if orderS (rowZ i.op).s = [] then nameR i else nameR i ++ ([32] ++ Lib.join ((orderS (rowZ i.op).s).map (partF i)) [44, 32])) else [] := rfl
 cases he : encOk i with
 | false =>
  rw [he] at hT
  rw [hT] at hK
  simp (disch := first | exact qD5 | fail) only [qG2, Nat.reduceAdd, Nat.reduceLeDiff, Int.reduceToNat, Int.reduceAdd, Int.reduceSub, Int.reduceLT, Int.reduceLE, Nat.reduceSub, Nat.reduceMul, Nat.reduceEqDiff]
  exact hK _ hx0
 | true =>
  rw [he, if_pos rfl] at hT
  rw [hT] at hK
  clear hT
  have l1 := lt_of_at g1a
  simp (disch := first | exact qD5 | fail) only [qG2, Nat.reduceAdd, Nat.reduceLeDiff, Int.reduceToNat, Int.reduceAdd, Int.reduceSub, Int.reduceLT, Int.reduceLE, Nat.reduceSub, Nat.reduceMul, Nat.reduceEqDiff, i0]
  have hxb : Ext [] w1 (w1.alloc (.cells [.slice none 0 0].toArray 80)) := qX
  have gb : (w1.alloc (.cells [.slice none 0 0].toArray 80)).heap[w1.heap.size]? = some (.cells [.slice none 0 0].toArray 80 (0, 0)) := alloc_at rfl
  have g1b := hxb.at g1a (by simp)
  obtain ⟨w2, hw2⟩ : ∃ w2, w2 = w1.alloc (.cells [.slice none 0 0].toArray 80) := ⟨_, rfl⟩
  have gb2 : w2.heap[w1.heap.size]? = some (.cells [.slice none 0 0].toArray 80 (0, 0)) := hw2 ▸ gb
  have hxb2 : Ext [] w1 w2 := hw2 ▸ hxb
  rw [<- hw2] at g1b
  simp (disch := first | exact qD5 | fail) only [qG2, Nat.reduceAdd, Nat.reduceLeDiff, Int.reduceToNat, Int.reduceAdd, Int.reduceSub, Int.reduceLT, Int.reduceLE, Nat.reduceSub, Nat.reduceMul, Nat.reduceEqDiff, g1a, i0]
  rw [<- hw2]
  refine Shape_spec ho fun w3 hx3 => ?_
  refine order_spec (rowZ_sh i.op) ?_
  have hol := order_len (rowZ i.op).s
  have hpj := join_len [44, 32] ((orderS (rowZ i.op).s).map (partF i)) (by intro x hx; obtain ⟨b, -, rfl⟩ := List.mem_map.1 hx; exact part_len i b)
  rw [List.length_map] at hpj
  have hpj2 : (orderS (rowZ i.op).s).length * (22 + [44, 32].length) <= 3 * 24 := Nat.mul_le_mul hol (by simp)
  generalize orderS (rowZ i.op).s = o at *
  simp (disch := first | exact qD5 | fail) only [qG2, Nat.reduceAdd, Nat.reduceLeDiff, Int.reduceToNat, Int.reduceAdd, Int.reduceSub, Int.reduceLT, Int.reduceLE, Nat.reduceSub, Nat.reduceMul, Nat.reduceEqDiff]
  refine bytes_of_text (by omega) fun vb w4 hvb hx4 hvbb => ?_
  have hlb := hvb.lenR (ty := 3) Tryz.underlying37
  rw [List.length_map] at hlb
  have hx34 := hx3.trans hx4 (by simp)
  have gb4 := hx34.at gb2 (by simp)
  have hacc4 : Acc w1 w4 w4 w1.heap.size (.slice none 0 0) [] := ⟨gb4, OwnR.nil, Nat.le_refl _, lt_of_at gb4, hxb2.trans hx34 (by simp), Ext.refl⟩
  simp (disch := first | exact qD5 | fail) only [qG2, Nat.reduceAdd, Nat.reduceLeDiff, Int.reduceToNat, Int.reduceAdd, Int.reduceSub, Int.reduceLT, Int.reduceLE, Nat.reduceSub, Nat.reduceMul, Nat.reduceEqDiff, hlb]
  refine loopT.intro (fun st w' => ∃ (k : Nat) (v : Value), k <= o.length /\ st = [.int .i64 (k : Nat)] /\ Acc w1 w4 w' w1.heap.size v ((o.take k).map (partF i)))
   (fun st _ => match st with
    | [.int _ z] => o.length - z.toNat
    | _ => 0) ⟨0, _, Nat.zero_le _, rfl, hacc4⟩ ?_
  rintro st w5 ⟨k, v, hk, rfl, hacc⟩ _
  have g5 := hacc.ext.at g1a (by simp)
  have l5 := lt_of_at g5
  have hbx := hacc.box
  have lbx := lt_of_at hbx
  by_cases h4 : k < o.length
  ·obtain ⟨b, hb⟩ : ∃ b, o[k]? = some b := ⟨_, List.getElem?_eq_getElem h4⟩
   have hrow : (o.map bC)[k]? = some (bC b) := by rw [List.getElem?_map, hb]; rfl
   obtain ⟨b0, o0, lb, E0, f0, hix, hb0, hfit, hblt, hbk, hsub, hget⟩ := RowsAt.ixR (P := Tryz.prog) (t := 37) Tryz.underlying37 Tryz.sizeOf5 hvb hrow
   have hne0 : b0 ≠ w1.heap.size := by
    have q1 := hvbb b0 hbk
    have q2 := lt_of_at (hx3.at gb2 (by simp))
    omega
   have hb5 := hacc.ext4.at hb0 (by simpa using hne0)
   have hcell := hget (o0 + 0) 0 rfl (by omega)
   have hc0 : lb[o0]? = some (.int .u8 (b.toNat : Nat)) := by simpa [bC] using hcell
   have hnx : (o.take (k + 1)).map (partF i) = (o.take k).map (partF i) ++ [partF i b] := by
    rw [List.take_add_one, hb, List.map_append]
    rfl
   have hlk : ((o.take k).map (partF i)).length <= 1000 := by simp; omega
   simp (disch := first | exact qD5 | fail) only [qG2, Nat.reduceAdd, Nat.reduceLeDiff, Int.reduceToNat, Int.reduceAdd, Int.reduceSub, Int.reduceLT, Int.reduceLE, Nat.reduceSub, Nat.reduceMul, Nat.reduceEqDiff, List.getD_cons_zero]
   refine joinL.intro fun J2 hJ2 => ?_
   have hgo : ∀ v' w6, Acc w1 w4 w6 w1.heap.size v' ((o.take k).map (partF i) ++ [partF i b]) -> J2 [] w6 := by
    intro v' w6 ha
    apply hJ2
    intro _
    simp (disch := first | exact qD5 | fail) only [qG2, Nat.reduceAdd, Nat.reduceLeDiff, Int.reduceToNat, Int.reduceAdd, Int.reduceSub, Int.reduceLT, Int.reduceLE, Nat.reduceSub, Nat.reduceMul, Nat.reduceEqDiff, List.getD_cons_zero]
    exact ⟨⟨k + 1, v', by omega, rfl, by rw [hnx]; exact ha⟩, by first | omega | (simp <;> omega)⟩
   have hbl := b.toNat_lt
   have hbe : ∀ c : UInt8, (((b.toNat : Nat) : Int) = (c.toNat : Nat)) ↔ b = c := fun c => ⟨fun h => UInt8.toNat_inj.1 (by omega), fun h => by rw [h]⟩
   by_cases c1 : b = 100
   ·have e : ((b.toNat : Nat) : Int) = 100 := (hbe 100).2 c1
    have hp : partF i b = 99 :: dec i.rd := by rw [partF, if_pos c1]
    simp (disch := first | exact qD5 | fail) only [qG2, Nat.reduceAdd, Nat.reduceLeDiff, Int.reduceToNat, Int.reduceAdd, Int.reduceSub, Int.reduceLT, Int.reduceLE, Nat.reduceSub, Nat.reduceMul, Nat.reduceEqDiff, hix, hb5, hc0, e, g5, i1]
    exact reg_spec hrd hacc hlk fun v' w6 ha => hgo v' w6 (by rw [hp]; exact ha)
   have e1 : ¬ ((b.toNat : Nat) : Int) = 100 := fun h => c1 ((hbe 100).1 h)
   by_cases c2 : b = 97
   ·have e : ((b.toNat : Nat) : Int) = 97 := (hbe 97).2 c2
    have hp : partF i b = 99 :: dec i.r1 := by rw [partF, if_neg c1, if_pos c2]
    simp (disch := first | exact qD5 | fail) only [qG2, Nat.reduceAdd, Nat.reduceLeDiff, Int.reduceToNat, Int.reduceAdd, Int.reduceSub, Int.reduceLT, Int.reduceLE, Nat.reduceSub, Nat.reduceMul, Nat.reduceEqDiff, hix, hb5, hc0, e, g5, i2]
    exact reg_spec hr1 hacc hlk fun v' w6 ha => hgo v' w6 (by rw [hp]; exact ha)
   have e2 : ¬ ((b.toNat : Nat) : Int) = 97 := fun h => c2 ((hbe 97).1 h)
   by_cases c3 : b = 98
   ·have e : ((b.toNat : Nat) : Int) = 98 := (hbe 98).2 c3
    have hp : partF i b = 99 :: dec i.r2 := by rw [partF, if_neg c1, if_neg c2, if_pos c3]
    simp (disch := first | exact qD5 | fail) only [qG2, Nat.reduceAdd, Nat.reduceLeDiff, Int.reduceToNat, Int.reduceAdd, Int.reduceSub, Int.reduceLT, Int.reduceLE, Nat.reduceSub, Nat.reduceMul, Nat.reduceEqDiff, hix, hb5, hc0, e, g5, i3]
    exact reg_spec hr2 hacc hlk fun v' w6 ha => hgo v' w6 (by rw [hp]; exact ha)
   have e3 : ¬ ((b.toNat : Nat) : Int) = 98 := fun h => c3 ((hbe 98).1 h)
   have hp : partF i b = dec i.im := by rw [partF, if_neg c1, if_neg c2, if_neg c3]
   have hdl := dec_len (n := i.im)
   simp (disch := first | exact qD5 | fail) only [qG2, Nat.reduceAdd, Nat.reduceLeDiff, Int.reduceToNat, Int.reduceAdd, Int.reduceSub, Int.reduceLT, Int.reduceLE, Nat.reduceSub, Nat.reduceMul, Nat.reduceEqDiff, hix, hb5, hc0, e1, e2, e3, g5, i4, hbx]
   refine ⟨?_, ?_, ?_⟩
   ·refine digits_spec him fun w6 hx6 => ?_
    have h2 := hacc.stay (Ext.trans (S := []) qX hx6 (by simp))
    have h3 : Acc w1 w4 (w6.alloc (.cells [.string ⟨(dec i.im).toArray⟩].toArray 9)) w1.heap.size v ((o.take k).map (partF i)) := h2.stay qX
    have b2 := h2.box
    have b3 := h3.box
    have l3 := lt_of_at b3
    simp (disch := first | exact qD5 | fail) only [qG2, Nat.reduceAdd, Nat.reduceLeDiff, Int.reduceToNat, Int.reduceAdd, Int.reduceSub, Int.reduceLT, Int.reduceLE, Nat.reduceSub, Nat.reduceMul, Nat.reduceEqDiff, b2, b3, and_self]
    refine appT h3.own (rows2 := [sC (dec i.im)]) (OwnR.fresh (base := 0) rfl rfl (Nat.zero_le _)).rows (by intro r hr; simp at hr; subst hr; rfl) (by simp; omega) (by have := h3.ext4.size; omega) fun v8 w7 ho ha => ?_
    rw [show ((o.take k).map (partF i)).map sC ++ [sC (dec i.im)] = ((o.take k).map (partF i) ++ [dec i.im]).map sC by simp] at ho
    obtain ⟨a8, c8, hv8⟩ := ho.rows.len
    generalize (((o.take k).map (partF i) ++ [dec i.im]).map sC).length = n8 at hv8
    subst hv8
    have hP := h3.push ho ha
    have hb4 : w7.heap[w1.heap.size]? = some (.cells [v].toArray 80 (0, 0)) := (ha.kept _ l3 (fun e => by have := h3.own.block _ e; have := h3.lt; omega)).trans b3
    have l4 := lt_of_at hb4
    simp (disch := first | exact qD5 | fail) only [qG2, Nat.reduceAdd, Nat.reduceLeDiff, Int.reduceToNat, Int.reduceAdd, Int.reduceSub, Int.reduceLT, Int.reduceLE, Nat.reduceSub, Nat.reduceMul, Nat.reduceEqDiff, hb4, List.set_cons_zero]
    exact hgo _ _ (by rw [hp]; exact hP)
   ·refine digits_spec him fun w6 hx6 => ?_
    have h2 := hacc.stay (Ext.trans (S := []) qX hx6 (by simp))
    have h3 : Acc w1 w4 (w6.alloc (.cells [.string ⟨(dec i.im).toArray⟩].toArray 9)) w1.heap.size v ((o.take k).map (partF i)) := h2.stay qX
    have b2 := h2.box
    have b3 := h3.box
    have l3 := lt_of_at b3
    simp (disch := first | exact qD5 | fail) only [qG2, Nat.reduceAdd, Nat.reduceLeDiff, Int.reduceToNat, Int.reduceAdd, Int.reduceSub, Int.reduceLT, Int.reduceLE, Nat.reduceSub, Nat.reduceMul, Nat.reduceEqDiff, b2, b3, and_self]
    refine appT h3.own (rows2 := [sC (dec i.im)]) (OwnR.fresh (base := 0) rfl rfl (Nat.zero_le _)).rows (by intro r hr; simp at hr; subst hr; rfl) (by simp; omega) (by have := h3.ext4.size; omega) fun v8 w7 ho ha => ?_
    rw [show ((o.take k).map (partF i)).map sC ++ [sC (dec i.im)] = ((o.take k).map (partF i) ++ [dec i.im]).map sC by simp] at ho
    obtain ⟨a8, c8, hv8⟩ := ho.rows.len
    generalize (((o.take k).map (partF i) ++ [dec i.im]).map sC).length = n8 at hv8
    subst hv8
    have hP := h3.push ho ha
    have hb4 : w7.heap[w1.heap.size]? = some (.cells [v].toArray 80 (0, 0)) := (ha.kept _ l3 (fun e => by have := h3.own.block _ e; have := h3.lt; omega)).trans b3
    have l4 := lt_of_at hb4
    simp (disch := first | exact qD5 | fail) only [qG2, Nat.reduceAdd, Nat.reduceLeDiff, Int.reduceToNat, Int.reduceAdd, Int.reduceSub, Int.reduceLT, Int.reduceLE, Nat.reduceSub, Nat.reduceMul, Nat.reduceEqDiff, hb4, List.set_cons_zero]
    exact hgo _ _ (by rw [hp]; exact hP)
   ·refine digits_spec him fun w6 hx6 => ?_
    have h2 := hacc.stay (Ext.trans (S := []) qX hx6 (by simp))
    have h3 : Acc w1 w4 (w6.alloc (.cells [.string ⟨(dec i.im).toArray⟩].toArray 9)) w1.heap.size v ((o.take k).map (partF i)) := h2.stay qX
    have b2 := h2.box
    have b3 := h3.box
    have l3 := lt_of_at b3
    simp (disch := first | exact qD5 | fail) only [qG2, Nat.reduceAdd, Nat.reduceLeDiff, Int.reduceToNat, Int.reduceAdd, Int.reduceSub, Int.reduceLT, Int.reduceLE, Nat.reduceSub, Nat.reduceMul, Nat.reduceEqDiff, b2, b3, and_self]
    refine appT h3.own (rows2 := [sC (dec i.im)]) (OwnR.fresh (base := 0) rfl rfl (Nat.zero_le _)).rows (by intro r hr; simp at hr; subst hr; rfl) (by simp; omega) (by have := h3.ext4.size; omega) fun v8 w7 ho ha => ?_
    rw [show ((o.take k).map (partF i)).map sC ++ [sC (dec i.im)] = ((o.take k).map (partF i) ++ [dec i.im]).map sC by simp] at ho
    obtain ⟨a8, c8, hv8⟩ := ho.rows.len
    generalize (((o.take k).map (partF i) ++ [dec i.im]).map sC).length = n8 at hv8
    subst hv8
    have hP := h3.push ho ha
    have hb4 : w7.heap[w1.heap.size]? = some (.cells [v].toArray 80 (0, 0)) := (ha.kept _ l3 (fun e => by have := h3.own.block _ e; have := h3.lt; omega)).trans b3
    have l4 := lt_of_at hb4
    simp (disch := first | exact qD5 | fail) only [qG2, Nat.reduceAdd, Nat.reduceLeDiff, Int.reduceToNat, Int.reduceAdd, Int.reduceSub, Int.reduceLT, Int.reduceLE, Nat.reduceSub, Nat.reduceMul, Nat.reduceEqDiff, hb4, List.set_cons_zero]
    exact hgo _ _ (by rw [hp]; exact hP)
  ·obtain rfl : k = o.length := by omega
   rw [List.take_length] at hacc
   have hrows := hacc.own.rows
   have hlr := hrows.lenR (ty := 3) Tryz.underlying80
   rw [List.length_map, List.length_map] at hlr
   have hbx := hacc.box
   by_cases h0 : o = []
   ·subst h0
    rw [if_pos rfl] at hK
    simp (disch := first | exact qD5 | fail) only [qG2, Nat.reduceAdd, Nat.reduceLeDiff, Int.reduceToNat, Int.reduceAdd, Int.reduceSub, Int.reduceLT, Int.reduceLE, Nat.reduceSub, Nat.reduceMul, Nat.reduceEqDiff, hbx, hlr, g5, i0]
    exact Name_spec ho fun w6 hx6 => hK _ ((hx0.trans hacc.ext (by simp)).trans hx6 (by simp))
   ·rw [if_neg h0] at hK
    have hol0 : ¬ ((o.length : Nat) : Int) = 0 := by
     have := List.length_pos_iff.2 h0
     omega
    have hnl := name_len i
    have hadd1 : ∀ (x y : Operand) (w : World), (binV .add 9 x y (.string ⟨(nameR i).toArray⟩) (.string ⟨#[32]⟩)).run Tryz.prog w = .ok (.string ⟨(nameR i ++ [32]).toArray⟩) w := addS (a := nameR i) (b := [32]) (by simp; omega)
    have hadd2 := addS (a := nameR i ++ [32]) (b := Lib.join (o.map (partF i)) [44, 32]) (by simp; omega)
    have hjn : ∀ (w6 : World) (K : Value -> World -> Prop), Ext [] w5 w6 -> (∀ w7, Ext [] w6 w7 -> K (.string ⟨(Lib.join (o.map (partF i)) [44, 32]).toArray⟩) w7) -> callsK Tryz.prog 67 #[v, .string ⟨#[44, 32]⟩] w6 K := fun w6 K hx h => Join_spec (sep := [44, 32]) (hrows.ext hx (by simp)) (by simpa using h0) (by simp; omega) (by omega) h
    have hnm : ∀ (w6 : World) (K : Value -> World -> Prop), (∀ w7, Ext [] w6 w7 -> K (.string ⟨(nameR i).toArray⟩) w7) -> callsK Tryz.prog 66 #[.int .i64 i.op] w6 K := fun w6 K h => Name_spec ho h
    have hx5 := hx0.trans hacc.ext (by simp)
    have hxd : Ext [] w5 w5.drew := qX
    have hcon : (nameR i ++ [32]) ++ Lib.join (o.map (partF i)) [44, 32] = nameR i ++ ([32] ++ Lib.join (o.map (partF i)) [44, 32]) := by simp
    rw [hcon] at hadd2
    simp (disch := first | exact qD5 | fail) only [qG2, Nat.reduceAdd, Nat.reduceLeDiff, Int.reduceToNat, Int.reduceAdd, Int.reduceSub, Int.reduceLT, Int.reduceLE, Nat.reduceSub, Nat.reduceMul, Nat.reduceEqDiff, hbx, hlr, g5, i0]
    refine ⟨⟨?_, ?_⟩, ?_⟩
    all_goals
     refine hnm _ _ fun w7 hx7 => ?_
     have hx57 := hxd.trans hx7 (by simp)
     have hbx7 := hx57.at hbx (by simp)
     simp (disch := first | exact qD5 | fail) only [qG2, Nat.reduceAdd, Nat.reduceLeDiff, Int.reduceToNat, Int.reduceAdd, Int.reduceSub, Int.reduceLT, Int.reduceLE, Nat.reduceSub, Nat.reduceMul, Nat.reduceEqDiff, hadd1, hbx7]
     refine hjn _ _ hx57 fun w8 hx8 => ?_
     simp (disch := first | exact qD5 | fail) only [qG2, Nat.reduceAdd, Nat.reduceLeDiff, Int.reduceToNat, Int.reduceAdd, Int.reduceSub, Int.reduceLT, Int.reduceLE, Nat.reduceSub, Nat.reduceMul, Nat.reduceEqDiff, hadd2]
     exact hK _ ((hx5.trans hx57 (by simp)).trans hx8 (by simp))
open Go.Fx
set_option maxRecDepth 100000
theorem numberF_in (s : List UInt8) : in64 (numberF s).1 := by
 have h0 : in64 0 := ⟨by decide, by decide⟩
 unfold numberF
 split
 ·exact h0
 ·rename_i hn
  split
  ·rename_i ha
   have h10 : (Lib.trimPrefix s [45]).length <= 10 := by
    refine Nat.le_of_not_lt fun h => hn (.inr (.inl h))
   have hv := Nat.lt_of_lt_of_le (valL_lt _ ha) (Nat.pow_le_pow_right (by decide) h10)
   have p10 : (10 : Nat) ^ 10 = 10000000000 := by decide
   rw [p10] at hv
   unfold in64
   split <;> omega
  ·exact h0
def regOK (s : List UInt8) : Bool := Lib.hasPrefix s [99] && (numberF (Lib.trimPrefix s [99])).2 && decide (0 <= (numberF (Lib.trimPrefix s [99])).1) && decide ((numberF (Lib.trimPrefix s [99])).1 <= 31)
def regN (s : List UInt8) : Int := (numberF (Lib.trimPrefix s [99])).1
theorem trim_len (s p : List UInt8) : (Lib.trimPrefix s p).length <= s.length := by
 unfold Lib.trimPrefix
 split
 ·simp
 ·exact Nat.le_refl _
theorem regP_spec {w : World} {bk : Nat} {ok : Bool} {s : List UInt8} (hs : s.length < 4294967281) (h : w.heap[bk]? = some (.cells [.bool ok].toArray 4 (0, 0))) {K : Value -> World -> Prop}
  (hK : K (.int .i64 (regN s)) (World.upd w bk [.bool (ok && regOK s)])) : callsK Tryz.prog 58 #[.string ⟨s.toArray⟩, .pointer (some ⟨bk, 0, none⟩)] w K := by
 apply F58_ok
 unfold F58
 refine CutPrefix_spec (s := s) (p := [99]) ?_
 simp (disch := first | exact qD5 | fail) only [qG2, Nat.reduceAdd, Nat.reduceLeDiff, Int.reduceToNat, Int.reduceAdd, Int.reduceSub, Int.reduceLT, Int.reduceLE, Nat.reduceSub, Nat.reduceMul, Nat.reduceEqDiff]
 have hin := numberF_in (Lib.trimPrefix s [99])
 refine number_spec (Nat.lt_of_le_of_lt (trim_len s [99]) hs) ?_
 unfold regOK regN at hK
 generalize numberF (Lib.trimPrefix s [99]) = nf at *
 obtain ⟨n, fine⟩ := nf
 generalize Lib.hasPrefix s [99] = hp at *
 simp only at hK hin
 obtain ⟨hn1, hn2⟩ := hin
 have l := lt_of_at h
 cases ok <;> cases hp <;> cases fine
 all_goals
  by_cases c1 : 0 <= n
  ·by_cases c2 : n <= 31
   ·simp only [decide_eq_true c1, decide_eq_true c2, Bool.and_true, Bool.and_false, Bool.true_and, Bool.false_and] at hK
    simp (disch := first | exact qD5 | fail) only [qG2, Nat.reduceAdd, Nat.reduceLeDiff, Int.reduceToNat, Int.reduceAdd, Int.reduceSub, Int.reduceLT, Int.reduceLE, Nat.reduceSub, Nat.reduceMul, Nat.reduceEqDiff, joinBR, h, List.set_cons_zero]
    exact hK
   ·simp only [decide_eq_true c1, decide_eq_false c2, Bool.and_true, Bool.and_false, Bool.true_and, Bool.false_and] at hK
    simp (disch := first | exact qD5 | fail) only [qG2, Nat.reduceAdd, Nat.reduceLeDiff, Int.reduceToNat, Int.reduceAdd, Int.reduceSub, Int.reduceLT, Int.reduceLE, Nat.reduceSub, Nat.reduceMul, Nat.reduceEqDiff, joinBR, h, List.set_cons_zero]
    exact hK
  ·simp only [decide_eq_false c1, Bool.and_true, Bool.and_false, Bool.true_and, Bool.false_and] at hK
   simp (disch := first | exact qD5 | fail) only [qG2, Nat.reduceAdd, Nat.reduceLeDiff, Int.reduceToNat, Int.reduceAdd, Int.reduceSub, Int.reduceLT, Int.reduceLE, Nat.reduceSub, Nat.reduceMul, Nat.reduceEqDiff, joinBR, h, List.set_cons_zero]
   exact hK
open Go.Fx
set_option maxRecDepth 100000
def stepP (p : IZ × Bool) (x : UInt8 × List UInt8) : IZ × Bool :=
 if x.1 = 100 then ({ p.1 with rd := regN x.2 }, p.2 && regOK x.2) else if x.1 = 97 then ({ p.1 with r1 := regN x.2 }, p.2 && regOK x.2) else if x.1 = 98 then ({ p.1 with r2 := regN x.2 }, p.2 && regOK x.2) else ({ p.1 with im := (numberF x.2).1 }, p.2 && (numberF x.2).2)
def izZ : IZ := ⟨0, 0, 0, 0, 0⟩
def parseOp (s : List UInt8) : Nat := findN (Lib.cut s [32]).1 69 0
def parseL (s : List UInt8) : List (List UInt8) := if (Lib.cut s [32]).2.2 then Lib.split (Lib.cut s [32]).2.1 [44, 32] else []
def parseP (s : List UInt8) : IZ × Bool := ((orderS (rowZ (parseOp s)).s).zip (parseL s)).foldl stepP (⟨parseOp s, 0, 0, 0, 0⟩, true)
/-- what a text is read as; false: it is none. -/
def parseF (s : List UInt8) : IZ × Bool :=
 if parseOp s = 0 ∨ (parseL s).length ≠ (orderS (rowZ (parseOp s)).s).length then (izZ, false) else if (parseP s).2 && encOk (parseP s).1 then ((parseP s).1, true) else (izZ, false)
theorem stepP_ok {p : IZ × Bool} {x : UInt8 × List UInt8} (h : izOk p.1) : izOk (stepP p x).1 := by
 obtain ⟨h1, h2, h3, h4, h5⟩ := h
 have hr := numberF_in (Lib.trimPrefix x.2 [99])
 have hn := numberF_in x.2
 unfold stepP
 repeat' split
 ·exact ⟨h1, hr, h3, h4, h5⟩
 ·exact ⟨h1, h2, hr, h4, h5⟩
 ·exact ⟨h1, h2, h3, hr, h5⟩
 ·exact ⟨h1, h2, h3, h4, hn⟩
theorem splitK_len (sep : List UInt8) (n : Nat) : ∀ (k : Nat) (s : List UInt8), s.length <= n -> ∀ x ∈ Lib.splitK sep 0 k s, x.length <= n
 | 0, s, h, x, hx => by
  unfold Lib.splitK at hx
  simp at hx
  subst hx
  exact h
 | k + 1, s, h, x, hx => by
  unfold Lib.splitK at hx
  split at hx
  ·simp at hx
   subst hx
   exact h
  ·rw [List.mem_cons] at hx
   rcases hx with rfl | hx
   ·rw [List.length_take]
    omega
   ·exact splitK_len sep n k _ (by rw [List.length_drop]; omega) x hx
theorem cut_len (s p : List UInt8) : (Lib.cut s p).1.length <= s.length /\ (Lib.cut s p).2.1.length <= s.length := by
 unfold Lib.cut
 split
 ·simp only [List.length_take, List.length_drop]
  omega
 ·simp
theorem parseL_len {s x : List UInt8} (hx : x ∈ parseL s) : x.length <= s.length := by
 unfold parseL at hx
 split at hx
 ·exact splitK_len _ _ _ _ (cut_len s [32]).2 x hx
 ·simp at hx
theorem iz_over (i : IZ) : splice (izC izZ) 0 (izC i) = izC i := rfl
theorem iz_put (i : IZ) : izC i ++ List.drop (izC i).length (izC izZ) = izC i := by simp [izC]
set_option maxHeartbeats 1000000 in
theorem Parse_spec {w : World} {s : List UInt8} (hg : Gm w) (hs : s.length < 4294967281) {K : Value -> World -> Prop} (hK : ∀ w', Ext [] w w' -> K (.tuple #[.agg (izC (parseF s).1).toArray, .bool (parseF s).2]) w') : callsK Tryz.prog 29 #[.string ⟨s.toArray⟩] w K := by
 apply F29_ok
 unfold F29
 have hz : izC izZ = [.int .i64 0, .int .i64 0, .int .i64 0, .int .i64 0, .int .i64 0] := rfl
 have z1 := iz_over
 have z2 := iz_put
 rw [hz] at z1 z2
 simp (disch := first | exact qD5 | fail) only [qG2, Nat.reduceAdd, Nat.reduceLeDiff, Int.reduceToNat, Int.reduceAdd, Int.reduceSub, Int.reduceLT, Int.reduceLE, Nat.reduceSub, Nat.reduceMul, Nat.reduceEqDiff]
 have hx0 : Ext [] w (w.alloc (.cells [.int .i64 0, .int .i64 0, .int .i64 0, .int .i64 0, .int .i64 0].toArray 25)) := qX
 have g2 : (w.alloc (.cells [.int .i64 0, .int .i64 0, .int .i64 0, .int .i64 0, .int .i64 0].toArray 25)).heap[w.heap.size]? = some (.cells [.int .i64 0, .int .i64 0, .int .i64 0, .int .i64 0, .int .i64 0].toArray 25 (0, 0)) := alloc_at rfl
 generalize (w.alloc (.cells [.int .i64 0, .int .i64 0, .int .i64 0, .int .i64 0, .int .i64 0].toArray 25)) = w1 at *
 refine Cut_spec (s := s) (p := [32]) (hg.ext hx0) hs fun w2 hx1 => ?_
 have hcl := cut_len s [32]
 have hop : findN (Lib.cut s [32]).1 69 0 = parseOp s := rfl
 have hpl : ∀ x ∈ parseL s, x.length <= s.length := fun x hx => parseL_len hx
 have hL : parseL s = if (Lib.cut s [32]).2.2 then Lib.split (Lib.cut s [32]).2.1 [44, 32] else [] := rfl
 have hPP : parseP s = ((orderS (rowZ (parseOp s)).s).zip (parseL s)).foldl stepP (⟨parseOp s, 0, 0, 0, 0⟩, true) := rfl
 have hPF : parseF s = if parseOp s = 0 ∨ (parseL s).length ≠ (orderS (rowZ (parseOp s)).s).length then (izZ, false) else if (parseP s).2 && encOk (parseP s).1 then ((parseP s).1, true) else (izZ, false) := rfl
 have hole := order_len (rowZ (parseOp s)).s
 have hsh := rowZ_sh (parseOp s)
 have hofl := findN_lt (Lib.cut s [32]).1 69 0 rfl
 rw [hop] at hofl
 simp (disch := first | exact qD5 | fail) only [qG2, Nat.reduceAdd, Nat.reduceLeDiff, Int.reduceToNat, Int.reduceAdd, Int.reduceSub, Int.reduceLT, Int.reduceLE, Nat.reduceSub, Nat.reduceMul, Nat.reduceEqDiff]
 refine Find_spec fun w3 hx2 => ?_
 rw [hop]
 generalize parseF s = pf at *
 generalize parseP s = pp at *
 generalize parseL s = L at *
 generalize parseOp s = op at *
 generalize Lib.cut s [32] = c at *
 have hb : ∀ (x : Int) (w : World), (Instr.build 25 #[(0, .int .i64 x)]).run Tryz.prog w = .ok (.agg [.int .i64 x, .int .i64 0, .int .i64 0, .int .i64 0, .int .i64 0].toArray) w := fun x w => run_build w 25 _ _ (by kernel_rfl)
 have hb2 : ∀ (w : World), (Instr.build 25 #[(0, .int .i64 ((op : Nat) : Int))]).run Tryz.prog w = .ok (.agg (izC ⟨op, 0, 0, 0, 0⟩).toArray) w := fun w => hb _ w
 have g2b := (hx1.trans hx2 (by simp)).at g2 (by simp)
 have hxa := (hx0.trans hx1 (by simp)).trans hx2 (by simp)
 have i0 : (izC ⟨op, 0, 0, 0, 0⟩)[0]? = some (.int .i64 (op : Nat)) := rfl
 have hxb : Ext [] w3 (w3.alloc (.cells (izC ⟨op, 0, 0, 0, 0⟩).toArray 25)) := Ext.alloc Ext.refl _ _
 have g7 : (w3.alloc (.cells (izC ⟨op, 0, 0, 0, 0⟩).toArray 25)).heap[w3.heap.size]? = some (.cells (izC ⟨op, 0, 0, 0, 0⟩).toArray 25 (0, 0)) := alloc_at rfl
 have g2c := hxb.at g2b (by simp)
 have l3 := lt_of_at g2b
 simp (disch := first | exact qD5 | fail) only [qG2, Nat.reduceAdd, Nat.reduceLeDiff, Int.reduceToNat, Int.reduceAdd, Int.reduceSub, Int.reduceLT, Int.reduceLE, Nat.reduceSub, Nat.reduceMul, Nat.reduceEqDiff, hb2, z1, z2, i0]
 replace hxa := hxa.trans hxb (by simp)
 generalize (w3.alloc (.cells (izC ⟨op, 0, 0, 0, 0⟩).toArray 25)) = w4 at *
 refine Shape_spec (n := (op : Nat)) (by omega) fun w5 hx5 => ?_
 refine order_spec hsh ?_
 generalize orderS (rowZ ((op : Nat) : Int)).s = o at *
 have g2d := hx5.at g2c (by simp)
 have g7d := hx5.at g7 (by simp)
 replace hxa := hxa.trans hx5 (by simp)
 refine joinL.intro fun J0 hJ0 => ?_
 obtain ⟨b7, hb7⟩ : ∃ b7, b7 = w3.heap.size := ⟨_, rfl⟩
 rw [<- hb7] at g7d hJ0 l3
 have hgo : ∀ v w6, RowsAt w6 v 1 (L.map sC) -> Ext [] w5 w6 -> (∀ b, blockOf v = some b -> w5.heap.size <= b) -> J0 [v] w6 := by
  intro v w6 hv hx6 hvb
  have g2e := hx6.at g2d (by simp)
  have g7e := hx6.at g7d (by simp)
  have hxc := hxa.trans hx6 (by simp)
  have l2 := lt_of_at g2e
  have l7 := lt_of_at g7e
  have l5 := lt_of_at g7d
  have l52 := lt_of_at g2d
  have hlv := hv.lenR (ty := 3) Tryz.underlying80
  rw [List.length_map] at hlv
  have hlo := lenS o
  have hw7 : w.heap.size < b7 := by omega
  apply hJ0
  intro _
  by_cases hbad : op = 0 ∨ L.length ≠ o.length
  ·rw [if_pos hbad] at hPF
   rw [hPF] at hK
   by_cases h0 : op = 0
   ·simp (disch := first | exact qD5 | fail) only [qG2, Nat.reduceAdd, Nat.reduceLeDiff, Int.reduceToNat, Int.reduceAdd, Int.reduceSub, Int.reduceLT, Int.reduceLE, Nat.reduceSub, Nat.reduceMul, Nat.reduceEqDiff, joinBR, List.getD_cons_zero, g7e, i0, g2e]
    exact hK _ qX
   ·have hne : ¬ ((L.length : Nat) : Int) = (o.length : Nat) := by omega
    simp (disch := first | exact qD5 | fail) only [qG2, Nat.reduceAdd, Nat.reduceLeDiff, Int.reduceToNat, Int.reduceAdd, Int.reduceSub, Int.reduceLT, Int.reduceLE, Nat.reduceSub, Nat.reduceMul, Nat.reduceEqDiff, joinBR, List.getD_cons_zero, g7e, i0, g2e, hlv, hlo]
    exact hK _ qX
  rw [if_neg hbad] at hPF
  have h0 : ¬ op = 0 := fun h => hbad (.inl h)
  have hlen : L.length = o.length := Classical.byContradiction fun h => hbad (.inr h)
  have hlenI : ((L.length : Nat) : Int) = (o.length : Nat) := by rw [hlen]
  have hopI : ¬ ((op : Nat) : Int) = 0 := by omega
  simp (disch := first | exact qD5 | fail) only [qG2, Nat.reduceAdd, Nat.reduceLeDiff, Int.reduceToNat, Int.reduceAdd, Int.reduceSub, Int.reduceLT, Int.reduceLE, Nat.reduceSub, Nat.reduceMul, Nat.reduceEqDiff, joinBR, List.getD_cons_zero, g7e, i0, hlv, hlo, hlenI]
  have gA : (w6.alloc (.cells [.bool true].toArray 4)).heap[w6.heap.size]? = some (.cells [.bool true].toArray 4 (0, 0)) := alloc_at rfl
  have hxA : Ext [] w6 (w6.alloc (.cells [.bool true].toArray 4)) := Ext.alloc Ext.refl _ _
  have gA2 := hxA.at g2e (by simp)
  have gA7 := hxA.at g7e (by simp)
  have hvA := hv.ext hxA (by simp)
  replace hxc := hxc.trans hxA (by simp)
  obtain ⟨b10, hb10⟩ : ∃ b10, b10 = w6.heap.size := ⟨_, rfl⟩
  have h710 : b7 < b10 := by omega
  have hblk : L.map sC ≠ [] -> ∀ b, blockOf v = some b -> b ∉ [b7, b10] := by
   intro h b hb
   have q1 := hvb b hb
   have q2 : b < w6.heap.size := hv.blt h b hb
   simp
   omega
  rw [<- hb10] at gA ⊢
  generalize (w6.alloc (.cells [.bool true].toArray 4)) = w7 at *
  have zz : in64 0 := ⟨by decide, by decide⟩
  have hok0 : izOk ⟨op, 0, 0, 0, 0⟩ := ⟨⟨show (-9223372036854775808 : Int) <= op by omega, show (op : Int) < 9223372036854775808 by omega⟩, zz, zz, zz, zz⟩
  have hzl : (o.zip L).length = o.length := by rw [List.length_zip, hlen, Nat.min_self]
  generalize hzz : o.zip L = z at *
  refine loopT.intro (fun st w' => ∃ (k : Nat), k <= o.length /\ st = [.int .i64 (k : Nat)] /\ w'.heap[b7]? = some (.cells (izC ((z.take k).foldl stepP (⟨op, 0, 0, 0, 0⟩, true)).1).toArray 25 (0, 0)) /\ w'.heap[b10]? = some (.cells [.bool ((z.take k).foldl stepP (⟨op, 0, 0, 0, 0⟩, true)).2].toArray 4 (0, 0)) /\ izOk ((z.take k).foldl stepP (⟨op, 0, 0, 0, 0⟩, true)).1 /\ Ext [b7, b10] w7 w')
   (fun st _ => match st with
    | [.int _ z] => o.length - z.toNat
    | _ => 0) ⟨0, Nat.zero_le _, rfl, gA7, gA, hok0, Ext.refl⟩ ?_
  rintro st w8 ⟨k, hk, rfl, m7, m10, hok, hx8⟩ _
  have lm7 := lt_of_at m7
  have lm10 := lt_of_at m10
  by_cases h4 : k < o.length
  ·obtain ⟨b, hb⟩ : ∃ b, o[k]? = some b := ⟨_, List.getElem?_eq_getElem h4⟩
   obtain ⟨x, hx⟩ : ∃ x, L[k]? = some x := ⟨_, List.getElem?_eq_getElem (by omega)⟩
   have hzk : z[k]? = some (b, x) := by rw [<- hzz, List.getElem?_zip_eq_some]; exact ⟨hb, hx⟩
   have hnx : (z.take (k + 1)).foldl stepP (⟨op, 0, 0, 0, 0⟩, true) = stepP ((z.take k).foldl stepP (⟨op, 0, 0, 0, 0⟩, true)) (b, x) := by
    rw [List.take_add_one, hzk, List.foldl_append]
    rfl
   have hokn := stepP_ok (x := (b, x)) hok
   have hxl := hpl x (List.mem_of_getElem? hx)
   have hrow : (L.map sC)[k]? = some (sC x) := by rw [List.getElem?_map, hx]; rfl
   have hv8 := hvA.at' hx8 hblk
   obtain ⟨b0, o0, lb, E0, f0, hix, hb0, hfit, hblt, hbk, hsub, hget⟩ := RowsAt.ixR (P := Tryz.prog) (t := 80) Tryz.underlying80 Tryz.sizeOf9 hv8 hrow
   have hc0 : lb[o0]? = some (.string ⟨x.toArray⟩) := by simpa [sC] using hget (o0 + 0) 0 rfl (by omega)
   have hixo := ixS hb
   generalize (z.take k).foldl stepP (⟨op, 0, 0, 0, 0⟩, true) = p at *
   simp (disch := first | exact qD5 | fail) only [qG2, Nat.reduceAdd, Nat.reduceLeDiff, Int.reduceToNat, Int.reduceAdd, Int.reduceSub, Int.reduceLT, Int.reduceLE, Nat.reduceSub, Nat.reduceMul, Nat.reduceEqDiff, List.getD_cons_zero]
   refine joinL.intro fun J6 hJ6 => ?_
   have hne710 : b7 ≠ b10 := by omega
   have hfin : ∀ w9, w9.heap[b7]? = some (.cells (izC (stepP p (b, x)).1).toArray 25 (0, 0)) -> w9.heap[b10]? = some (.cells [.bool (stepP p (b, x)).2].toArray 4 (0, 0)) -> Ext [b7, b10] w8 w9 -> J6 [] w9 := by
    intro w9 n7 n10 hx9
    rw [<- hnx] at n7 n10 hokn
    apply hJ6
    intro _
    simp (disch := first | exact qD5 | fail) only [qG2, Nat.reduceAdd, Nat.reduceLeDiff, Int.reduceToNat, Int.reduceAdd, Int.reduceSub, Int.reduceLT, Int.reduceLE, Nat.reduceSub, Nat.reduceMul, Nat.reduceEqDiff, List.getD_cons_zero]
    exact ⟨⟨k + 1, by omega, rfl, n7, n10, hokn, hx8.trans hx9 (by intro k hk; exact .inl hk)⟩, by first | omega | (simp <;> omega)⟩
   have hbe : ∀ c : UInt8, (((b.toNat : Nat) : Int) = (c.toNat : Nat)) ↔ b = c := fun c => ⟨fun h => UInt8.toNat_inj.1 (by omega), fun h => by rw [h]⟩
   by_cases c1 : b = 100
   ·have e : ((b.toNat : Nat) : Int) = 100 := (hbe 100).2 c1
    have hp : stepP p (b, x) = ({ p.1 with rd := regN x }, p.2 && regOK x) := by unfold stepP; dsimp only; rw [if_pos c1]
    rw [hp] at hfin
    have hset : (izC p.1).set 1 (.int .i64 (regN x)) = izC { p.1 with rd := regN x } := rfl
    simp (disch := first | exact qD5 | fail) only [qG2, Nat.reduceAdd, Nat.reduceLeDiff, Int.reduceToNat, Int.reduceAdd, Int.reduceSub, Int.reduceLT, Int.reduceLE, Nat.reduceSub, Nat.reduceMul, Nat.reduceEqDiff, hixo, e, hix, hb0, hc0]
    refine regP_spec (by omega) m10 ?_
    have m7' : (World.upd w8 b10 [.bool (p.2 && regOK x)]).heap[b7]? = some (.cells (izC p.1).toArray 25 (0, 0)) := (upd_ne hne710).trans m7
    have lm7' := lt_of_at m7'
    simp (disch := first | exact qD5 | fail) only [qG2, Nat.reduceAdd, Nat.reduceLeDiff, Int.reduceToNat, Int.reduceAdd, Int.reduceSub, Int.reduceLT, Int.reduceLE, Nat.reduceSub, Nat.reduceMul, Nat.reduceEqDiff, m7', hset]
    refine hfin _ (upd_at m7') ((upd_ne (Ne.symm hne710)).trans (upd_at m10)) ?_
    exact (Ext.updI (by simp) (Ext.updI (by simp) Ext.refl))
   have e1 : ¬ ((b.toNat : Nat) : Int) = 100 := fun h => c1 ((hbe 100).1 h)
   by_cases c2 : b = 97
   ·have e : ((b.toNat : Nat) : Int) = 97 := (hbe 97).2 c2
    have hp : stepP p (b, x) = ({ p.1 with r1 := regN x }, p.2 && regOK x) := by unfold stepP; dsimp only; rw [if_neg c1, if_pos c2]
    rw [hp] at hfin
    have hset : (izC p.1).set 2 (.int .i64 (regN x)) = izC { p.1 with r1 := regN x } := rfl
    simp (disch := first | exact qD5 | fail) only [qG2, Nat.reduceAdd, Nat.reduceLeDiff, Int.reduceToNat, Int.reduceAdd, Int.reduceSub, Int.reduceLT, Int.reduceLE, Nat.reduceSub, Nat.reduceMul, Nat.reduceEqDiff, hixo, e, hix, hb0, hc0]
    refine regP_spec (by omega) m10 ?_
    have m7' : (World.upd w8 b10 [.bool (p.2 && regOK x)]).heap[b7]? = some (.cells (izC p.1).toArray 25 (0, 0)) := (upd_ne hne710).trans m7
    have lm7' := lt_of_at m7'
    simp (disch := first | exact qD5 | fail) only [qG2, Nat.reduceAdd, Nat.reduceLeDiff, Int.reduceToNat, Int.reduceAdd, Int.reduceSub, Int.reduceLT, Int.reduceLE, Nat.reduceSub, Nat.reduceMul, Nat.reduceEqDiff, m7', hset]
    refine hfin _ (upd_at m7') ((upd_ne (Ne.symm hne710)).trans (upd_at m10)) ?_
    exact (Ext.updI (by simp) (Ext.updI (by simp) Ext.refl))
   have e2 : ¬ ((b.toNat : Nat) : Int) = 97 := fun h => c2 ((hbe 97).1 h)
   by_cases c3 : b = 98
   ·have e : ((b.toNat : Nat) : Int) = 98 := (hbe 98).2 c3
    have hp : stepP p (b, x) = ({ p.1 with r2 := regN x }, p.2 && regOK x) := by unfold stepP; dsimp only; rw [if_neg c1, if_neg c2, if_pos c3]
    rw [hp] at hfin
    have hset : (izC p.1).set 3 (.int .i64 (regN x)) = izC { p.1 with r2 := regN x } := rfl
    simp (disch := first | exact qD5 | fail) only [qG2, Nat.reduceAdd, Nat.reduceLeDiff, Int.reduceToNat, Int.reduceAdd, Int.reduceSub, Int.reduceLT, Int.reduceLE, Nat.reduceSub, Nat.reduceMul, Nat.reduceEqDiff, hixo, e, hix, hb0, hc0]
    refine regP_spec (by omega) m10 ?_
    have m7' : (World.upd w8 b10 [.bool (p.2 && regOK x)]).heap[b7]? = some (.cells (izC p.1).toArray 25 (0, 0)) := (upd_ne hne710).trans m7
    have lm7' := lt_of_at m7'
    simp (disch := first | exact qD5 | fail) only [qG2, Nat.reduceAdd, Nat.reduceLeDiff, Int.reduceToNat, Int.reduceAdd, Int.reduceSub, Int.reduceLT, Int.reduceLE, Nat.reduceSub, Nat.reduceMul, Nat.reduceEqDiff, m7', hset]
    refine hfin _ (upd_at m7') ((upd_ne (Ne.symm hne710)).trans (upd_at m10)) ?_
    exact (Ext.updI (by simp) (Ext.updI (by simp) Ext.refl))
   have e3 : ¬ ((b.toNat : Nat) : Int) = 98 := fun h => c3 ((hbe 98).1 h)
   have hp : stepP p (b, x) = ({ p.1 with im := (numberF x).1 }, p.2 && (numberF x).2) := by unfold stepP; dsimp only; rw [if_neg c1, if_neg c2, if_neg c3]
   rw [hp] at hfin
   have hset : (izC p.1).set 4 (.int .i64 (numberF x).1) = izC { p.1 with im := (numberF x).1 } := rfl
   simp (disch := first | exact qD5 | fail) only [qG2, Nat.reduceAdd, Nat.reduceLeDiff, Int.reduceToNat, Int.reduceAdd, Int.reduceSub, Int.reduceLT, Int.reduceLE, Nat.reduceSub, Nat.reduceMul, Nat.reduceEqDiff, hixo, e1, e2, e3, hix, hb0, hc0]
   refine number_spec (by omega) ?_
   generalize (numberF x).1 = nn at *
   generalize (numberF x).2 = nf at *
   cases hp2 : p.2 with
   | true =>
    rw [hp2] at m10 hfin
    rw [Bool.true_and] at hfin
    have m7' : ∀ u, (World.upd (World.upd w8 b7 (izC { p.1 with im := nn })) b10 u).heap[b7]? = some (.cells (izC { p.1 with im := nn }).toArray 25 (0, 0)) := fun u => (upd_ne hne710).trans (upd_at m7)
    have m10' : (World.upd w8 b7 (izC { p.1 with im := nn })).heap[b10]? = some (.cells [.bool true].toArray 4 (0, 0)) := (upd_ne (Ne.symm hne710)).trans m10
    have lm10' := lt_of_at m10'
    simp (disch := first | exact qD5 | fail) only [qG2, Nat.reduceAdd, Nat.reduceLeDiff, Int.reduceToNat, Int.reduceAdd, Int.reduceSub, Int.reduceLT, Int.reduceLE, Nat.reduceSub, Nat.reduceMul, Nat.reduceEqDiff, joinBR, m10, m7, hset, hp2, m10', List.set_cons_zero]
    refine hfin _ (m7' _) (upd_at m10') ?_
    exact (Ext.updI (by simp) (Ext.updI (by simp) Ext.refl))
   | false =>
    rw [hp2] at m10 hfin
    rw [Bool.false_and] at hfin
    have m7' : ∀ u, (World.upd (World.upd w8 b7 (izC { p.1 with im := nn })) b10 u).heap[b7]? = some (.cells (izC { p.1 with im := nn }).toArray 25 (0, 0)) := fun u => (upd_ne hne710).trans (upd_at m7)
    have m10' : (World.upd w8 b7 (izC { p.1 with im := nn })).heap[b10]? = some (.cells [.bool false].toArray 4 (0, 0)) := (upd_ne (Ne.symm hne710)).trans m10
    have lm10' := lt_of_at m10'
    simp (disch := first | exact qD5 | fail) only [qG2, Nat.reduceAdd, Nat.reduceLeDiff, Int.reduceToNat, Int.reduceAdd, Int.reduceSub, Int.reduceLT, Int.reduceLE, Nat.reduceSub, Nat.reduceMul, Nat.reduceEqDiff, joinBR, m10, m7, hset, hp2, m10', List.set_cons_zero]
    refine hfin _ (m7' _) (upd_at m10') ?_
    exact (Ext.updI (by simp) (Ext.updI (by simp) Ext.refl))
  ·obtain rfl : k = o.length := by omega
   rw [List.take_of_length_le (by omega)] at m7 m10 hok
   rw [<- hPP] at m7 m10 hok
   have n2 := (hx8.at gA2 (by simp; omega))
   simp (disch := first | exact qD5 | fail) only [qG2, Nat.reduceAdd, Nat.reduceLeDiff, Int.reduceToNat, Int.reduceAdd, Int.reduceSub, Int.reduceLT, Int.reduceLE, Nat.reduceSub, Nat.reduceMul, Nat.reduceEqDiff, List.getD_cons_zero, m7, izC_sub]
   refine Encode_spec hok fun w9 hx9 => ?_
   have n10 := hx9.at m10 (by simp)
   have n7 := hx9.at m7 (by simp)
   have n2' := hx9.at n2 (by simp)
   have ln10 := lt_of_at n10
   have ln7 := lt_of_at n7
   have ln2 := lt_of_at n2'
   have hx9' := hx8.trans hx9 (by simp)
   have hend : Ext [] w w9 := hxc.trans hx9' (by intro k hk; simp at hk; omega)
   cases hp2 : pp.2 with
   | false =>
    rw [hp2] at n10 hPF
    rw [hPF] at hK
    simp (disch := first | exact qD5 | fail) only [qG2, Nat.reduceAdd, Nat.reduceLeDiff, Int.reduceToNat, Int.reduceAdd, Int.reduceSub, Int.reduceLT, Int.reduceLE, Nat.reduceSub, Nat.reduceMul, Nat.reduceEqDiff, joinBR, n10, n2']
    exact hK _ qX
   | true =>
    rw [hp2] at n10 hPF
    rw [Bool.true_and] at hPF
    cases he : encOk pp.1 with
    | false =>
     rw [he] at hPF
     rw [hPF] at hK
     simp (disch := first | exact qD5 | fail) only [qG2, Nat.reduceAdd, Nat.reduceLeDiff, Int.reduceToNat, Int.reduceAdd, Int.reduceSub, Int.reduceLT, Int.reduceLE, Nat.reduceSub, Nat.reduceMul, Nat.reduceEqDiff, joinBR, n10, n2']
     exact hK _ qX
    | true =>
     rw [he] at hPF
     rw [hPF] at hK
     simp (disch := first | exact qD5 | fail) only [qG2, Nat.reduceAdd, Nat.reduceLeDiff, Int.reduceToNat, Int.reduceAdd, Int.reduceSub, Int.reduceLT, Int.reduceLE, Nat.reduceSub, Nat.reduceMul, Nat.reduceEqDiff, joinBR, n10, n2', n7, izC_sub, z1, z2]
     exact hK _ qX
 cases hc : c.2.2 with
 | true =>
  rw [hc, if_pos rfl] at hL
  simp (disch := first | exact qD5 | fail) only [qG2, Nat.reduceAdd, Nat.reduceLeDiff, Int.reduceToNat, Int.reduceAdd, Int.reduceSub, Int.reduceLT, Int.reduceLE, Nat.reduceSub, Nat.reduceMul, Nat.reduceEqDiff]
  refine Split_spec (s := c.2.1) (p := [44, 32]) (hg.ext hxa) (by omega) (by simp) fun v w6 hv hx6 hvb => ?_
  rw [<- hL] at hv
  exact hgo v w6 hv hx6 hvb
 | false =>
  rw [hc] at hL
  have hL0 : L = [] := hL
  simp (disch := first | exact qD5 | fail) only [qG2, Nat.reduceAdd, Nat.reduceLeDiff, Int.reduceToNat, Int.reduceAdd, Int.reduceSub, Int.reduceLT, Int.reduceLE, Nat.reduceSub, Nat.reduceMul, Nat.reduceEqDiff]
  exact hgo _ _ (by rw [hL0]; exact OwnR.nil.rows (base := 0) (e := 5)) Ext.refl (fun b h => by simp [blockOf] at h)
end Go.Proofs.YtobkjnmdbkieeaaGreatDoor
namespace Go.Fx
open Go.Instr Go.MapKept
variable {κ ν : Type}
def World.setM (w : World) (r : Nat) (o : Obj) : World := { w with heap := w.heap.setIfInBounds r o }
theorem setM_size (w : World) (r : Nat) (o : Obj) : (World.setM w r o).heap.size = w.heap.size := by simp [World.setM]
theorem setM_at {w : World} {r : Nat} {o o' : Obj} (h : w.heap[r]? = some o') : (World.setM w r o).heap[r]? = some o := by
  have := lt_of_at h
  simp [World.setM, Array.getElem?_setIfInBounds, this]
theorem setM_ne {w : World} {r k : Nat} {o : Obj} (h : k ≠ r) : (World.setM w r o).heap[k]? = w.heap[k]? := by
  simp only [World.setM, Array.getElem?_setIfInBounds]
  rw [if_neg (Ne.symm h)]
theorem Ext.setM {S : List Nat} {w w' : World} {r c : Nat} {es : Array MapEntry} {o : Obj} (h : Ext S w w') (hb : w'.heap[r]? = some (.map es c)) (hr : r ∈ S ∨ w.heap.size <= r) : Ext S w (World.setM w' r o) := by
  refine ⟨h.os, h.tape, h.output, by rw [setM_size]; exact h.size, fun k hk hn => ?_⟩
  rw [setM_ne]
  · exact h.kept k hk hn
  · rintro rfl
    rcases hr with hr | hr
    · exact hn hr
    · omega
theorem Ext.allocM {S : List Nat} {w w' : World} {es : Array MapEntry} {c : Nat} (h : Ext S w w') : Ext S w (w'.alloc (.map es c)) :=
  ⟨h.os, h.tape, h.output, by have := h.size; show w.heap.size <= (w'.heap.push _).size; simp; omega, fun k hk hn => by have := h.size; rw [alloc_ne (by omega)]; exact h.kept k hk hn⟩
/-- where a key is first. -/
def firstOf [DecidableEq κ] (a : κ) : List (κ × ν) -> Nat -> Option (Nat × ν)
  | [], _ => none
  | (k, v) :: l, i => if a = k then some (i, v) else firstOf a l (i + 1)
/-- keys that can be held against each other. -/
structure KeyOk [DecidableEq κ] (P : Program) (kt : TypeId) (kf : κ -> Value) : Prop where
  now : (∃ d, P.underlying kt = some d /\ ∀ a b, sameNow d (kf a) (kf b) = some (decide (a = b))) ∨
    (∃ d, P.underlying kt = some d /\ (∀ a b, sameNow d (kf a) (kf b) = none) /\ ∀ a b w, (Op.equal kt (kf a) (kf b)).run P w = .ok (decide (a = b)) w)
  check : ∀ e a w, (checkKey e 10000 kt (kf a)).run P w = .ok () w
  bits : ∀ a, sameBits 10000 (kf a) (kf a) = true
theorem findNow_some [DecidableEq κ] {kf : κ -> Value} {vf : ν -> Value} {d : TypeDesc} (h : ∀ a b, sameNow d (kf a) (kf b) = some (decide (a = b))) (a : κ) : ∀ (l : List (κ × ν)) (es : List MapEntry) (i : Nat), es.map (fun e => (e.key, e.val)) = l.map (fun p => (kf p.1, vf p.2)) ->
    findNow d (kf a) es i = some ((firstOf a l i).map fun x => (x.1, vf x.2))
  | [], [], i, _ => rfl
  | [], e :: es, i, he => by simp at he
  | p :: l, [], i, he => by simp at he
  | (k, v) :: l, e :: es, i, he => by
    simp only [List.map_cons, List.cons.injEq, Prod.mk.injEq] at he
    unfold findNow firstOf
    rw [he.1.1, h a k]
    by_cases hk : a = k
    · simp [hk, he.1.2]
    · simp only [hk, decide_false, if_false]
      exact findNow_some h a l es (i + 1) he.2
theorem findNow_none [DecidableEq κ] {kf : κ -> Value} {vf : ν -> Value} {d : TypeDesc} (h : ∀ a b, sameNow d (kf a) (kf b) = none) (a : κ) : ∀ (l : List (κ × ν)) (es : List MapEntry) (i : Nat), es.map (fun e => (e.key, e.val)) = l.map (fun p => (kf p.1, vf p.2)) -> l ≠ [] ->
    findNow d (kf a) es i = none
  | [], _, i, _, h0 => absurd rfl h0
  | p :: l, [], i, he, _ => by simp at he
  | (k, v) :: l, e :: es, i, he, _ => by
    simp only [List.map_cons, List.cons.injEq, Prod.mk.injEq] at he
    unfold findNow
    rw [he.1.1, h a k]
theorem findAsk [DecidableEq κ] {P : Program} {kt : TypeId} {kf : κ -> Value} {vf : ν -> Value} (h : ∀ a b w, (Op.equal kt (kf a) (kf b)).run P w = .ok (decide (a = b)) w) (a : κ) (w : World) : ∀ (l : List (κ × ν)) (es : List MapEntry) (i : Nat), es.map (fun e => (e.key, e.val)) = l.map (fun p => (kf p.1, vf p.2)) ->
    (findAsking kt (kf a) es i).run P w = .ok ((firstOf a l i).map fun x => (x.1, vf x.2)) w
  | [], [], i, _ => rfl
  | [], e :: es, i, he => by simp at he
  | p :: l, [], i, he => by simp at he
  | (k, v) :: l, e :: es, i, he => by
    simp only [List.map_cons, List.cons.injEq, Prod.mk.injEq] at he
    unfold findAsking firstOf
    rw [he.1.1, Sem.run_bind, h a k]
    simp only [Result.andThen_ok]
    by_cases hk : a = k
    · simp [hk, he.1.2]
    · simp only [hk, decide_false, if_false, Bool.false_eq_true]
      exact findAsk h a w l es (i + 1) he.2
theorem find_run [DecidableEq κ] {P : Program} {kt : TypeId} {kf : κ -> Value} {vf : ν -> Value} (h : KeyOk P kt kf) (a : κ) (w : World) {l : List (κ × ν)} {es : List MapEntry} (he : es.map (fun e => (e.key, e.val)) = l.map (fun p => (kf p.1, vf p.2))) :
    (findKey kt (kf a) es).run P w = .ok ((firstOf a l 0).map fun x => (x.1, vf x.2)) w := by
  unfold findKey
  rcases h.now with ⟨d, hd, hn⟩ | ⟨d, hd, hn, hq⟩
  · rw [Sem.run_bind, run_underlying hd]
    simp only [Result.andThen_ok]
    rw [findNow_some hn a l es 0 he]
    rfl
  · rw [Sem.run_bind, run_underlying hd]
    simp only [Result.andThen_ok]
    by_cases h0 : l = []
    · subst h0
      obtain rfl : es = [] := by simpa using he
      rfl
    · rw [findNow_none hn a l es 0 he h0]
      exact findAsk hq a w l es 0 he
/-- the entries' stamps: below the map's clock, and no two alike. -/
def BornOk (es : Array MapEntry) (clock : Nat) : Prop := (∀ x ∈ es.toList, x.born < clock) /\ (es.toList.map (·.born)).Nodup
theorem BornOk.push {es : Array MapEntry} {clock : Nat} (h : BornOk es clock) {key val : Value} : BornOk (es.push { key, val, born := clock }) (clock + 1) := by
  refine ⟨fun x hx => ?_, ?_⟩
  · simp only [Array.toList_push, List.mem_append, List.mem_singleton] at hx
    rcases hx with hx | rfl
    · exact Nat.lt_succ_of_lt (h.1 x hx)
    · exact Nat.lt_succ_self _
  · simp only [Array.toList_push, List.map_append, List.map_cons, List.map_nil]
    refine List.nodup_append.2 ⟨h.2, by simp, ?_⟩
    intro a ha b hb
    simp only [List.mem_singleton] at hb
    subst hb
    obtain ⟨x, hx, rfl⟩ := List.mem_map.1 ha
    exact Nat.ne_of_lt (h.1 x hx)
theorem BornOk.modify {es : Array MapEntry} {clock : Nat} (h : BornOk es clock) (i : Nat) (f : MapEntry -> MapEntry) (hb : ∀ e, (f e).born = e.born) : BornOk (es.modify i f) clock := by
  have hborn : (es.modify i f).toList.map (·.born) = es.toList.map (·.born) := by
    apply List.ext_getElem?
    intro j
    simp only [List.getElem?_map, Array.getElem?_toList, Array.getElem?_modify]
    by_cases hij : i = j
    · subst hij
      cases he : es[i]? with
      | none => simp
      | some e => simp [hb e]
    · simp [hij]
  refine ⟨fun x hx => ?_, hborn ▸ h.2⟩
  have : x.born ∈ (es.modify i f).toList.map (·.born) := List.mem_map.2 ⟨x, hx, rfl⟩
  rw [hborn] at this
  obtain ⟨y, hy, e⟩ := List.mem_map.1 this
  rw [<- e]; exact h.1 y hy
/-- a map's list, and what it tells of each key. -/
structure MapL [DecidableEq κ] (w : World) (r : Nat) (kf : κ -> Value) (vf : ν -> Value) (l : List (κ × ν)) : Prop where
  at' : ∃ es clock, w.heap[r]? = some (.map es clock) /\ es.toList.map (fun e => (e.key, e.val)) = l.map (fun p => (kf p.1, vf p.2)) /\ BornOk es clock
  nodup : (l.map (·.1)).Nodup
def getM [DecidableEq κ] (l : List (κ × ν)) (a : κ) : Option ν := (firstOf a l 0).map (·.2)
def MapF [DecidableEq κ] (w : World) (r : Nat) (kf : κ -> Value) (vf : ν -> Value) (f : κ -> Option ν) : Prop := ∃ l, MapL w r kf vf l /\ ∀ a, getM l a = f a
theorem firstOf_shift [DecidableEq κ] (a : κ) : ∀ (l : List (κ × ν)) (i : Nat), firstOf a l (i + 1) = (firstOf a l i).map fun x => (x.1 + 1, x.2)
  | [], i => rfl
  | (k, v) :: l, i => by
    unfold firstOf
    split
    · rfl
    · exact firstOf_shift a l (i + 1)
theorem getM_cons [DecidableEq κ] (a k : κ) (v : ν) (l : List (κ × ν)) : getM ((k, v) :: l) a = if a = k then some v else getM l a := by
  unfold getM
  rw [firstOf]
  split
  · rfl
  · rw [firstOf_shift]
    cases firstOf a l 0 <;> rfl
theorem getM_none [DecidableEq κ] {a : κ} : ∀ {l : List (κ × ν)}, getM l a = none ↔ a ∉ l.map (·.1)
  | [] => by simp [getM, firstOf]
  | (k, v) :: l => by
    rw [getM_cons]
    by_cases h : a = k
    · simp [h]
    · rw [if_neg h, getM_none (l := l)]
      simp [h]
theorem first_get [DecidableEq κ] {a : κ} : ∀ {l : List (κ × ν)} {i : Nat} {v : ν}, firstOf a l 0 = some (i, v) -> l[i]? = some (a, v)
  | [], i, v, h => by simp [firstOf] at h
  | (k, u) :: l, i, v, h => by
    rw [firstOf] at h
    split at h
    · rename_i hk
      simp at h
      obtain ⟨rfl, rfl⟩ := h
      simp [hk]
    · rw [firstOf_shift] at h
      obtain ⟨x, hx, hy⟩ := Option.map_eq_some_iff.1 h
      obtain ⟨j, u'⟩ := x
      simp only [Prod.mk.injEq] at hy
      obtain ⟨rfl, rfl⟩ := hy
      simpa using first_get hx
theorem getM_append [DecidableEq κ] (a b : κ) (v : ν) : ∀ (l : List (κ × ν)), a ∉ l.map (·.1) -> getM (l ++ [(a, v)]) b = if b = a then some v else getM l b
  | [], _ => by simp [getM_cons, getM, firstOf]
  | (k, u) :: l, h => by
    simp only [List.map_cons, List.mem_cons, not_or] at h
    rw [List.cons_append, getM_cons, getM_cons, getM_append a b v l h.2]
    by_cases h1 : b = k
    · rw [if_pos h1, if_pos h1, if_neg (by rw [h1]; exact fun e => h.1 e.symm)]
    · rw [if_neg h1, if_neg h1]
theorem getM_set [DecidableEq κ] (a b : κ) (v : ν) : ∀ (l : List (κ × ν)) (i : Nat), (∃ u, firstOf a l 0 = some (i, u)) -> getM (l.set i (a, v)) b = if b = a then some v else getM l b
  | [], i, ⟨u, h⟩ => by simp [firstOf] at h
  | (k, u') :: l, i, ⟨u, h⟩ => by
    rw [firstOf] at h
    split at h
    · rename_i hk
      simp at h
      obtain ⟨rfl, rfl⟩ := h
      subst hk
      rw [List.set_cons_zero, getM_cons, getM_cons]
      split <;> rfl
    · rename_i hk
      rw [firstOf_shift] at h
      obtain ⟨x, hx, hy⟩ := Option.map_eq_some_iff.1 h
      obtain ⟨j, u2⟩ := x
      simp only [Prod.mk.injEq] at hy
      obtain ⟨rfl, rfl⟩ := hy
      rw [List.set_cons_succ, getM_cons, getM_cons, getM_set a b v l j ⟨_, hx⟩]
      by_cases h1 : b = k
      · rw [if_pos h1, if_pos h1, if_neg (by rw [h1]; exact fun e => hk e.symm)]
      · rw [if_neg h1, if_neg h1]
theorem MapF.make [DecidableEq κ] {w : World} {kf : κ -> Value} {vf : ν -> Value} : MapF (w.alloc (.map #[] 0)) w.heap.size kf vf (fun _ => none) :=
  ⟨[], ⟨⟨#[], 0, alloc_at rfl, rfl, by simp [BornOk]⟩, by simp⟩, fun _ => rfl⟩
theorem MapF.ext [DecidableEq κ] {w w' : World} {r : Nat} {kf : κ -> Value} {vf : ν -> Value} {f : κ -> Option ν} {S : List Nat} (h : MapF w r kf vf f) (hx : Ext S w w') (hr : r ∉ S) : MapF w' r kf vf f := by
  obtain ⟨l, ⟨⟨es, c, h1, h2⟩, h3⟩, h4⟩ := h
  exact ⟨l, ⟨⟨es, c, hx.at h1 hr, h2⟩, h3⟩, h4⟩
theorem MapF.lt [DecidableEq κ] {w : World} {r : Nat} {kf : κ -> Value} {vf : ν -> Value} {f : κ -> Option ν} (h : MapF w r kf vf f) : r < w.heap.size := by
  obtain ⟨l, ⟨⟨es, c, h1, h2⟩, h3⟩, h4⟩ := h
  exact lt_of_at h1
theorem getO {P : Program} {w : World} {r : Nat} {es : Array MapEntry} {clock : Nat} (hb : w.heap[r]? = some (.map es clock)) : (getObj r).run P w = .ok (.map es clock) w := by simp [getObj, Sem.run, hb]
theorem run_mkM {P : Program} (t : TypeId) (w : World) : (makeMap t none).run P w = .ok (.map (some w.heap.size)) (w.alloc (.map #[] 0)) := rfl
theorem run_lookM [DecidableEq κ] {P : Program} {t kt et : TypeId} {kf : κ -> Value} {vf : ν -> Value} (ht : P.underlying t = some (.map kt et)) (hk : KeyOk P kt kf) {z : Value} (hz : ∀ w, (zeroValue et).run P w = .ok z w) {w : World} {r : Nat} {f : κ -> Option ν} (h : MapF w r kf vf f) (a : κ) (c : Bool) :
    (lookup t (.map (some r)) (kf a) c).run P w = .ok (if c then .tuple #[((f a).map vf).getD z, .bool (f a).isSome] else ((f a).map vf).getD z) w := by
  obtain ⟨l, ⟨⟨es, cl, h1, h2, hbn⟩, h3⟩, h4⟩ := h
  have hf := find_run hk a w h2
  have hg : (firstOf a l 0).map (·.2) = f a := h4 a
  unfold lookup
  rw [Sem.run_bind, run_underlying ht]
  simp only [Result.andThen_ok, Sem.run_bind, getO h1, Sem.run_pure, hk.check, hf]
  rw [<- hg]
  cases firstOf a l 0 with
  | none => cases c <;> simp [hz]
  | some x => cases c <;> simp
theorem run_setObjM {P : Program} {w : World} {r : Nat} {es : Array MapEntry} {clock : Nat} (o : Obj) (hb : w.heap[r]? = some (.map es clock)) : (setObj r o).run P w = .ok () (World.setM w r o) := by simp [setObj, Sem.run, hb, World.setM]
theorem run_updM [DecidableEq κ] {P : Program} {t kt et : TypeId} {kf : κ -> Value} {vf : ν -> Value} (ht : P.underlying t = some (.map kt et)) (hk : KeyOk P kt kf) {w : World} {r : Nat} {f : κ -> Option ν} (h : MapF w r kf vf f) (a : κ) (v : ν) {K : Unit -> World -> Prop}
    (hK : ∀ w', MapF w' r kf vf (fun b => if b = a then some v else f b) -> Ext [r] w w' -> K () w') : resV K ((mapUpdate t (.map (some r)) (kf a) (vf v)).run P w) := by
  obtain ⟨l, ⟨⟨es, cl, h1, h2, hbn⟩, h3⟩, h4⟩ := h
  have hf := find_run hk a w h2
  have hl : es.toList.length = l.length := by simpa using congrArg List.length h2
  unfold mapUpdate
  simp only [Sem.run_bind, run_underlying ht, Result.andThen_ok, getO h1, hk.check, hf]
  cases hx : firstOf a l 0 with
  | none =>
    simp only [Option.map_none, run_setObjM _ h1]
    refine hK _ ⟨l ++ [(a, v)], ⟨⟨_, _, setM_at h1, ?_, hbn.push⟩, ?_⟩, fun b => ?_⟩ (Ext.refl.setM h1 (.inl (by simp)))
    · simp [h2]
    · have hn : a ∉ l.map (·.1) := getM_none.1 (by unfold getM; rw [hx]; rfl)
      rw [List.map_append, List.nodup_append]
      refine ⟨h3, by simp, fun x hx' y hy => ?_⟩
      simp at hy
      subst hy
      rintro rfl
      exact hn hx'
    · rw [getM_append a b v l (getM_none.1 (by unfold getM; rw [hx]; rfl)), h4]
  | some x =>
    obtain ⟨i, u⟩ := x
    have hget := first_get hx
    obtain ⟨hi, -⟩ := List.getElem?_eq_some_iff.1 hget
    have hes : es.toList[i]? = some es.toList[i] := List.getElem?_eq_getElem (by omega)
    have hkey : es.toList[i].key = kf a := by
      have := congrArg (fun x => x[i]?) h2
      simp only [List.getElem?_map, hes, hget, Option.map_some, Option.some.injEq, Prod.mk.injEq] at this
      exact this.1
    have hes2 : es[i]? = some es.toList[i] := by rw [<- hes]; simp
    have hkeep : (keyThatStays (((es[i]?).map (·.key)).getD (kf a)) (kf a)).run P w = .ok (kf a) w := by
      rw [hes2]
      simp only [Option.map_some, Option.getD_some, hkey]
      unfold keyThatStays
      rw [if_pos (hk.bits a)]
      rfl
    simp only [Option.map_some, Sem.run_bind, hkeep, Result.andThen_ok, run_setObjM _ h1]
    refine hK _ ⟨l.set i (a, v), ⟨⟨_, _, setM_at h1, ?_, hbn.modify _ _ fun _ => rfl⟩, ?_⟩, fun b => ?_⟩ (Ext.refl.setM h1 (.inl (by simp)))
    · apply List.ext_getElem?
      intro j
      have hj := congrArg (fun x => x[j]?) h2
      simp only [List.getElem?_map] at hj
      simp only [List.getElem?_map, Array.toList_modify, List.getElem?_modify, List.getElem?_set]
      by_cases hij : i = j
      · subst hij
        simp [hes2, hi]
      · simp [hij, hj]
        simpa using hj
    · have : (l.set i (a, v)).map (·.1) = l.map (·.1) := by
        rw [List.map_set]
        apply List.ext_getElem?
        intro j
        rw [List.getElem?_set]
        split
        · rename_i hij
          subst hij
          have hget2 := List.getElem?_eq_getElem hi
          rw [hget] at hget2
          simp only [Option.some.injEq] at hget2
          simp [hi, <- hget2]
        · rfl
      rw [this]; exact h3
    · rw [getM_set a b v l i ⟨u, hx⟩, h4]
end Go.Fx
namespace Go.Proofs.YtobkjnmdbkieeaaGreatDoor
open Go.Fx
set_option maxRecDepth 100000
theorem check_str {P : Program} {t : TypeId} {e : Bool} {n : Nat} {v : Value} (h : P.underlying t = some .string) (w : World) : (Instr.checkKey e (n + 1) t v).run P w = .ok () w := by
 unfold Instr.checkKey
 rw [Sem.run_bind, run_underlying h]
 rfl
theorem keyS : KeyOk Tryz.prog 9 sV := by
 refine ⟨.inl ⟨_, Tryz.underlying9, fun a b => ?_⟩, fun e a w => check_str Tryz.underlying9 w, fun a => ?_⟩
 ·show some ((⟨a.toArray⟩ : ByteArray) == ⟨b.toArray⟩) = some (decide (a = b))
  have e : ((⟨a.toArray⟩ : ByteArray) == ⟨b.toArray⟩) = (a.toArray == b.toArray) := rfl
  rw [e]
  congr 1
  rw [Bool.eq_iff_iff, beq_iff_eq, decide_eq_true_eq]
  constructor
  ·intro h
   simpa using h
  ·rintro rfl; rfl
 ·have e : ((⟨a.toArray⟩ : ByteArray) == ⟨a.toArray⟩) = (a.toArray == a.toArray) := rfl
  simp [sV, Instr.sameBits, e]
def iV64 (n : Int) : Value := .int .i64 n
def mkC (r1 r2 : Nat) : List Value := [.map (some r1), .map (some r2)]
theorem mkC_len (a b : Nat) : (mkC a b).length = 2 := by simp [mkC]
theorem mkC_all (a b : Nat) : (mkC a b).all (fun v => v.oneCell') = true := by simp [mkC]; exact ⟨rfl, rfl⟩
theorem mkC_sub (a b : Nat) : sub (mkC a b) 0 2 = mkC a b := rfl
def toldK (s : List UInt8) : Int := Lib.lastIndex s [32]
def toldSh (s : List UInt8) : Nat := (rowZ (parseOp s)).s
/-- an instruction's text with a number in the place of a mark's name. -/
def toldF (at' times : List UInt8 -> Option Int) (s : List UInt8) (n : Int) : List UInt8 :=
 if toldK s < 0 then s else if (times (s.drop (toldK s + 1).toNat)).getD 0 ≠ 1 ∨ (toldSh s ≠ 66 /\ toldSh s ≠ 74) then s
 else s.take (toldK s + 1).toNat ++ dec (((at' (s.drop (toldK s + 1).toNat)).getD 0 - n) * 4)
theorem lastOcc_lt (s p : List UInt8) : ∀ k : Nat, Lib.lastOcc s p k < k
 | 0 => by unfold Lib.lastOcc; decide
 | k + 1 => by
  have := lastOcc_lt s p k
  rcases h : Lib.occAt s p k with _ | _
  ·rw [Lib.lastOcc_miss s p k h]; omega
  ·rw [Lib.lastOcc_hit s p k h]; omega
theorem toldK_lt (s : List UInt8) : toldK s < s.length := by
 unfold toldK Lib.lastIndex
 split
 ·rename_i h
  have := lastOcc_lt s [32] (s.length - [(32 : UInt8)].length + 1)
  simp at h this ⊢
  omega
 ·omega
theorem told_spec {w : World} {r1 r2 : Nat} {A T : List UInt8 -> Option Int} {s : List UInt8} {n : Int} (hg : Gm w) (h1 : MapF w r1 sV iV64 A) (h2 : MapF w r2 sV iV64 T) (hA : ∀ x a, A x = some a -> 0 <= a /\ a <= 1000000) (hs : s.length <= 1000000) (hn : 0 <= n /\ n <= 1000000) {K : Value -> World -> Prop}
  (hK : ∀ w', Ext [] w w' -> K (.string ⟨(toldF A T s n).toArray⟩) w') : callsK Tryz.prog 30 #[.agg (mkC r1 r2).toArray, .string ⟨s.toArray⟩, .int .i64 n] w K := by
 apply F30_ok
 unfold F30
 have m0 : (mkC r1 r2)[0]? = some (.map (some r1)) := rfl
 have m1 : (mkC r1 r2)[1]? = some (.map (some r2)) := rfl
 have hll : (mkC r1 r2).length = 2 := rfl
 have hla : (mkC r1 r2).all (fun v => v.oneCell') = true := rfl
 simp (disch := first | exact qD5 | fail) only [qG2, Nat.reduceAdd, Nat.reduceLeDiff, Int.reduceToNat, Int.reduceAdd, Int.reduceSub, Int.reduceLT, Int.reduceLE, Nat.reduceSub, Nat.reduceMul, Nat.reduceEqDiff, mkC_sub, hll, hla]
 have g3 : (w.alloc (.cells (mkC r1 r2).toArray 74)).heap[w.heap.size]? = some (.cells (mkC r1 r2).toArray 74 (0, 0)) := alloc_at rfl
 have hx0 : Ext [] w (w.alloc (.cells (mkC r1 r2).toArray 74)) := Ext.alloc Ext.refl _ _
 refine LastIndex_spec (s := s) (p := [32]) (by omega) ?_
 have hk1 := toldK_lt s
 have hT : toldF A T s n = if toldK s < 0 then s else if (T (s.drop (toldK s + 1).toNat)).getD 0 ≠ 1 ∨ (toldSh s ≠ 66 /\ toldSh s ≠ 74) then s else s.take (toldK s + 1).toNat ++ dec (((A (s.drop (toldK s + 1).toNat)).getD 0 - n) * 4) := rfl
 have hkk : Lib.lastIndex s [32] = toldK s := rfl
 have hop : findN (Lib.cut s [32]).1 69 0 = parseOp s := rfl
 have hshd : (rowZ (parseOp s)).s = toldSh s := rfl
 rw [hkk]
 generalize toldF A T s n = tf at *
 generalize toldK s = k at *
 by_cases hk0 : k < 0
 ·rw [if_pos hk0] at hT
  rw [hT] at hK
  simp (disch := first | exact qD5 | fail) only [qG2, Nat.reduceAdd, Nat.reduceLeDiff, Int.reduceToNat, Int.reduceAdd, Int.reduceSub, Int.reduceLT, Int.reduceLE, Nat.reduceSub, Nat.reduceMul, Nat.reduceEqDiff]
  exact hK _ hx0
 rw [if_neg hk0] at hT
 simp (disch := first | exact qD5 | fail) only [qG2, Nat.reduceAdd, Nat.reduceLeDiff, Int.reduceToNat, Int.reduceAdd, Int.reduceSub, Int.reduceLT, Int.reduceLE, Nat.reduceSub, Nat.reduceMul, Nat.reduceEqDiff]
 have l3 := lt_of_at g3
 generalize (w.alloc (.cells (mkC r1 r2).toArray 74)) = w1 at *
 refine Cut_spec (s := s) (p := [32]) (hg.ext hx0) (by omega) fun w2 hx1 => ?_
 have hofl := findN_lt (Lib.cut s [32]).1 69 0 rfl
 have hshok := rowZ_sh (parseOp s)
 rw [hop] at hofl
 rw [hshd] at hshok
 generalize hcc : Lib.cut s [32] = c at *
 simp (disch := first | exact qD5 | fail) only [qG2, Nat.reduceAdd, Nat.reduceLeDiff, Int.reduceToNat, Int.reduceAdd, Int.reduceSub, Int.reduceLT, Int.reduceLE, Nat.reduceSub, Nat.reduceMul, Nat.reduceEqDiff]
 refine Find_spec fun w3 hx2 => ?_
 rw [hop]
 refine Shape_spec (n := (parseOp s : Nat)) (by omega) fun w4 hx4 => ?_
 rw [hshd]
 have hxa := (hx1.trans hx2 (by simp)).trans hx4 (by simp)
 have g4 := hxa.at g3 (by simp)
 have hxb := hx0.trans hxa (by simp)
 have l4 := lt_of_at g4
 have hM1 := h1.ext hxb (by simp)
 have hM2 := h2.ext hxb (by simp)
 obtain ⟨kn, hkn⟩ : ∃ kn : Nat, kn = (k + 1).toNat := ⟨_, rfl⟩
 rw [<- hkn] at hT
 have ekn : k + 1 = (kn : Int) := by omega
 have hcutA : ∀ w, (Instr.sliceAt 9 (.string ⟨s.toArray⟩) (some (.int .i64 (kn : Nat))) none none).run Tryz.prog w = .ok (.string ⟨(s.drop kn).toArray⟩) w := by
  intro w
  have hsz := size_mk s
  rw [run_cutS Tryz.underlying9 ⟨s.toArray⟩ _ _ (l := kn) (h := s.length) (fun w => by rw [hsz]; exact (slR.2.2.1 _ _ _ _ _ _ (by omega)).trans (by rw [Int.toNat_natCast])), cut_mk]
  rw [List.take_of_length_le (by simp)]
 have hcutB : ∀ w, (Instr.sliceAt 9 (.string ⟨s.toArray⟩) none (some (.int .i64 (kn : Nat))) none).run Tryz.prog w = .ok (.string ⟨(s.take kn).toArray⟩) w := by
  intro w
  have hsz := size_mk s
  rw [run_cutS Tryz.underlying9 ⟨s.toArray⟩ _ _ (l := 0) (h := kn) (fun w => by rw [hsz]; exact (slR.2.1 _ _ _ _ _ _ (by omega)).trans (by rw [Int.toNat_natCast])), cut_mk]
  rw [List.drop_zero, Nat.sub_zero]
 have hzi : ∀ w, (zeroValue 3).run Tryz.prog w = .ok (iV64 0) w := fun w => by rw [Tryz.zeroValue3]; rfl
 have hkT : ∀ w, MapF w r2 sV iV64 T -> (Instr.lookup 72 (.map (some r2)) (.string ⟨(s.drop kn).toArray⟩) false).run Tryz.prog w = .ok (.int .i64 ((T (s.drop kn)).getD 0)) w := fun w h => by
  have := run_lookM Tryz.underlying72 keyS hzi h (s.drop kn) false
  rw [show (Value.string ⟨(s.drop kn).toArray⟩) = sV (s.drop kn) from rfl, this]
  cases T (s.drop kn) <;> rfl
 have hkA : ∀ w, MapF w r1 sV iV64 A -> (Instr.lookup 72 (.map (some r1)) (.string ⟨(s.drop kn).toArray⟩) false).run Tryz.prog w = .ok (.int .i64 ((A (s.drop kn)).getD 0)) w := fun w h => by
  have := run_lookM Tryz.underlying72 keyS hzi h (s.drop kn) false
  rw [show (Value.string ⟨(s.drop kn).toArray⟩) = sV (s.drop kn) from rfl, this]
  cases A (s.drop kn) <;> rfl
 have hAl : 0 <= (A (s.drop kn)).getD 0 /\ (A (s.drop kn)).getD 0 <= 1000000 := by
  cases hA' : A (s.drop kn) with
  | none => decide
  | some a => exact hA _ a hA'
 have hT4 := hkT w4 hM2
 have hT4d := hkT w4.drew (hM2.ext (Ext.refl.drew) (by simp : r2 ∉ ([] : List Nat)))
 have hA4 := hkA w4 hM1
 have hA4d := hkA w4.drew (hM1.ext (Ext.refl.drew) (by simp : r1 ∉ ([] : List Nat)))
 have hA4dd := hkA w4.drew.drew (hM1.ext (Ext.refl.drew.drew) (by simp : r1 ∉ ([] : List Nat)))
 generalize hTv : (T (s.drop kn)).getD 0 = tv at *
 generalize hAv : (A (s.drop kn)).getD 0 = av at *
 generalize toldSh s = sh at *
 by_cases c1 : tv ≠ 1
 ·rw [if_pos (.inl c1)] at hT
  rw [hT] at hK
  simp (disch := first | exact qD5 | fail) only [qG2, Nat.reduceAdd, Nat.reduceLeDiff, Int.reduceToNat, Int.reduceAdd, Int.reduceSub, Int.reduceLT, Int.reduceLE, Nat.reduceSub, Nat.reduceMul, Nat.reduceEqDiff, joinBR, g4, m1, ekn, hcutA, hT4, hT4d]
  exact hK _ qX
 have c1' : tv = 1 := Classical.byContradiction fun h => c1 h
 subst c1'
 by_cases c2 : sh = 66 ∨ sh = 74
 ·rw [if_neg (by omega)] at hT
  rw [hT] at hK
  have hdl := dec_len (n := (av - n) * 4)
  have hadd := addS (a := s.take kn) (b := dec ((av - n) * 4)) (by simp; omega)
  have hin : in64 ((av - n) * 4) := ⟨by omega, by omega⟩
  rcases c2 with rfl | rfl
  ·simp (disch := first | exact qD5 | fail) only [qG2, Nat.reduceAdd, Nat.reduceLeDiff, Int.reduceToNat, Int.reduceAdd, Int.reduceSub, Int.reduceLT, Int.reduceLE, Nat.reduceSub, Nat.reduceMul, Nat.reduceEqDiff, joinBR, g4, m0, m1, ekn, hcutA, hcutB, hT4, hT4d, hA4, hA4d, hA4dd]
   refine digits_spec hin fun w9 hx9 => ?_
   simp (disch := first | exact qD5 | fail) only [qG2, Nat.reduceAdd, Nat.reduceLeDiff, Int.reduceToNat, Int.reduceAdd, Int.reduceSub, Int.reduceLT, Int.reduceLE, Nat.reduceSub, Nat.reduceMul, Nat.reduceEqDiff, joinBR, hadd]
   exact hK _ ((Ext.trans (S := []) qX hx9 (by simp)))
  ·simp (disch := first | exact qD5 | fail) only [qG2, Nat.reduceAdd, Nat.reduceLeDiff, Int.reduceToNat, Int.reduceAdd, Int.reduceSub, Int.reduceLT, Int.reduceLE, Nat.reduceSub, Nat.reduceMul, Nat.reduceEqDiff, joinBR, g4, m0, m1, ekn, hcutA, hcutB, hT4, hT4d, hA4, hA4d, hA4dd]
   refine digits_spec hin fun w9 hx9 => ?_
   simp (disch := first | exact qD5 | fail) only [qG2, Nat.reduceAdd, Nat.reduceLeDiff, Int.reduceToNat, Int.reduceAdd, Int.reduceSub, Int.reduceLT, Int.reduceLE, Nat.reduceSub, Nat.reduceMul, Nat.reduceEqDiff, joinBR, hadd]
   exact hK _ ((Ext.trans (S := []) qX hx9 (by simp)))
 ·rw [if_pos (.inr (by omega))] at hT
  rw [hT] at hK
  simp (disch := first | exact qD5 | fail) only [qG2, Nat.reduceAdd, Nat.reduceLeDiff, Int.reduceToNat, Int.reduceAdd, Int.reduceSub, Int.reduceLT, Int.reduceLE, Nat.reduceSub, Nat.reduceMul, Nat.reduceEqDiff, joinBR, g4, m1, ekn, hcutA, hT4, hT4d]
  exact hK _ qX
end Go.Proofs.YtobkjnmdbkieeaaGreatDoor
