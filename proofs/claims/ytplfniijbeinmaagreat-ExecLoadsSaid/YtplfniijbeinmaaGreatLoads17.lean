/- A capability that is stored, and loaded again: the law; conditions: those of each theorem. -/
import Derived.Test.YtplfniijbeinmaaGreatStep3
namespace Go.Proofs.YtplfniijbeinmaaGreat
open Go.Fx
set_option maxRecDepth 100000
set_option linter.unusedSimpArgs false
set_option linter.unusedVariables false
/-- the capability of the page behind the first, with permissions p. -/
def thM (p : Nat) : Nat := 67112960 + p * 4294967296
theorem th_sp {p a : Nat} (hp : p < 512) (h : 4096 ≤ a ∧ a < 8192) : spM (thM p) a = some (4096, 8192) := by
  unfold spM spn thM
  rw [show (67112960 + p * 4294967296) % 16384 = 4096 by omega, show (67112960 + p * 4294967296) / 16384 % 4096 = 0 by omega, show (67112960 + p * 4294967296) / 67108864 % 64 = 1 by omega]
  rw [show (1 : Nat) - 1 = 0 by omega, Nat.pow_zero, Nat.div_one, Nat.div_one]
  rw [if_neg (by omega), if_neg (by omega), if_neg (by simp <;> omega), Nat.mul_one, Nat.mul_one]
  congr 2 <;> first | omega | (simp <;> omega)
theorem th_perm {p : Nat} (hp : p < 512) : thM p / 4294967296 % 512 = p := by unfold thM; omega
theorem th_right {p a : Nat} (hp : p < 512) (h : 4096 ≤ a ∧ a < 8192) : rightM (thM p) a = true := by
  unfold rightM
  rw [th_sp hp h, mtN_eq, decide_eq_true (by unfold thM; omega)]
  rfl
theorem th_open {p a : Nat} (hp : p < 512) (h : 4096 ≤ a ∧ a < 8192) : openM true (thM p) a = true := by
  unfold openM
  rw [th_right hp h, decide_eq_true (by unfold thM; omega)]
  rfl
theorem th_move {p a : Nat} (hp : p < 512) (h : 4096 ≤ a ∧ a < 8192) : moveT true (thM p) a a = true := by
  unfold moveT
  rw [th_open hp h, th_sp hp h, decide_eq_true ⟨rfl, rfl⟩]
  rfl
theorem th_chk {p a k : Nat} (hp : p < 512) (h : 4096 ≤ a ∧ a + 16 ≤ 8192) : chkN true (thM p) a k 16 = if pwN (needN k) p = true then 0 else 3 := by
  unfold chkN
  rw [th_open hp (by omega), th_right hp (by omega), th_sp hp (by omega), th_perm hp]
  rw [if_neg (by simp), if_neg (by simp)]
  cases pwN (needN k) p
  · rfl
  · rw [if_neg (by simp), if_pos rfl, if_pos ⟨h.1, h.2⟩]
theorem perm_all : (List.range 512).all (fun p => pwN 18 (p ||| 18) && pwN 2 (p ||| 18) && (pwN 1 (p ||| 18) == decide ((p ||| 18) &&& 1 = 1)) && (pwN 8 (p ||| 18) == decide ((p ||| 18) &&& 8 ≠ 0)) && decide ((p ||| 18) < 512)) = true := by kernel_rfl
theorem perm_one {p : Nat} (h : p < 512) : pwN 18 (p ||| 18) = true ∧ pwN 2 (p ||| 18) = true ∧ pwN 1 (p ||| 18) = decide ((p ||| 18) &&& 1 = 1) ∧ pwN 8 (p ||| 18) = decide ((p ||| 18) &&& 8 ≠ 0) ∧ (p ||| 18) < 512 := by
  have := List.all_eq_true.1 perm_all p (List.mem_range.2 h)
  simp only [Bool.and_eq_true, beq_iff_eq, decide_eq_true_eq] at this
  obtain ⟨⟨⟨⟨h1, h2⟩, h3⟩, h4⟩, h5⟩ := this
  exact ⟨h1, h2, h3, h4, h5⟩
/-- a capability that was laid is read as it is. -/
theorem laid_read {m : Nat → Int} {a : Nat} {y : Cq} (hm : y.m < 18446744073709551616) (ha : y.a < 18446744073709551616) : leN (laid m a 16 (capBy (y.m : Nat) (y.a : Nat))) (a + 8) 8 = y.m ∧ leN (laid m a 16 (capBy (y.m : Nat) (y.a : Nat))) a 8 = y.a := by
  constructor
  · rw [leN_congr (m' := fun x => byteOf (y.m : Nat) (x - (a + 8))) (fun j hj => by unfold laid capBy; rw [if_pos (by omega), if_neg (by omega)]; congr 1 <;> omega), ← leN_shift, leN_congr (m' := byteOf (y.m : Nat)) (fun j hj => by congr 1 <;> omega), leN_byteOf]
    show y.m % 2 ^ 64 = _
    rw [Nat.mod_eq_of_lt (by simpa using hm)]
  · rw [leN_congr (m' := fun x => byteOf (y.a : Nat) (x - a)) (fun j hj => by unfold laid capBy; rw [if_pos (by omega), if_pos (by omega)]; try (congr 1 <;> omega)), ← leN_shift, leN_congr (m' := byteOf (y.a : Nat)) (fun j hj => by congr 1 <;> omega), leN_byteOf]
    show y.a % 2 ^ 64 = _
    rw [Nat.mod_eq_of_lt (by simpa using ha)]
theorem cq_tag (x : Cq) (t : Bool) : (cq x).set 0 (.bool t) = cq ⟨t, x.m, x.a⟩ := rfl
theorem cq_addr (x : Cq) (a : Nat) : (cq x).set 2 (.int .u64 (a : Nat)) = cq ⟨x.t, x.m, a⟩ := rfl
theorem rowsW2 {w : World} {E : TypeId} {f : Nat × Nat} {g x y : Nat} (h : w.heap[g]? = some (.cells [.int .u32 (x : Nat), .int .u32 (y : Nat)].toArray E f)) : RowsAt w (.slice (some ⟨g, 0, none⟩) 2 2) 1 ([x, y].map u4C) :=
  ⟨_, 2, rfl, ⟨Nat.le_refl _, by simp [maxLen]⟩, .inr ⟨g, 0, _, E, f, rfl, h, by simp, fun i r hi => by
    match i, hi with
    | 0, hi => simp at hi; subst hi; simp [sub, u4C]
    | 1, hi => simp at hi; subst hi; simp [sub, u4C]⟩⟩
theorem laid_off {m f : Nat → Int} {a n b k : Nat} (h : b + k ≤ a ∨ a + n ≤ b) : leN (laid m a n f) b k = leN m b k := leN_congr fun j hj => by
  unfold laid
  rw [if_neg (by omega)]
/-- what stores a capability, where the program's words are. -/
theorem csc_step {w : World} {rb pb a p : Nat} {c : Nat → Cq} {m g : Nat → Int} {x : Cq} (hM : Mem w rb pb 3 m g) (hc : c 32 = pcQ 0) (hW : leN m 0 4 = 4276259) (h2 : regX c 2 = ⟨true, thM p, a⟩) (h4 : regX c 4 = x) (hp : p < 512) (ha : 4096 ≤ a ∧ a + 16 ≤ 8192 ∧ a % 16 = 0) (hxm : x.m < 18446744073709551616) (hxa : x.a < 18446744073709551616) (c18 : pwN 18 p = true) (c2 : pwN 2 p = true)
    {K : Value → World → Prop} (hK : ∀ g' w', bit g' (a / 16) = x.t → Mem w' rb pb 3 (laid m a 16 (capBy (x.m : Nat) (x.a : Nat))) g' → Ext [pb] w w' → K (.tuple #[.agg (cxC (setX c 32 (pcQ 4))).toArray, .agg (ouC 0 0 0 iCsc).toArray]) w') : callsK Tryz.prog 10 #[.agg (cxC c).toArray, flV rb] w K := by
  have hMl : thM p < 18446744073709551616 := by unfold thM; omega
  refine Step_at (a := 0) (W := 4276259) (i := iCsc) (d := setX c 32 (pcQ 4)) (k := 0) (e := 0) (va := 0) (m' := laid m a 16 (capBy (x.m : Nat) (x.a : Nat))) (Q := fun g' => bit g' (a / 16) = x.t) hM hc (by omega) (by omega) hW (by decide) (by decide) dec_csc (fun q w3 K hq hM3 hK3 => ?_) hK
  have lM := hM3.lt
  refine runMem_spec (S := [pb]) (Post := fun w2 => ∃ g', bit g' (a / 16) = x.t ∧ Mem w2 rb pb 3 (laid m a 16 (capBy (x.m : Nat) (x.a : Nat))) g') hq (.inr rfl) (by simp; omega) (fun w1 w2 T ⟨g', h1, h2⟩ hx hT => ⟨g', h1, h2.ext hx (fun hc => by have := hT _ hc; omega) (fun hc => by have := hT _ hc; omega)⟩) (fun w4 K hx4 hK4 => ?_) (fun w4 hx4 ⟨g', h1, h2⟩ => hK3 g' w4 h1 h2 (hx4.mono (by simp)))
  have hs : spM (thM p) a = some (4096, 8192) := th_sp hp (by omega)
  refine memW_spec (x := a) (n := 3) (hx4.at hq (by simp)) rfl rfl (hM3.ext hx4 (by simp) (by simp)) (by omega) ?_ (by omega) (by show (0 : Nat) < _; decide) ?_ ?_ ?_ (by omega) ha.2.2 ?_ ?_ ?_ ?_
  · show (regX c 2).a + 0 = a
    rw [h2]
    rfl
  · show (regX c 2).m < _
    rw [h2]
    exact hMl
  · show spB (spM (regX c 2).m a) < _
    rw [h2, hs]
    decide
  · show spT (spM (regX c 2).m a) < _
    rw [h2, hs]
    decide
  · show (regX c 4).m < _
    rw [h4]
    exact hxm
  · show (regX c 4).a < _
    rw [h4]
    exact hxa
  · show chkN (moveT (regX c 2).t (regX c 2).m (regX c 2).a a) (regX c 2).m a (kdW (regX c 4).t) 16 = 0
    rw [h2, h4]
    show chkN (moveT true (thM p) a a) (thM p) a (kdW x.t) 16 = 0
    rw [th_move hp (by omega), th_chk hp (by omega)]
    cases x.t
    · exact if_pos c2
    · exact if_pos c18
  · intro g' w5 hM5 hg hx5
    have h4m : (regX c iCsc.r2) = x := h4
    rw [h4m] at hM5
    refine hK4 w5 hx5 ⟨g', ?_, hM5⟩
    have := hg (a / 16) (by omega)
    rw [if_pos rfl] at this
    rw [this]
    exact congrArg Cq.t h4
theorem clc_step {w : World} {rb pb a p : Nat} {c : Nat → Cq} {m g : Nat → Int} {y z : Cq} (hM : Mem w rb pb 3 m g) (hc : c 32 = pcQ 4) (hW : leN m 4 4 = 74127) (h2 : regX c 2 = ⟨true, thM p, a⟩) (hp : p < 512) (ha : 4096 ≤ a ∧ a + 16 ≤ 8192 ∧ a % 16 = 0) (c1 : pwN 1 p = true) (hy : y = ⟨bit g (a / 16), leN m (a + 8) 8, leN m a 8⟩) (hz : z = if pwN 8 p = true then y else ⟨false, y.m, y.a⟩)
    {K : Value → World → Prop} (hK : ∀ g' w', True → Mem w' rb pb 3 m g' → Ext [pb] w w' → K (.tuple #[.agg (cxC (withX (setX c 32 (pcQ 8)) 3 z)).toArray, .agg (ouC 0 0 0 iClc).toArray]) w') : callsK Tryz.prog 10 #[.agg (cxC c).toArray, flV rb] w K := by
  have hMl : thM p < 18446744073709551616 := by unfold thM; omega
  refine Step_at (a := 4) (W := 74127) (i := iClc) (d := withX (setX c 32 (pcQ 8)) 3 z) (k := 0) (e := 0) (va := 0) (m' := m) (Q := fun _ => True) hM hc (by omega) (by omega) hW (by decide) (by decide) dec_clc (fun q w3 K hq hM3 hK3 => ?_) hK
  have lM := hM3.lt
  have l3 := lt_of_at hq
  refine runMem_spec (S := [q]) (Post := fun w2 => Mem w2 rb pb 3 m g) hq (.inl rfl) (by simp; omega) (fun w1 w2 T h2 hx hT => h2.ext hx (fun hc => by have := hT _ hc; omega) (fun hc => by have := hT _ hc; omega)) (fun w4 K hx4 hK4 => ?_) (fun w4 hx4 h2 => hK3 g w4 trivial h2 (hx4.mono (by simp)))
  have hs : spM (thM p) a = some (4096, 8192) := th_sp hp (by omega)
  have hM4 := hM3.ext hx4 (by simp) (by simp)
  have hq4 := hx4.at hq (by simp)
  refine memR_spec (x := a) (n := 3) (y := y) (z := z) hq4 rfl rfl hM4 (by omega) ?_ (by omega) (by show (0 : Nat) < _; decide) ?_ ?_ ?_ (by show (3 : Nat) < _; decide) (by omega) ha.2.2 ?_ hy ?_ ?_
  · show (regX c 2).a + 0 = a
    rw [h2]
    rfl
  · show (regX c 2).m < _
    rw [h2]
    exact hMl
  · show spB (spM (regX c 2).m a) < _
    rw [h2, hs]
    decide
  · show spT (spM (regX c 2).m a) < _
    rw [h2, hs]
    decide
  · show chkN (moveT (regX c 2).t (regX c 2).m (regX c 2).a a) (regX c 2).m a 1 16 = 0
    rw [h2]
    show chkN (moveT true (thM p) a a) (thM p) a 1 16 = 0
    rw [th_move hp (by omega), th_chk hp (by omega)]
    exact if_pos c1
  · show z = if pwN 8 ((regX c 2).m / 4294967296 % 512) = true then y else ⟨false, y.m, y.a⟩
    rw [h2]
    show z = if pwN 8 (thM p / 4294967296 % 512) = true then y else ⟨false, y.m, y.a⟩
    rw [th_perm hp]
    exact hz
  · intro w5 hx5
    exact hK4 w5 hx5 (hM4.run hq4 hx5)
theorem clc_trap {w : World} {rb pb a p : Nat} {c : Nat → Cq} {m g : Nat → Int} (hM : Mem w rb pb 3 m g) (hc : c 32 = pcQ 4) (hW : leN m 4 4 = 74127) (h2 : regX c 2 = ⟨true, thM p, a⟩) (hp : p < 512) (ha : 4096 ≤ a ∧ a + 16 ≤ 8192 ∧ a % 16 = 0) (c1 : pwN 1 p = false)
    {K : Value → World → Prop} (hK : ∀ g' w', True → Mem w' rb pb 3 m g' → Ext [pb] w w' → K (.tuple #[.agg (cxC c).toArray, .agg (ouC 5 3 a iClc).toArray]) w') : callsK Tryz.prog 10 #[.agg (cxC c).toArray, flV rb] w K := by
  have hMl : thM p < 18446744073709551616 := by unfold thM; omega
  refine Step_at (a := 4) (W := 74127) (i := iClc) (d := c) (k := 5) (e := 3) (va := a) (m' := m) (Q := fun _ => True) hM hc (by omega) (by omega) hW (by decide) (by decide) dec_clc (fun q w3 K hq hM3 hK3 => ?_) hK
  have lM := hM3.lt
  refine runMem_spec (S := []) (Post := fun w2 => Mem w2 rb pb 3 m g) hq (.inl rfl) (by simp) (fun w1 w2 T h2 hx hT => h2.ext hx (fun hc => by have := hT _ hc; omega) (fun hc => by have := hT _ hc; omega)) (fun w4 K hx4 hK4 => ?_) (fun w4 hx4 h2 => hK3 g w4 trivial h2 (hx4.mono (by simp)))
  have hs : spM (thM p) a = some (4096, 8192) := th_sp hp (by omega)
  have hM4 := hM3.ext hx4 (by simp) (by simp)
  have hch : chkN (moveT true (thM p) a a) (thM p) a 1 16 = 3 := by
    rw [th_move hp (by omega), th_chk hp (by omega)]
    exact if_neg (by rw [show needN 1 = 1 from rfl, c1]; simp)
  have hch2 : chkN (moveT (regX c 2).t (regX c 2).m (regX c 2).a a) (regX c 2).m a 1 16 = 3 := by
    rw [h2]
    exact hch
  refine memR_trap (x := a) (n := 3) (hx4.at hq (by simp)) rfl rfl hM4 (by omega) ?_ (by omega) (by show (0 : Nat) < _; decide) ?_ ?_ ?_ ?_ ?_
  · show (regX c 2).a + 0 = a
    rw [h2]
    rfl
  · show (regX c 2).m < _
    rw [h2]
    exact hMl
  · show spB (spM (regX c 2).m a) < _
    rw [h2, hs]
    decide
  · show spT (spM (regX c 2).m a) < _
    rw [h2, hs]
    decide
  · show chkN (moveT (regX c 2).t (regX c 2).m (regX c 2).a a) (regX c 2).m a 1 16 ≠ 0
    rw [hch2]
    decide
  · intro w5 hx5
    have e : (regX c iClc.r1) = regX c 2 := rfl
    rw [e, hch2] 
    exact hK4 w5 hx5 (hM4.ext hx5 (by simp) (by simp))
set_option maxHeartbeats 8000000 in
theorem eloads_spec {w : World} {x : Cq} {at0 pp : Int} (hxm : x.m < 18446744073709551616) (hxa : x.a < 18446744073709551616) (hp : 0 ≤ pp ∧ pp < 18446744073709551616) {K : Value → World → Prop} (hK : ∀ w', Ext [] w w' → K (.bool true) w') :
    callsK Tryz.prog 3 #[.agg (cq x).toArray, .int .i64 at0, .int .u64 pp] w K := by
  apply F3_ok
  unfold F3
  obtain ⟨p0, hp0⟩ : ∃ p0 : Nat, p0 = (pp % 512).toNat := ⟨_, rfl⟩
  have hp0l : p0 < 512 := by omega
  obtain ⟨c18, c2, c1, c8, hpl⟩ := perm_one hp0l
  have ea : bitI .and .u64 pp 511 = ((p0 : Nat) : Int) := by
    rw [show (511 : Int) = ((2 ^ 9 - 1 : Nat) : Int) by decide, and_mask (by decide)]
    omega
  have eo : bitI .or .u64 ((p0 : Nat) : Int) 18 = ((p0 ||| 18 : Nat) : Int) := or_u64 (by omega) (by omega)
  obtain ⟨p, hpd⟩ : ∃ p, p = p0 ||| 18 := ⟨_, rfl⟩
  rw [← hpd] at c18 c2 c1 c8 hpl eo
  obtain ⟨k, hk⟩ : ∃ k : Nat, k = (at0 % 256).toNat := ⟨_, rfl⟩
  have hkl : k < 256 := by omega
  have ek : bitI .and .i64 at0 255 = ((k : Nat) : Int) := by
    rw [show (255 : Int) = ((2 ^ 8 - 1 : Nat) : Int) by decide, and_mask (by decide)]
    omega
  have ek2 : (4096 : Int) + (k : Nat) * 16 = ((4096 + k * 16 : Nat) : Int) := by omega
  have hb : ∀ (v : Int) w, (Instr.build 28 #[(1, .int .u64 v)]).run Tryz.prog w = .ok (.agg [.int .u64 0, .int .u64 0, .int .u64 v, .int .u64 0].toArray) w := fun v w => run_build w 28 _ _ (by kernel_rfl)
  simp (disch := first | assumption | omega | (simp only [szR, cq_len, cq_all, cxC_len, cxC_all, inC_len, inC_all, rnC_len, rnC_all, ouC_len, ouC_all, vwC_len, vwC_all, plC_len, plC_all] <;> omega) | rfl | decide) only [gen0, gen1, gen2, rulesC, rulesX, rulesM, litR, bolR, Nat.reduceAdd, Nat.reduceLeDiff, numR, memR, valR, heapR, updR, intR, decR, extR, slR, segR, thenR, pnR, Int.reduceToNat, Int.reduceAdd, Int.reduceSub, Int.reduceLT, Int.reduceLE, Nat.reduceSub, Nat.reduceMul, Nat.reduceEqDiff, ea, eo, hb, cq_sub]
  refine make_spec (p := p) (by omega) fun w1 hx1 => ?_
  have gx : w1.heap[w.heap.size]? = some (.cells (cq x).toArray 24 (0, 0)) := hx1.at (by first | with_reducible rfl | assumption | (simp (disch := first | assumption | omega | (simp only [szR, cq_len, cq_all, cxC_len, cxC_all, inC_len, inC_all, rnC_len, rnC_all, ouC_len, ouC_all, vwC_len, vwC_all, plC_len, plC_all] <;> omega) | rfl | decide) only [gen0, gen1, gen2, rulesC, rulesX, rulesM, litR, bolR, Nat.reduceAdd, Nat.reduceLeDiff, numR, memR, valR, heapR, updR, intR, decR, extR, slR, segR, thenR, pnR, Int.reduceToNat, Int.reduceAdd, Int.reduceSub, Int.reduceLT, Int.reduceLE, Nat.reduceSub, Nat.reduceMul, Nat.reduceEqDiff] <;> rfl)) (by simp)
  have gv : w1.heap[w.heap.size + 1]? = some (.cells [.int .u64 4096, .int .u64 8192, .int .u64 (p : Nat), .int .u64 0].toArray 28 (0, 0)) := hx1.at (by first | with_reducible rfl | assumption | (simp (disch := first | assumption | omega | (simp only [szR, cq_len, cq_all, cxC_len, cxC_all, inC_len, inC_all, rnC_len, rnC_all, ouC_len, ouC_all, vwC_len, vwC_all, plC_len, plC_all] <;> omega) | rfl | decide) only [gen0, gen1, gen2, rulesC, rulesX, rulesM, litR, bolR, Nat.reduceAdd, Nat.reduceLeDiff, numR, memR, valR, heapR, updR, intR, decR, extR, slR, segR, thenR, pnR, Int.reduceToNat, Int.reduceAdd, Int.reduceSub, Int.reduceLT, Int.reduceLE, Nat.reduceSub, Nat.reduceMul, Nat.reduceEqDiff] <;> rfl)) (by simp)
  have hxw : Ext [] w w1 := Ext.trans (S := []) (by (repeat first | assumption | exact Ext.refl | apply Ext.alloc | apply Ext.drew | (refine Ext.updN ?_ ?_; (focus first | omega | (simp only [szR] <;> omega))) | (refine Ext.updI ?_ ?_; (focus (simp; done))))) hx1 (by simp)
  clear hx1
  obtain ⟨a, ha⟩ : ∃ a, a = 4096 + k * 16 := ⟨_, rfl⟩
  rw [← ha] at ek2
  have hal : 4096 ≤ a ∧ a + 16 ≤ 8192 ∧ a % 16 = 0 := by omega
  have hM0 : 67112960 + p * 4294967296 = thM p := rfl
  have hMl : thM p < 18446744073709551616 := by unfold thM; omega
  rw [hM0]
  simp (disch := first | assumption | omega | (simp only [szR, cq_len, cq_all, cxC_len, cxC_all, inC_len, inC_all, rnC_len, rnC_all, ouC_len, ouC_all, vwC_len, vwC_all, plC_len, plC_all] <;> omega) | rfl | decide) only [gen0, gen1, gen2, rulesC, rulesX, rulesM, litR, bolR, Nat.reduceAdd, Nat.reduceLeDiff, numR, memR, valR, heapR, updR, intR, decR, extR, slR, segR, thenR, pnR, Int.reduceToNat, Int.reduceAdd, Int.reduceSub, Int.reduceLT, Int.reduceLE, Nat.reduceSub, Nat.reduceMul, Nat.reduceEqDiff, cq_over0, cq_put, cq_tag, cq_addr, Bool.not_true, ek, ek2, plC_build]
  have hx2 : Ext [] w1 ((w1.alloc (.cells (cq ⟨true, thM p, a⟩).toArray 24)).alloc (.cells [.int .u32 4276259, .int .u32 74127].toArray 38)) := by (repeat first | assumption | exact Ext.refl | apply Ext.alloc | apply Ext.drew | (refine Ext.updN ?_ ?_; (focus first | omega | (simp only [szR] <;> omega))) | (refine Ext.updI ?_ ?_; (focus (simp; done))))
  have g8 : ((w1.alloc (.cells (cq ⟨true, thM p, a⟩).toArray 24)).alloc (.cells [.int .u32 4276259, .int .u32 74127].toArray 38)).heap[w1.heap.size]? = some (.cells (cq ⟨true, thM p, a⟩).toArray 24 (0, 0)) := (alloc_ne (by simp only [szR]; omega)).trans (alloc_at rfl)
  have hv : RowsAt ((w1.alloc (.cells (cq ⟨true, thM p, a⟩).toArray 24)).alloc (.cells [.int .u32 4276259, .int .u32 74127].toArray 38)) (.slice (some ⟨w1.heap.size + 1, 0, none⟩) 2 2) 1 ([4276259, 74127].map u4C) := rowsW2 (alloc_at (by simp only [szR]))
  have hs2 : w.heap.size ≤ ((w1.alloc (.cells (cq ⟨true, thM p, a⟩).toArray 24)).alloc (.cells [.int .u32 4276259, .int .u32 74127].toArray 38)).heap.size := by have := hxw.size; have := hx2.size; omega
  refine built_spec (ws := [4276259, 74127]) hv (by simp) (by simp) fun rb pb L m g w2 hM2 hW hLl hLa hLs hx3 hrb hpb => ?_
  have hW0 : leN m 0 4 = 4276259 := hW 0 4276259 (by simp) rfl
  have hW1 : leN m 4 4 = 74127 := hW 1 74127 (by simp) rfl
  have hrp : w.heap.size ≤ rb ∧ w.heap.size ≤ pb := ⟨Nat.le_trans hs2 hrb, Nat.le_trans hs2 hpb⟩
  have hbq : w1.heap.size ≠ pb ∧ w.heap.size ≠ pb ∧ w.heap.size + 1 ≠ pb := by
    simp only [szR] at hpb
    have := lt_of_at gv
    omega
  clear hrb hpb hs2 hv
  have hx4 := hx2.trans hx3 (by simp)
  replace gx := hx4.at gx (by simp)
  replace gv := hx4.at gv (by simp)
  replace g8 := hx3.at g8 (by simp)
  replace hxw := hxw.trans hx4 (by simp)
  clear hx2 hx3 hx4
  generalize hb8 : w1.heap.size = b8 at *
  clear hb8 w1
  have hsp := splice_all (l := [.int .i64 0, .slice none 0 0, .slice none 0 0, .slice none 0 0]) (vs := L) (by rw [hLl]; rfl)
  have hdr := drop_all (l := [.int .i64 0, .slice none 0 0, .slice none 0 0, .slice none 0 0]) (vs := L) (by rw [hLl]; rfl)
  simp (disch := first | assumption | omega | (simp only [szR, cq_len, cq_all, cxC_len, cxC_all, inC_len, inC_all, rnC_len, rnC_all, ouC_len, ouC_all, vwC_len, vwC_all, plC_len, plC_all] <;> omega) | rfl | decide) only [gen0, gen1, gen2, rulesC, rulesX, rulesM, litR, bolR, Nat.reduceAdd, Nat.reduceLeDiff, numR, memR, valR, heapR, updR, intR, decR, extR, slR, segR, thenR, pnR, Int.reduceToNat, Int.reduceAdd, Int.reduceSub, Int.reduceLT, Int.reduceLE, Nat.reduceSub, Nat.reduceMul, Nat.reduceEqDiff, hLl, hLa, hsp, hdr, pc_build]
  have hx5 : Ext [] w2 (w2.alloc (.cells L.toArray 35)) := Ext.alloc Ext.refl _ _
  refine Zero_reg (x := pcQ 0) fun w3 hx6 => ?_
  have hx7 := hx5.trans hx6 (by simp)
  replace gx := hx7.at gx (by simp)
  replace gv := hx7.at gv (by simp)
  replace g8 := hx7.at g8 (by simp)
  replace hM2 := hM2.ext hx7 (by simp) (by simp)
  replace hxw := hxw.trans hx7 (by simp)
  clear hx5 hx6 hx7
  have e0 : setX zeroX 32 (pcQ 0) = begX := rfl
  rw [e0]
  simp (disch := first | assumption | omega | (simp only [szR, cq_len, cq_all, cxC_len, cxC_all, inC_len, inC_all, rnC_len, rnC_all, ouC_len, ouC_all, vwC_len, vwC_all, plC_len, plC_all] <;> omega) | rfl | decide) only [gen0, gen1, gen2, rulesC, rulesX, rulesM, litR, bolR, Nat.reduceAdd, Nat.reduceLeDiff, numR, memR, valR, heapR, updR, intR, decR, extR, slR, segR, thenR, pnR, Int.reduceToNat, Int.reduceAdd, Int.reduceSub, Int.reduceLT, Int.reduceLE, Nat.reduceSub, Nat.reduceMul, Nat.reduceEqDiff, zeroX_cells, cx_over, cx_put]
  refine joinL.intro fun J0 hJ0 => ?_
  simp (disch := first | assumption | omega | (simp only [szR, cq_len, cq_all, cxC_len, cxC_all, inC_len, inC_all, rnC_len, rnC_all, ouC_len, ouC_all, vwC_len, vwC_all, plC_len, plC_all] <;> omega) | rfl | decide) only [gen0, gen1, gen2, rulesC, rulesX, rulesM, litR, bolR, Nat.reduceAdd, Nat.reduceLeDiff, numR, memR, valR, heapR, updR, intR, decR, extR, slR, segR, thenR, pnR, Int.reduceToNat, Int.reduceAdd, Int.reduceSub, Int.reduceLT, Int.reduceLE, Nat.reduceSub, Nat.reduceMul, Nat.reduceEqDiff]
  have hb13 : w.heap.size ≤ w3.heap.size ∧ pb ≠ w3.heap.size ∧ rb ≠ w3.heap.size ∧ w.heap.size ≠ w3.heap.size ∧ w.heap.size + 1 ≠ w3.heap.size := by
    have h1 := hM2.lt
    have h2 := lt_of_at gv
    omega
  have hx8 : Ext [] w3 (w3.alloc (.cells (cxC begX).toArray 42)).drew := by (repeat first | assumption | exact Ext.refl | apply Ext.alloc | apply Ext.drew | (refine Ext.updN ?_ ?_; (focus first | omega | (simp only [szR] <;> omega))) | (refine Ext.updI ?_ ?_; (focus (simp; done))))
  have g13 : (w3.alloc (.cells (cxC begX).toArray 42)).drew.heap[w3.heap.size]? = some (.cells (cxC begX).toArray 42 (0, 0)) := alloc_at rfl
  replace gx := hx8.at gx (by simp)
  replace gv := hx8.at gv (by simp)
  replace g8 := hx8.at g8 (by simp)
  replace hM2 := hM2.ext hx8 (by simp) (by simp)
  replace hxw := hxw.trans hx8 (by simp)
  generalize w3.heap.size = b13 at *
  generalize (w3.alloc (.cells (cxC begX).toArray 42)).drew = w4 at *
  clear hx8 w3
  refine relX.ext [] ?_
  (apply postX.is; (focus (intro v w2 hR hd; have e0 := hR.at g13 (by simp); (try simp (disch := first | assumption | omega | (simp only [szR, cq_len, cq_all, cxC_len, cxC_all, inC_len, inC_all, rnC_len, rnC_all, ouC_len, ouC_all, vwC_len, vwC_all, plC_len, plC_all] <;> omega) | rfl | decide) only [gen0, gen1, gen2, rulesC, rulesX, rulesM, litR, bolR, Nat.reduceAdd, Nat.reduceLeDiff, numR, memR, valR, heapR, updR, intR, decR, extR, slR, segR, thenR, pnR, Int.reduceToNat, Int.reduceAdd, Int.reduceSub, Int.reduceLT, Int.reduceLE, Nat.reduceSub, Nat.reduceMul, Nat.reduceEqDiff, hd, e0, cx_sub]); exact okX.is)))
  (apply postX.is; (focus (intro v w2 hR hd; have e0 := hR.at g8 (by simp); (try simp (disch := first | assumption | omega | (simp only [szR, cq_len, cq_all, cxC_len, cxC_all, inC_len, inC_all, rnC_len, rnC_all, ouC_len, ouC_all, vwC_len, vwC_all, plC_len, plC_all] <;> omega) | rfl | decide) only [gen0, gen1, gen2, rulesC, rulesX, rulesM, litR, bolR, Nat.reduceAdd, Nat.reduceLeDiff, numR, memR, valR, heapR, updR, intR, decR, extR, slR, segR, thenR, pnR, Int.reduceToNat, Int.reduceAdd, Int.reduceSub, Int.reduceLT, Int.reduceLE, Nat.reduceSub, Nat.reduceMul, Nat.reduceEqDiff, hd, e0, cq_sub]); exact okX.is)))
  apply postX.is
  · intro v w5 hR hd
    simp (disch := first | assumption | omega | (simp only [szR, cq_len, cq_all, cxC_len, cxC_all, inC_len, inC_all, rnC_len, rnC_all, ouC_len, ouC_all, vwC_len, vwC_all, plC_len, plC_all] <;> omega) | rfl | decide) only [gen0, gen1, gen2, rulesC, rulesX, rulesM, litR, bolR, Nat.reduceAdd, Nat.reduceLeDiff, numR, memR, valR, heapR, updR, intR, decR, extR, slR, segR, thenR, pnR, Int.reduceToNat, Int.reduceAdd, Int.reduceSub, Int.reduceLT, Int.reduceLE, Nat.reduceSub, Nat.reduceMul, Nat.reduceEqDiff, hd]
    exact With_reg (n := 2) (by omega) fun w6 hx6 => okX.mk hx6 rfl
  (apply postX.is; (focus (intro v w2 hR hd; have e0 := hR.at gx (by simp); (try simp (disch := first | assumption | omega | (simp only [szR, cq_len, cq_all, cxC_len, cxC_all, inC_len, inC_all, rnC_len, rnC_all, ouC_len, ouC_all, vwC_len, vwC_all, plC_len, plC_all] <;> omega) | rfl | decide) only [gen0, gen1, gen2, rulesC, rulesX, rulesM, litR, bolR, Nat.reduceAdd, Nat.reduceLeDiff, numR, memR, valR, heapR, updR, intR, decR, extR, slR, segR, thenR, pnR, Int.reduceToNat, Int.reduceAdd, Int.reduceSub, Int.reduceLT, Int.reduceLE, Nat.reduceSub, Nat.reduceMul, Nat.reduceEqDiff, hd, e0, cq_sub]); exact okX.is)))
  intro v w5 hR hd _
  simp (disch := first | assumption | omega | (simp only [szR, cq_len, cq_all, cxC_len, cxC_all, inC_len, inC_all, rnC_len, rnC_all, ouC_len, ouC_all, vwC_len, vwC_all, plC_len, plC_all] <;> omega) | rfl | decide) only [gen0, gen1, gen2, rulesC, rulesX, rulesM, litR, bolR, Nat.reduceAdd, Nat.reduceLeDiff, numR, memR, valR, heapR, updR, intR, decR, extR, slR, segR, thenR, pnR, Int.reduceToNat, Int.reduceAdd, Int.reduceSub, Int.reduceLT, Int.reduceLE, Nat.reduceSub, Nat.reduceMul, Nat.reduceEqDiff, hd]
  refine With_reg (n := 4) (by omega) fun w6 hx9 => ?_
  have hxz := hR.trans hx9 (by simp)
  replace gx := hxz.at gx (by simp)
  replace gv := hxz.at gv (by simp)
  replace g13 := hxz.at g13 (by simp)
  replace hM2 := hM2.ext hxz (by simp) (by simp)
  replace hxw := hxw.trans hxz (by simp)
  have l13 := lt_of_at g13
  clear hR hd hxz hx9 g8
  simp (disch := first | assumption | omega | (simp only [szR, cq_len, cq_all, cxC_len, cxC_all, inC_len, inC_all, rnC_len, rnC_all, ouC_len, ouC_all, vwC_len, vwC_all, plC_len, plC_all] <;> omega) | rfl | decide) only [gen0, gen1, gen2, rulesC, rulesX, rulesM, litR, bolR, Nat.reduceAdd, Nat.reduceLeDiff, numR, memR, valR, heapR, updR, intR, decR, extR, slR, segR, thenR, pnR, Int.reduceToNat, Int.reduceAdd, Int.reduceSub, Int.reduceLT, Int.reduceLE, Nat.reduceSub, Nat.reduceMul, Nat.reduceEqDiff, g13, cx_over, cx_put]
  obtain ⟨cA, hcA⟩ : ∃ cA, cA = withX (withX begX 2 ⟨true, thM p, a⟩) 4 x := ⟨_, rfl⟩
  have cA0 : cA 32 = pcQ 0 := by rw [hcA]; rfl
  have cA2 : regX cA 2 = ⟨true, thM p, a⟩ := by rw [hcA]; rfl
  have cA4 : regX cA 4 = x := by rw [hcA]; rfl
  rw [← hcA]
  have hxu : Ext [b13] w6 (World.upd w6 b13 (cxC cA)) := by (repeat first | assumption | exact Ext.refl | apply Ext.alloc | apply Ext.drew | (refine Ext.updN ?_ ?_; (focus first | omega | (simp only [szR] <;> omega))) | (refine Ext.updI ?_ ?_; (focus (simp; done))))
  have g13 : (World.upd w6 b13 (cxC cA)).heap[b13]? = some (.cells (cxC cA).toArray 42 (0, 0)) := upd_at g13
  replace gx := hxu.at gx (by simp; omega)
  replace gv := hxu.at gv (by simp; omega)
  replace hM2 := hM2.ext hxu (by simp; omega) (by simp; omega)
  replace hxw := hxw.trans hxu (by simp; omega)
  clear hxu
  generalize World.upd w6 b13 (cxC cA) = w7 at *
  apply hJ0
  intro _
  simp (disch := first | assumption | omega | (simp only [szR, cq_len, cq_all, cxC_len, cxC_all, inC_len, inC_all, rnC_len, rnC_all, ouC_len, ouC_all, vwC_len, vwC_all, plC_len, plC_all] <;> omega) | rfl | decide) only [gen0, gen1, gen2, rulesC, rulesX, rulesM, litR, bolR, Nat.reduceAdd, Nat.reduceLeDiff, numR, memR, valR, heapR, updR, intR, decR, extR, slR, segR, thenR, pnR, Int.reduceToNat, Int.reduceAdd, Int.reduceSub, Int.reduceLT, Int.reduceLE, Nat.reduceSub, Nat.reduceMul, Nat.reduceEqDiff, g13, cx_sub, fl_build, fl_iface]
  obtain ⟨cB, hcB⟩ : ∃ cB, cB = setX cA 32 (pcQ 4) := ⟨_, rfl⟩
  have cB0 : cB 32 = pcQ 4 := by rw [hcB]; rfl
  have cB2 : regX cB 2 = ⟨true, thM p, a⟩ := by rw [hcB, hcA]; rfl
  have hbp : b13 ≠ pb ∧ w.heap.size ≠ pb ∧ w.heap.size + 1 ≠ pb := by omega
  refine csc_step (p := p) (a := a) (x := x) hM2 cA0 hW0 cA2 cA4 hpl hal hxm hxa c18 c2 fun g1 w8 hg1 hM8 hx8 => ?_
  replace gx := hx8.at gx (by simp; omega)
  replace gv := hx8.at gv (by simp; omega)
  replace hxw := hxw.trans hx8 (by simp; omega)
  simp (disch := first | assumption | omega | (simp only [szR, cq_len, cq_all, cxC_len, cxC_all, inC_len, inC_all, rnC_len, rnC_all, ouC_len, ouC_all, vwC_len, vwC_all, plC_len, plC_all] <;> omega) | rfl | decide) only [gen0, gen1, gen2, rulesC, rulesX, rulesM, litR, bolR, Nat.reduceAdd, Nat.reduceLeDiff, numR, memR, valR, heapR, updR, intR, decR, extR, slR, segR, thenR, pnR, Int.reduceToNat, Int.reduceAdd, Int.reduceSub, Int.reduceLT, Int.reduceLE, Nat.reduceSub, Nat.reduceMul, Nat.reduceEqDiff, zeroX_cells, cx_over, cx_put, ou_over, ou_put, cx_sub, fl_build, fl_iface]
  rw [← hcB]
  obtain ⟨hxo, g14, g15⟩ := two_put w8 cB (ouC 0 0 0 iCsc)
  generalize World.upd (World.upd ((w8.alloc (.cells (cxC zeroX).toArray 42)).alloc (.cells [.int .i64 0, .int .i64 0, .int .u64 0, .int .i64 0, .int .i64 0, .int .i64 0, .int .i64 0, .int .i64 0].toArray 51)) w8.heap.size (cxC cB)) (w8.heap.size + 1) (ouC 0 0 0 iCsc) = w9 at *
  replace gx := hxo.at gx (by simp)
  replace gv := hxo.at gv (by simp)
  replace hM8 := hM8.ext hxo (by simp) (by simp)
  replace hxw := hxw.trans hxo (by simp)
  have lM8 := hM8.lt
  have hs8 : pb < w8.heap.size := by have := hx8.size; have := hM2.lt; omega
  have hWB : leN (laid m a 16 (capBy (x.m : Nat) (x.a : Nat))) 4 4 = 74127 := by rw [laid_off (by omega)]; exact hW1
  obtain ⟨hr1, hr2⟩ := laid_read (m := m) (a := a) (y := x) hxm hxa
  obtain ⟨mB, hmB⟩ : ∃ mB, mB = laid m a 16 (capBy (x.m : Nat) (x.a : Nat)) := ⟨_, rfl⟩
  rw [← hmB] at hM8 hWB hr1 hr2
  have h15 : w8.heap.size + 1 ≠ pb := by omega
  have cq0 : ∀ y : Cq, (cq y)[0]? = some (.bool y.t) := fun _ => rfl
  have o0 : ∀ k e v i, (ouC k e v i)[0]? = some (.int .i64 (k : Nat)) := fun _ _ _ _ => rfl
  by_cases hr : p &&& 1 = 1
  · have e1 : bitI .and .u64 ((p : Nat) : Int) 1 = 1 := by rw [show (1 : Int) = ((1 : Nat) : Int) from rfl, and_u64 (by omega) (by omega), Int.toNat_natCast, Int.toNat_natCast, hr]
    cases ht : x.t with
    | true =>
      by_cases h8 : p &&& 8 ≠ 0
      · have e8 : bitI .and .u64 ((p : Nat) : Int) 8 = ((p &&& 8 : Nat) : Int) := and_u64 (by omega) (by omega)
        have e9 : ¬ ((p &&& 8 : Nat) : Int) = 0 := by omega
        refine clc_step (y := x) (z := ⟨true, x.m, x.a⟩) hM8 cB0 hWB cB2 hpl hal (by rw [c1, decide_eq_true hr]) (by rw [hg1, hr1, hr2]) (by rw [c8, decide_eq_true h8, if_pos rfl, ← ht]) fun g2 w10 _ hM10 hx10 => ?_
        replace gx := hx10.at gx (by simp; omega)
        replace gv := hx10.at gv (by simp; omega)
        replace g15 := hx10.at g15 (by simp; omega)
        have lgv := lt_of_at gv
        have lgx := lt_of_at gx
        have l15 := lt_of_at g15
        simp (disch := first | assumption | omega | (simp only [szR, cq_len, cq_all, cxC_len, cxC_all, inC_len, inC_all, rnC_len, rnC_all, ouC_len, ouC_all, vwC_len, vwC_all, plC_len, plC_all] <;> omega) | rfl | decide) only [gen0, gen1, gen2, rulesC, rulesX, rulesM, litR, bolR, Nat.reduceAdd, Nat.reduceLeDiff, numR, memR, valR, heapR, updR, intR, decR, extR, slR, segR, thenR, pnR, Int.reduceToNat, Int.reduceAdd, Int.reduceSub, Int.reduceLT, Int.reduceLE, Nat.reduceSub, Nat.reduceMul, Nat.reduceEqDiff, joinBR, zeroX_cells, cx_over, cx_put, ou_over, ou_put, gv, gx, cq_sub, e1, e8, e9, cq0, ht, cq_tag, cq_put]
        obtain ⟨hxo, g16, g17⟩ := two_put w10 (withX (setX cB 32 (pcQ 8)) 3 ⟨true, x.m, x.a⟩) (ouC 0 0 0 iClc)
        have hs11 : (World.upd (World.upd ((w10.alloc (.cells (cxC zeroX).toArray 42)).alloc (.cells [.int .i64 0, .int .i64 0, .int .u64 0, .int .i64 0, .int .i64 0, .int .i64 0, .int .i64 0, .int .i64 0].toArray 51)) w10.heap.size (cxC (withX (setX cB 32 (pcQ 8)) 3 ⟨true, x.m, x.a⟩))) (w10.heap.size + 1) (ouC 0 0 0 iClc)).heap.size = w10.heap.size + 1 + 1 := by simp only [szR]
        have hR3 : regX (withX (setX cB 32 (pcQ 8)) 3 ⟨true, x.m, x.a⟩) 3 = ⟨true, x.m, x.a⟩ := rfl
        generalize withX (setX cB 32 (pcQ 8)) 3 ⟨true, x.m, x.a⟩ = cC at *
        generalize World.upd (World.upd ((w10.alloc (.cells (cxC zeroX).toArray 42)).alloc (.cells [.int .i64 0, .int .i64 0, .int .u64 0, .int .i64 0, .int .i64 0, .int .i64 0, .int .i64 0, .int .i64 0].toArray 51)) w10.heap.size (cxC cC)) (w10.heap.size + 1) (ouC 0 0 0 iClc) = w11 at *
        replace g15 := hxo.at g15 (by simp)
        have hxe : Ext [] w11 (w11.alloc (.cells (cq ⟨true, x.m, x.a⟩).toArray 24)).drew := by (repeat first | assumption | exact Ext.refl | apply Ext.alloc | apply Ext.drew | (refine Ext.updN ?_ ?_; (focus first | omega | (simp only [szR] <;> omega))) | (refine Ext.updI ?_ ?_; (focus (simp; done))))
        have g19 : (w11.alloc (.cells (cq ⟨true, x.m, x.a⟩).toArray 24)).drew.heap[w10.heap.size + 1 + 1]? = some (.cells (cq ⟨true, x.m, x.a⟩).toArray 24 (0, 0)) := alloc_at hs11.symm
        replace g15 := hxe.at g15 (by simp)
        replace g16 := hxe.at g16 (by simp)
        replace g17 := hxe.at g17 (by simp)
        have hxl : Ext [] w (w11.alloc (.cells (cq ⟨true, x.m, x.a⟩).toArray 24)).drew := ((hxw.trans hx10 (by simp; omega)).trans hxo (by simp)).trans hxe (by simp)
        generalize (w11.alloc (.cells (cq ⟨true, x.m, x.a⟩).toArray 24)).drew = w12 at *
        have hq := cq_eql ⟨true, x.m, x.a⟩ ⟨true, x.m, x.a⟩
        rw [decide_eq_true rfl] at hq
        refine relX.ext [] ?_
        (repeat (apply postX.is; (focus (intro v w2 hR hd; have e0 := hR.at g15 (by simp); have e1 := hR.at g16 (by simp); have e2 := hR.at g17 (by simp); have e3 := hR.at g19 (by simp); (try simp (disch := first | assumption | omega | (simp only [szR, cq_len, cq_all, cxC_len, cxC_all, inC_len, inC_all, rnC_len, rnC_all, ouC_len, ouC_all, vwC_len, vwC_all, plC_len, plC_all] <;> omega) | rfl | decide) only [gen0, gen1, gen2, rulesC, rulesX, rulesM, litR, bolR, Nat.reduceAdd, Nat.reduceLeDiff, numR, memR, valR, heapR, updR, intR, decR, extR, slR, segR, thenR, pnR, Int.reduceToNat, Int.reduceAdd, Int.reduceSub, Int.reduceLT, Int.reduceLE, Nat.reduceSub, Nat.reduceMul, Nat.reduceEqDiff, hd, e0, e1, e2, e3, o0, cx_sub, cq_sub, hq, beq_self_eq_true, Bool.not_true, Bool.not_false]); exact okX.is))))
        apply postX.is
        · intro v w5 hR hd
          simp (disch := first | assumption | omega | (simp only [szR, cq_len, cq_all, cxC_len, cxC_all, inC_len, inC_all, rnC_len, rnC_all, ouC_len, ouC_all, vwC_len, vwC_all, plC_len, plC_all] <;> omega) | rfl | decide) only [gen0, gen1, gen2, rulesC, rulesX, rulesM, litR, bolR, Nat.reduceAdd, Nat.reduceLeDiff, numR, memR, valR, heapR, updR, intR, decR, extR, slR, segR, thenR, pnR, Int.reduceToNat, Int.reduceAdd, Int.reduceSub, Int.reduceLT, Int.reduceLE, Nat.reduceSub, Nat.reduceMul, Nat.reduceEqDiff, hd]
          exact Get_reg (n := 3) (by omega) fun w6 hx6 => okX.mk hx6 (by rw [hR3])
        (repeat (apply postX.is; (focus (intro v w2 hR hd; have e0 := hR.at g15 (by simp); have e1 := hR.at g16 (by simp); have e2 := hR.at g17 (by simp); have e3 := hR.at g19 (by simp); (try simp (disch := first | assumption | omega | (simp only [szR, cq_len, cq_all, cxC_len, cxC_all, inC_len, inC_all, rnC_len, rnC_all, ouC_len, ouC_all, vwC_len, vwC_all, plC_len, plC_all] <;> omega) | rfl | decide) only [gen0, gen1, gen2, rulesC, rulesX, rulesM, litR, bolR, Nat.reduceAdd, Nat.reduceLeDiff, numR, memR, valR, heapR, updR, intR, decR, extR, slR, segR, thenR, pnR, Int.reduceToNat, Int.reduceAdd, Int.reduceSub, Int.reduceLT, Int.reduceLE, Nat.reduceSub, Nat.reduceMul, Nat.reduceEqDiff, hd, e0, e1, e2, e3, o0, cx_sub, cq_sub, hq, beq_self_eq_true, Bool.not_true, Bool.not_false, if_true]); exact okX.is))))
        apply postX.is
        · intro v w5 hR hd
          simp (disch := first | assumption | omega | (simp only [szR, cq_len, cq_all, cxC_len, cxC_all, inC_len, inC_all, rnC_len, rnC_all, ouC_len, ouC_all, vwC_len, vwC_all, plC_len, plC_all] <;> omega) | rfl | decide) only [gen0, gen1, gen2, rulesC, rulesX, rulesM, litR, bolR, Nat.reduceAdd, Nat.reduceLeDiff, numR, memR, valR, heapR, updR, intR, decR, extR, slR, segR, thenR, pnR, Int.reduceToNat, Int.reduceAdd, Int.reduceSub, Int.reduceLT, Int.reduceLE, Nat.reduceSub, Nat.reduceMul, Nat.reduceEqDiff, hd]
          exact one_spec fun w6 hx6 => okX.mk hx6 rfl
        (repeat (apply postX.is; (focus (intro v w2 hR hd; (try simp (disch := first | assumption | omega | (simp only [szR, cq_len, cq_all, cxC_len, cxC_all, inC_len, inC_all, rnC_len, rnC_all, ouC_len, ouC_all, vwC_len, vwC_all, plC_len, plC_all] <;> omega) | rfl | decide) only [gen0, gen1, gen2, rulesC, rulesX, rulesM, litR, bolR, Nat.reduceAdd, Nat.reduceLeDiff, numR, memR, valR, heapR, updR, intR, decR, extR, slR, segR, thenR, pnR, Int.reduceToNat, Int.reduceAdd, Int.reduceSub, Int.reduceLT, Int.reduceLE, Nat.reduceSub, Nat.reduceMul, Nat.reduceEqDiff, hd, if_true]); exact okX.is))))
        intro v w13 hR hd _
        simp (disch := first | assumption | omega | (simp only [szR, cq_len, cq_all, cxC_len, cxC_all, inC_len, inC_all, rnC_len, rnC_all, ouC_len, ouC_all, vwC_len, vwC_all, plC_len, plC_all] <;> omega) | rfl | decide) only [gen0, gen1, gen2, rulesC, rulesX, rulesM, litR, bolR, Nat.reduceAdd, Nat.reduceLeDiff, numR, memR, valR, heapR, updR, intR, decR, extR, slR, segR, thenR, pnR, Int.reduceToNat, Int.reduceAdd, Int.reduceSub, Int.reduceLT, Int.reduceLE, Nat.reduceSub, Nat.reduceMul, Nat.reduceEqDiff, hd]
        exact hK _ (hxl.trans hR (by simp))
      · have e8 : bitI .and .u64 ((p : Nat) : Int) 8 = ((p &&& 8 : Nat) : Int) := and_u64 (by omega) (by omega)
        have e9 : ((p &&& 8 : Nat) : Int) = 0 := by omega
        refine clc_step (y := x) (z := ⟨false, x.m, x.a⟩) hM8 cB0 hWB cB2 hpl hal (by rw [c1, decide_eq_true hr]) (by rw [hg1, hr1, hr2]) (by rw [c8, decide_eq_false h8]; rfl) fun g2 w10 _ hM10 hx10 => ?_
        replace gx := hx10.at gx (by simp; omega)
        replace gv := hx10.at gv (by simp; omega)
        replace g15 := hx10.at g15 (by simp; omega)
        have lgv := lt_of_at gv
        have lgx := lt_of_at gx
        have l15 := lt_of_at g15
        simp (disch := first | assumption | omega | (simp only [szR, cq_len, cq_all, cxC_len, cxC_all, inC_len, inC_all, rnC_len, rnC_all, ouC_len, ouC_all, vwC_len, vwC_all, plC_len, plC_all] <;> omega) | rfl | decide) only [gen0, gen1, gen2, rulesC, rulesX, rulesM, litR, bolR, Nat.reduceAdd, Nat.reduceLeDiff, numR, memR, valR, heapR, updR, intR, decR, extR, slR, segR, thenR, pnR, Int.reduceToNat, Int.reduceAdd, Int.reduceSub, Int.reduceLT, Int.reduceLE, Nat.reduceSub, Nat.reduceMul, Nat.reduceEqDiff, joinBR, zeroX_cells, cx_over, cx_put, ou_over, ou_put, gv, gx, cq_sub, e1, e8, e9, cq0, ht, cq_tag, cq_put]
        obtain ⟨hxo, g16, g17⟩ := two_put w10 (withX (setX cB 32 (pcQ 8)) 3 ⟨false, x.m, x.a⟩) (ouC 0 0 0 iClc)
        have hs11 : (World.upd (World.upd ((w10.alloc (.cells (cxC zeroX).toArray 42)).alloc (.cells [.int .i64 0, .int .i64 0, .int .u64 0, .int .i64 0, .int .i64 0, .int .i64 0, .int .i64 0, .int .i64 0].toArray 51)) w10.heap.size (cxC (withX (setX cB 32 (pcQ 8)) 3 ⟨false, x.m, x.a⟩))) (w10.heap.size + 1) (ouC 0 0 0 iClc)).heap.size = w10.heap.size + 1 + 1 := by simp only [szR]
        have hR3 : regX (withX (setX cB 32 (pcQ 8)) 3 ⟨false, x.m, x.a⟩) 3 = ⟨false, x.m, x.a⟩ := rfl
        generalize withX (setX cB 32 (pcQ 8)) 3 ⟨false, x.m, x.a⟩ = cC at *
        generalize World.upd (World.upd ((w10.alloc (.cells (cxC zeroX).toArray 42)).alloc (.cells [.int .i64 0, .int .i64 0, .int .u64 0, .int .i64 0, .int .i64 0, .int .i64 0, .int .i64 0, .int .i64 0].toArray 51)) w10.heap.size (cxC cC)) (w10.heap.size + 1) (ouC 0 0 0 iClc) = w11 at *
        replace g15 := hxo.at g15 (by simp)
        have hxe : Ext [] w11 (w11.alloc (.cells (cq ⟨false, x.m, x.a⟩).toArray 24)).drew := by (repeat first | assumption | exact Ext.refl | apply Ext.alloc | apply Ext.drew | (refine Ext.updN ?_ ?_; (focus first | omega | (simp only [szR] <;> omega))) | (refine Ext.updI ?_ ?_; (focus (simp; done))))
        have g19 : (w11.alloc (.cells (cq ⟨false, x.m, x.a⟩).toArray 24)).drew.heap[w10.heap.size + 1 + 1]? = some (.cells (cq ⟨false, x.m, x.a⟩).toArray 24 (0, 0)) := alloc_at hs11.symm
        replace g15 := hxe.at g15 (by simp)
        replace g16 := hxe.at g16 (by simp)
        replace g17 := hxe.at g17 (by simp)
        have hxl : Ext [] w (w11.alloc (.cells (cq ⟨false, x.m, x.a⟩).toArray 24)).drew := ((hxw.trans hx10 (by simp; omega)).trans hxo (by simp)).trans hxe (by simp)
        generalize (w11.alloc (.cells (cq ⟨false, x.m, x.a⟩).toArray 24)).drew = w12 at *
        have hq := cq_eql ⟨false, x.m, x.a⟩ ⟨false, x.m, x.a⟩
        rw [decide_eq_true rfl] at hq
        refine relX.ext [] ?_
        (repeat (apply postX.is; (focus (intro v w2 hR hd; have e0 := hR.at g15 (by simp); have e1 := hR.at g16 (by simp); have e2 := hR.at g17 (by simp); have e3 := hR.at g19 (by simp); (try simp (disch := first | assumption | omega | (simp only [szR, cq_len, cq_all, cxC_len, cxC_all, inC_len, inC_all, rnC_len, rnC_all, ouC_len, ouC_all, vwC_len, vwC_all, plC_len, plC_all] <;> omega) | rfl | decide) only [gen0, gen1, gen2, rulesC, rulesX, rulesM, litR, bolR, Nat.reduceAdd, Nat.reduceLeDiff, numR, memR, valR, heapR, updR, intR, decR, extR, slR, segR, thenR, pnR, Int.reduceToNat, Int.reduceAdd, Int.reduceSub, Int.reduceLT, Int.reduceLE, Nat.reduceSub, Nat.reduceMul, Nat.reduceEqDiff, hd, e0, e1, e2, e3, o0, cx_sub, cq_sub, hq, beq_self_eq_true, Bool.not_true, Bool.not_false]); exact okX.is))))
        apply postX.is
        · intro v w5 hR hd
          simp (disch := first | assumption | omega | (simp only [szR, cq_len, cq_all, cxC_len, cxC_all, inC_len, inC_all, rnC_len, rnC_all, ouC_len, ouC_all, vwC_len, vwC_all, plC_len, plC_all] <;> omega) | rfl | decide) only [gen0, gen1, gen2, rulesC, rulesX, rulesM, litR, bolR, Nat.reduceAdd, Nat.reduceLeDiff, numR, memR, valR, heapR, updR, intR, decR, extR, slR, segR, thenR, pnR, Int.reduceToNat, Int.reduceAdd, Int.reduceSub, Int.reduceLT, Int.reduceLE, Nat.reduceSub, Nat.reduceMul, Nat.reduceEqDiff, hd]
          exact Get_reg (n := 3) (by omega) fun w6 hx6 => okX.mk hx6 (by rw [hR3])
        (repeat (apply postX.is; (focus (intro v w2 hR hd; have e0 := hR.at g15 (by simp); have e1 := hR.at g16 (by simp); have e2 := hR.at g17 (by simp); have e3 := hR.at g19 (by simp); (try simp (disch := first | assumption | omega | (simp only [szR, cq_len, cq_all, cxC_len, cxC_all, inC_len, inC_all, rnC_len, rnC_all, ouC_len, ouC_all, vwC_len, vwC_all, plC_len, plC_all] <;> omega) | rfl | decide) only [gen0, gen1, gen2, rulesC, rulesX, rulesM, litR, bolR, Nat.reduceAdd, Nat.reduceLeDiff, numR, memR, valR, heapR, updR, intR, decR, extR, slR, segR, thenR, pnR, Int.reduceToNat, Int.reduceAdd, Int.reduceSub, Int.reduceLT, Int.reduceLE, Nat.reduceSub, Nat.reduceMul, Nat.reduceEqDiff, hd, e0, e1, e2, e3, o0, cx_sub, cq_sub, hq, beq_self_eq_true, Bool.not_true, Bool.not_false, if_true]); exact okX.is))))
        apply postX.is
        · intro v w5 hR hd
          simp (disch := first | assumption | omega | (simp only [szR, cq_len, cq_all, cxC_len, cxC_all, inC_len, inC_all, rnC_len, rnC_all, ouC_len, ouC_all, vwC_len, vwC_all, plC_len, plC_all] <;> omega) | rfl | decide) only [gen0, gen1, gen2, rulesC, rulesX, rulesM, litR, bolR, Nat.reduceAdd, Nat.reduceLeDiff, numR, memR, valR, heapR, updR, intR, decR, extR, slR, segR, thenR, pnR, Int.reduceToNat, Int.reduceAdd, Int.reduceSub, Int.reduceLT, Int.reduceLE, Nat.reduceSub, Nat.reduceMul, Nat.reduceEqDiff, hd]
          exact one_spec fun w6 hx6 => okX.mk hx6 rfl
        (repeat (apply postX.is; (focus (intro v w2 hR hd; (try simp (disch := first | assumption | omega | (simp only [szR, cq_len, cq_all, cxC_len, cxC_all, inC_len, inC_all, rnC_len, rnC_all, ouC_len, ouC_all, vwC_len, vwC_all, plC_len, plC_all] <;> omega) | rfl | decide) only [gen0, gen1, gen2, rulesC, rulesX, rulesM, litR, bolR, Nat.reduceAdd, Nat.reduceLeDiff, numR, memR, valR, heapR, updR, intR, decR, extR, slR, segR, thenR, pnR, Int.reduceToNat, Int.reduceAdd, Int.reduceSub, Int.reduceLT, Int.reduceLE, Nat.reduceSub, Nat.reduceMul, Nat.reduceEqDiff, hd, if_true]); exact okX.is))))
        intro v w13 hR hd _
        simp (disch := first | assumption | omega | (simp only [szR, cq_len, cq_all, cxC_len, cxC_all, inC_len, inC_all, rnC_len, rnC_all, ouC_len, ouC_all, vwC_len, vwC_all, plC_len, plC_all] <;> omega) | rfl | decide) only [gen0, gen1, gen2, rulesC, rulesX, rulesM, litR, bolR, Nat.reduceAdd, Nat.reduceLeDiff, numR, memR, valR, heapR, updR, intR, decR, extR, slR, segR, thenR, pnR, Int.reduceToNat, Int.reduceAdd, Int.reduceSub, Int.reduceLT, Int.reduceLE, Nat.reduceSub, Nat.reduceMul, Nat.reduceEqDiff, hd]
        exact hK _ (hxl.trans hR (by simp))
    | false =>
      refine clc_step (y := x) (z := ⟨false, x.m, x.a⟩) hM8 cB0 hWB cB2 hpl hal (by rw [c1, decide_eq_true hr]) (by rw [hg1, hr1, hr2]) (by split <;> first | rw [← ht] | rfl) fun g2 w10 _ hM10 hx10 => ?_
      replace gx := hx10.at gx (by simp; omega)
      replace gv := hx10.at gv (by simp; omega)
      replace g15 := hx10.at g15 (by simp; omega)
      have lgv := lt_of_at gv
      have lgx := lt_of_at gx
      have l15 := lt_of_at g15
      simp (disch := first | assumption | omega | (simp only [szR, cq_len, cq_all, cxC_len, cxC_all, inC_len, inC_all, rnC_len, rnC_all, ouC_len, ouC_all, vwC_len, vwC_all, plC_len, plC_all] <;> omega) | rfl | decide) only [gen0, gen1, gen2, rulesC, rulesX, rulesM, litR, bolR, Nat.reduceAdd, Nat.reduceLeDiff, numR, memR, valR, heapR, updR, intR, decR, extR, slR, segR, thenR, pnR, Int.reduceToNat, Int.reduceAdd, Int.reduceSub, Int.reduceLT, Int.reduceLE, Nat.reduceSub, Nat.reduceMul, Nat.reduceEqDiff, joinBR, zeroX_cells, cx_over, cx_put, ou_over, ou_put, gv, gx, cq_sub, e1, cq0, ht, cq_tag, cq_put]
      obtain ⟨hxo, g16, g17⟩ := two_put w10 (withX (setX cB 32 (pcQ 8)) 3 ⟨false, x.m, x.a⟩) (ouC 0 0 0 iClc)
      have hs11 : (World.upd (World.upd ((w10.alloc (.cells (cxC zeroX).toArray 42)).alloc (.cells [.int .i64 0, .int .i64 0, .int .u64 0, .int .i64 0, .int .i64 0, .int .i64 0, .int .i64 0, .int .i64 0].toArray 51)) w10.heap.size (cxC (withX (setX cB 32 (pcQ 8)) 3 ⟨false, x.m, x.a⟩))) (w10.heap.size + 1) (ouC 0 0 0 iClc)).heap.size = w10.heap.size + 1 + 1 := by simp only [szR]
      have hR3 : regX (withX (setX cB 32 (pcQ 8)) 3 ⟨false, x.m, x.a⟩) 3 = ⟨false, x.m, x.a⟩ := rfl
      generalize withX (setX cB 32 (pcQ 8)) 3 ⟨false, x.m, x.a⟩ = cC at *
      generalize World.upd (World.upd ((w10.alloc (.cells (cxC zeroX).toArray 42)).alloc (.cells [.int .i64 0, .int .i64 0, .int .u64 0, .int .i64 0, .int .i64 0, .int .i64 0, .int .i64 0, .int .i64 0].toArray 51)) w10.heap.size (cxC cC)) (w10.heap.size + 1) (ouC 0 0 0 iClc) = w11 at *
      replace g15 := hxo.at g15 (by simp)
      have hxe : Ext [] w11 (w11.alloc (.cells (cq ⟨false, x.m, x.a⟩).toArray 24)).drew := by (repeat first | assumption | exact Ext.refl | apply Ext.alloc | apply Ext.drew | (refine Ext.updN ?_ ?_; (focus first | omega | (simp only [szR] <;> omega))) | (refine Ext.updI ?_ ?_; (focus (simp; done))))
      have g19 : (w11.alloc (.cells (cq ⟨false, x.m, x.a⟩).toArray 24)).drew.heap[w10.heap.size + 1 + 1]? = some (.cells (cq ⟨false, x.m, x.a⟩).toArray 24 (0, 0)) := alloc_at hs11.symm
      replace g15 := hxe.at g15 (by simp)
      replace g16 := hxe.at g16 (by simp)
      replace g17 := hxe.at g17 (by simp)
      have hxl : Ext [] w (w11.alloc (.cells (cq ⟨false, x.m, x.a⟩).toArray 24)).drew := ((hxw.trans hx10 (by simp; omega)).trans hxo (by simp)).trans hxe (by simp)
      generalize (w11.alloc (.cells (cq ⟨false, x.m, x.a⟩).toArray 24)).drew = w12 at *
      have hq := cq_eql ⟨false, x.m, x.a⟩ ⟨false, x.m, x.a⟩
      rw [decide_eq_true rfl] at hq
      refine relX.ext [] ?_
      (repeat (apply postX.is; (focus (intro v w2 hR hd; have e0 := hR.at g15 (by simp); have e1 := hR.at g16 (by simp); have e2 := hR.at g17 (by simp); have e3 := hR.at g19 (by simp); (try simp (disch := first | assumption | omega | (simp only [szR, cq_len, cq_all, cxC_len, cxC_all, inC_len, inC_all, rnC_len, rnC_all, ouC_len, ouC_all, vwC_len, vwC_all, plC_len, plC_all] <;> omega) | rfl | decide) only [gen0, gen1, gen2, rulesC, rulesX, rulesM, litR, bolR, Nat.reduceAdd, Nat.reduceLeDiff, numR, memR, valR, heapR, updR, intR, decR, extR, slR, segR, thenR, pnR, Int.reduceToNat, Int.reduceAdd, Int.reduceSub, Int.reduceLT, Int.reduceLE, Nat.reduceSub, Nat.reduceMul, Nat.reduceEqDiff, hd, e0, e1, e2, e3, o0, cx_sub, cq_sub, hq, beq_self_eq_true, Bool.not_true, Bool.not_false]); exact okX.is))))
      apply postX.is
      · intro v w5 hR hd
        simp (disch := first | assumption | omega | (simp only [szR, cq_len, cq_all, cxC_len, cxC_all, inC_len, inC_all, rnC_len, rnC_all, ouC_len, ouC_all, vwC_len, vwC_all, plC_len, plC_all] <;> omega) | rfl | decide) only [gen0, gen1, gen2, rulesC, rulesX, rulesM, litR, bolR, Nat.reduceAdd, Nat.reduceLeDiff, numR, memR, valR, heapR, updR, intR, decR, extR, slR, segR, thenR, pnR, Int.reduceToNat, Int.reduceAdd, Int.reduceSub, Int.reduceLT, Int.reduceLE, Nat.reduceSub, Nat.reduceMul, Nat.reduceEqDiff, hd]
        exact Get_reg (n := 3) (by omega) fun w6 hx6 => okX.mk hx6 (by rw [hR3])
      (repeat (apply postX.is; (focus (intro v w2 hR hd; have e0 := hR.at g15 (by simp); have e1 := hR.at g16 (by simp); have e2 := hR.at g17 (by simp); have e3 := hR.at g19 (by simp); (try simp (disch := first | assumption | omega | (simp only [szR, cq_len, cq_all, cxC_len, cxC_all, inC_len, inC_all, rnC_len, rnC_all, ouC_len, ouC_all, vwC_len, vwC_all, plC_len, plC_all] <;> omega) | rfl | decide) only [gen0, gen1, gen2, rulesC, rulesX, rulesM, litR, bolR, Nat.reduceAdd, Nat.reduceLeDiff, numR, memR, valR, heapR, updR, intR, decR, extR, slR, segR, thenR, pnR, Int.reduceToNat, Int.reduceAdd, Int.reduceSub, Int.reduceLT, Int.reduceLE, Nat.reduceSub, Nat.reduceMul, Nat.reduceEqDiff, hd, e0, e1, e2, e3, o0, cx_sub, cq_sub, hq, beq_self_eq_true, Bool.not_true, Bool.not_false, if_true]); exact okX.is))))
      apply postX.is
      · intro v w5 hR hd
        simp (disch := first | assumption | omega | (simp only [szR, cq_len, cq_all, cxC_len, cxC_all, inC_len, inC_all, rnC_len, rnC_all, ouC_len, ouC_all, vwC_len, vwC_all, plC_len, plC_all] <;> omega) | rfl | decide) only [gen0, gen1, gen2, rulesC, rulesX, rulesM, litR, bolR, Nat.reduceAdd, Nat.reduceLeDiff, numR, memR, valR, heapR, updR, intR, decR, extR, slR, segR, thenR, pnR, Int.reduceToNat, Int.reduceAdd, Int.reduceSub, Int.reduceLT, Int.reduceLE, Nat.reduceSub, Nat.reduceMul, Nat.reduceEqDiff, hd]
        exact one_spec fun w6 hx6 => okX.mk hx6 rfl
      (repeat (apply postX.is; (focus (intro v w2 hR hd; (try simp (disch := first | assumption | omega | (simp only [szR, cq_len, cq_all, cxC_len, cxC_all, inC_len, inC_all, rnC_len, rnC_all, ouC_len, ouC_all, vwC_len, vwC_all, plC_len, plC_all] <;> omega) | rfl | decide) only [gen0, gen1, gen2, rulesC, rulesX, rulesM, litR, bolR, Nat.reduceAdd, Nat.reduceLeDiff, numR, memR, valR, heapR, updR, intR, decR, extR, slR, segR, thenR, pnR, Int.reduceToNat, Int.reduceAdd, Int.reduceSub, Int.reduceLT, Int.reduceLE, Nat.reduceSub, Nat.reduceMul, Nat.reduceEqDiff, hd, if_true]); exact okX.is))))
      intro v w13 hR hd _
      simp (disch := first | assumption | omega | (simp only [szR, cq_len, cq_all, cxC_len, cxC_all, inC_len, inC_all, rnC_len, rnC_all, ouC_len, ouC_all, vwC_len, vwC_all, plC_len, plC_all] <;> omega) | rfl | decide) only [gen0, gen1, gen2, rulesC, rulesX, rulesM, litR, bolR, Nat.reduceAdd, Nat.reduceLeDiff, numR, memR, valR, heapR, updR, intR, decR, extR, slR, segR, thenR, pnR, Int.reduceToNat, Int.reduceAdd, Int.reduceSub, Int.reduceLT, Int.reduceLE, Nat.reduceSub, Nat.reduceMul, Nat.reduceEqDiff, hd]
      exact hK _ (hxl.trans hR (by simp))
  · have e1 : bitI .and .u64 ((p : Nat) : Int) 1 = 0 := by
      rw [show (1 : Int) = ((1 : Nat) : Int) from rfl, and_u64 (by omega) (by omega), Int.toNat_natCast, Int.toNat_natCast]
      have := Nat.and_one_is_mod p
      omega
    cases ht : x.t with
    | true =>
      by_cases h8 : p &&& 8 ≠ 0
      · have e8 : bitI .and .u64 ((p : Nat) : Int) 8 = ((p &&& 8 : Nat) : Int) := and_u64 (by omega) (by omega)
        have e9 : ¬ ((p &&& 8 : Nat) : Int) = 0 := by omega
        refine clc_trap hM8 cB0 hWB cB2 hpl hal (by rw [c1, decide_eq_false hr]) fun g2 w10 _ hM10 hx10 => ?_
        replace gx := hx10.at gx (by simp; omega)
        replace gv := hx10.at gv (by simp; omega)
        replace g15 := hx10.at g15 (by simp; omega)
        have lgv := lt_of_at gv
        have lgx := lt_of_at gx
        have l15 := lt_of_at g15
        simp (disch := first | assumption | omega | (simp only [szR, cq_len, cq_all, cxC_len, cxC_all, inC_len, inC_all, rnC_len, rnC_all, ouC_len, ouC_all, vwC_len, vwC_all, plC_len, plC_all] <;> omega) | rfl | decide) only [gen0, gen1, gen2, rulesC, rulesX, rulesM, litR, bolR, Nat.reduceAdd, Nat.reduceLeDiff, numR, memR, valR, heapR, updR, intR, decR, extR, slR, segR, thenR, pnR, Int.reduceToNat, Int.reduceAdd, Int.reduceSub, Int.reduceLT, Int.reduceLE, Nat.reduceSub, Nat.reduceMul, Nat.reduceEqDiff, joinBR, zeroX_cells, cx_over, cx_put, ou_over, ou_put, gv, gx, cq_sub, e1, e8, e9, cq0, ht, cq_tag, cq_put]
        obtain ⟨hxo, g16, g17⟩ := two_put w10 (cB) (ouC 5 3 a iClc)
        have hs11 : (World.upd (World.upd ((w10.alloc (.cells (cxC zeroX).toArray 42)).alloc (.cells [.int .i64 0, .int .i64 0, .int .u64 0, .int .i64 0, .int .i64 0, .int .i64 0, .int .i64 0, .int .i64 0].toArray 51)) w10.heap.size (cxC (cB))) (w10.heap.size + 1) (ouC 5 3 a iClc)).heap.size = w10.heap.size + 1 + 1 := by simp only [szR]
        have hR3 : True := trivial
        generalize cB = cC at *
        generalize World.upd (World.upd ((w10.alloc (.cells (cxC zeroX).toArray 42)).alloc (.cells [.int .i64 0, .int .i64 0, .int .u64 0, .int .i64 0, .int .i64 0, .int .i64 0, .int .i64 0, .int .i64 0].toArray 51)) w10.heap.size (cxC cC)) (w10.heap.size + 1) (ouC 5 3 a iClc) = w11 at *
        replace g15 := hxo.at g15 (by simp)
        have hxe : Ext [] w11 (w11.alloc (.cells (cq ⟨true, x.m, x.a⟩).toArray 24)).drew := by (repeat first | assumption | exact Ext.refl | apply Ext.alloc | apply Ext.drew | (refine Ext.updN ?_ ?_; (focus first | omega | (simp only [szR] <;> omega))) | (refine Ext.updI ?_ ?_; (focus (simp; done))))
        have g19 : (w11.alloc (.cells (cq ⟨true, x.m, x.a⟩).toArray 24)).drew.heap[w10.heap.size + 1 + 1]? = some (.cells (cq ⟨true, x.m, x.a⟩).toArray 24 (0, 0)) := alloc_at hs11.symm
        replace g15 := hxe.at g15 (by simp)
        replace g16 := hxe.at g16 (by simp)
        replace g17 := hxe.at g17 (by simp)
        have hxl : Ext [] w (w11.alloc (.cells (cq ⟨true, x.m, x.a⟩).toArray 24)).drew := ((hxw.trans hx10 (by simp; omega)).trans hxo (by simp)).trans hxe (by simp)
        generalize (w11.alloc (.cells (cq ⟨true, x.m, x.a⟩).toArray 24)).drew = w12 at *
        have hq := cq_eql ⟨true, x.m, x.a⟩ ⟨true, x.m, x.a⟩
        rw [decide_eq_true rfl] at hq
        refine relX.ext [] ?_
        (repeat (apply postX.is; (focus (intro v w2 hR hd; have e0 := hR.at g15 (by simp); have e1 := hR.at g16 (by simp); have e2 := hR.at g17 (by simp); have e3 := hR.at g19 (by simp); (try simp (disch := first | assumption | omega | (simp only [szR, cq_len, cq_all, cxC_len, cxC_all, inC_len, inC_all, rnC_len, rnC_all, ouC_len, ouC_all, vwC_len, vwC_all, plC_len, plC_all] <;> omega) | rfl | decide) only [gen0, gen1, gen2, rulesC, rulesX, rulesM, litR, bolR, Nat.reduceAdd, Nat.reduceLeDiff, numR, memR, valR, heapR, updR, intR, decR, extR, slR, segR, thenR, pnR, Int.reduceToNat, Int.reduceAdd, Int.reduceSub, Int.reduceLT, Int.reduceLE, Nat.reduceSub, Nat.reduceMul, Nat.reduceEqDiff, hd, e0, e1, e2, e3, o0, cx_sub, cq_sub, hq, beq_self_eq_true, Bool.not_true, Bool.not_false, if_true]); exact okX.is))))
        apply postX.is
        · intro v w5 hR hd
          simp (disch := first | assumption | omega | (simp only [szR, cq_len, cq_all, cxC_len, cxC_all, inC_len, inC_all, rnC_len, rnC_all, ouC_len, ouC_all, vwC_len, vwC_all, plC_len, plC_all] <;> omega) | rfl | decide) only [gen0, gen1, gen2, rulesC, rulesX, rulesM, litR, bolR, Nat.reduceAdd, Nat.reduceLeDiff, numR, memR, valR, heapR, updR, intR, decR, extR, slR, segR, thenR, pnR, Int.reduceToNat, Int.reduceAdd, Int.reduceSub, Int.reduceLT, Int.reduceLE, Nat.reduceSub, Nat.reduceMul, Nat.reduceEqDiff, hd]
          exact one_spec fun w6 hx6 => okX.mk hx6 rfl
        (repeat (apply postX.is; (focus (intro v w2 hR hd; (try simp (disch := first | assumption | omega | (simp only [szR, cq_len, cq_all, cxC_len, cxC_all, inC_len, inC_all, rnC_len, rnC_all, ouC_len, ouC_all, vwC_len, vwC_all, plC_len, plC_all] <;> omega) | rfl | decide) only [gen0, gen1, gen2, rulesC, rulesX, rulesM, litR, bolR, Nat.reduceAdd, Nat.reduceLeDiff, numR, memR, valR, heapR, updR, intR, decR, extR, slR, segR, thenR, pnR, Int.reduceToNat, Int.reduceAdd, Int.reduceSub, Int.reduceLT, Int.reduceLE, Nat.reduceSub, Nat.reduceMul, Nat.reduceEqDiff, hd, if_true]); exact okX.is))))
        intro v w13 hR hd _
        simp (disch := first | assumption | omega | (simp only [szR, cq_len, cq_all, cxC_len, cxC_all, inC_len, inC_all, rnC_len, rnC_all, ouC_len, ouC_all, vwC_len, vwC_all, plC_len, plC_all] <;> omega) | rfl | decide) only [gen0, gen1, gen2, rulesC, rulesX, rulesM, litR, bolR, Nat.reduceAdd, Nat.reduceLeDiff, numR, memR, valR, heapR, updR, intR, decR, extR, slR, segR, thenR, pnR, Int.reduceToNat, Int.reduceAdd, Int.reduceSub, Int.reduceLT, Int.reduceLE, Nat.reduceSub, Nat.reduceMul, Nat.reduceEqDiff, hd]
        exact hK _ (hxl.trans hR (by simp))
      · have e8 : bitI .and .u64 ((p : Nat) : Int) 8 = ((p &&& 8 : Nat) : Int) := and_u64 (by omega) (by omega)
        have e9 : ((p &&& 8 : Nat) : Int) = 0 := by omega
        refine clc_trap hM8 cB0 hWB cB2 hpl hal (by rw [c1, decide_eq_false hr]) fun g2 w10 _ hM10 hx10 => ?_
        replace gx := hx10.at gx (by simp; omega)
        replace gv := hx10.at gv (by simp; omega)
        replace g15 := hx10.at g15 (by simp; omega)
        have lgv := lt_of_at gv
        have lgx := lt_of_at gx
        have l15 := lt_of_at g15
        simp (disch := first | assumption | omega | (simp only [szR, cq_len, cq_all, cxC_len, cxC_all, inC_len, inC_all, rnC_len, rnC_all, ouC_len, ouC_all, vwC_len, vwC_all, plC_len, plC_all] <;> omega) | rfl | decide) only [gen0, gen1, gen2, rulesC, rulesX, rulesM, litR, bolR, Nat.reduceAdd, Nat.reduceLeDiff, numR, memR, valR, heapR, updR, intR, decR, extR, slR, segR, thenR, pnR, Int.reduceToNat, Int.reduceAdd, Int.reduceSub, Int.reduceLT, Int.reduceLE, Nat.reduceSub, Nat.reduceMul, Nat.reduceEqDiff, joinBR, zeroX_cells, cx_over, cx_put, ou_over, ou_put, gv, gx, cq_sub, e1, e8, e9, cq0, ht, cq_tag, cq_put]
        obtain ⟨hxo, g16, g17⟩ := two_put w10 (cB) (ouC 5 3 a iClc)
        have hs11 : (World.upd (World.upd ((w10.alloc (.cells (cxC zeroX).toArray 42)).alloc (.cells [.int .i64 0, .int .i64 0, .int .u64 0, .int .i64 0, .int .i64 0, .int .i64 0, .int .i64 0, .int .i64 0].toArray 51)) w10.heap.size (cxC (cB))) (w10.heap.size + 1) (ouC 5 3 a iClc)).heap.size = w10.heap.size + 1 + 1 := by simp only [szR]
        have hR3 : True := trivial
        generalize cB = cC at *
        generalize World.upd (World.upd ((w10.alloc (.cells (cxC zeroX).toArray 42)).alloc (.cells [.int .i64 0, .int .i64 0, .int .u64 0, .int .i64 0, .int .i64 0, .int .i64 0, .int .i64 0, .int .i64 0].toArray 51)) w10.heap.size (cxC cC)) (w10.heap.size + 1) (ouC 5 3 a iClc) = w11 at *
        replace g15 := hxo.at g15 (by simp)
        have hxe : Ext [] w11 (w11.alloc (.cells (cq ⟨false, x.m, x.a⟩).toArray 24)).drew := by (repeat first | assumption | exact Ext.refl | apply Ext.alloc | apply Ext.drew | (refine Ext.updN ?_ ?_; (focus first | omega | (simp only [szR] <;> omega))) | (refine Ext.updI ?_ ?_; (focus (simp; done))))
        have g19 : (w11.alloc (.cells (cq ⟨false, x.m, x.a⟩).toArray 24)).drew.heap[w10.heap.size + 1 + 1]? = some (.cells (cq ⟨false, x.m, x.a⟩).toArray 24 (0, 0)) := alloc_at hs11.symm
        replace g15 := hxe.at g15 (by simp)
        replace g16 := hxe.at g16 (by simp)
        replace g17 := hxe.at g17 (by simp)
        have hxl : Ext [] w (w11.alloc (.cells (cq ⟨false, x.m, x.a⟩).toArray 24)).drew := ((hxw.trans hx10 (by simp; omega)).trans hxo (by simp)).trans hxe (by simp)
        generalize (w11.alloc (.cells (cq ⟨false, x.m, x.a⟩).toArray 24)).drew = w12 at *
        have hq := cq_eql ⟨false, x.m, x.a⟩ ⟨false, x.m, x.a⟩
        rw [decide_eq_true rfl] at hq
        refine relX.ext [] ?_
        (repeat (apply postX.is; (focus (intro v w2 hR hd; have e0 := hR.at g15 (by simp); have e1 := hR.at g16 (by simp); have e2 := hR.at g17 (by simp); have e3 := hR.at g19 (by simp); (try simp (disch := first | assumption | omega | (simp only [szR, cq_len, cq_all, cxC_len, cxC_all, inC_len, inC_all, rnC_len, rnC_all, ouC_len, ouC_all, vwC_len, vwC_all, plC_len, plC_all] <;> omega) | rfl | decide) only [gen0, gen1, gen2, rulesC, rulesX, rulesM, litR, bolR, Nat.reduceAdd, Nat.reduceLeDiff, numR, memR, valR, heapR, updR, intR, decR, extR, slR, segR, thenR, pnR, Int.reduceToNat, Int.reduceAdd, Int.reduceSub, Int.reduceLT, Int.reduceLE, Nat.reduceSub, Nat.reduceMul, Nat.reduceEqDiff, hd, e0, e1, e2, e3, o0, cx_sub, cq_sub, hq, beq_self_eq_true, Bool.not_true, Bool.not_false, if_true]); exact okX.is))))
        apply postX.is
        · intro v w5 hR hd
          simp (disch := first | assumption | omega | (simp only [szR, cq_len, cq_all, cxC_len, cxC_all, inC_len, inC_all, rnC_len, rnC_all, ouC_len, ouC_all, vwC_len, vwC_all, plC_len, plC_all] <;> omega) | rfl | decide) only [gen0, gen1, gen2, rulesC, rulesX, rulesM, litR, bolR, Nat.reduceAdd, Nat.reduceLeDiff, numR, memR, valR, heapR, updR, intR, decR, extR, slR, segR, thenR, pnR, Int.reduceToNat, Int.reduceAdd, Int.reduceSub, Int.reduceLT, Int.reduceLE, Nat.reduceSub, Nat.reduceMul, Nat.reduceEqDiff, hd]
          exact one_spec fun w6 hx6 => okX.mk hx6 rfl
        (repeat (apply postX.is; (focus (intro v w2 hR hd; (try simp (disch := first | assumption | omega | (simp only [szR, cq_len, cq_all, cxC_len, cxC_all, inC_len, inC_all, rnC_len, rnC_all, ouC_len, ouC_all, vwC_len, vwC_all, plC_len, plC_all] <;> omega) | rfl | decide) only [gen0, gen1, gen2, rulesC, rulesX, rulesM, litR, bolR, Nat.reduceAdd, Nat.reduceLeDiff, numR, memR, valR, heapR, updR, intR, decR, extR, slR, segR, thenR, pnR, Int.reduceToNat, Int.reduceAdd, Int.reduceSub, Int.reduceLT, Int.reduceLE, Nat.reduceSub, Nat.reduceMul, Nat.reduceEqDiff, hd, if_true]); exact okX.is))))
        intro v w13 hR hd _
        simp (disch := first | assumption | omega | (simp only [szR, cq_len, cq_all, cxC_len, cxC_all, inC_len, inC_all, rnC_len, rnC_all, ouC_len, ouC_all, vwC_len, vwC_all, plC_len, plC_all] <;> omega) | rfl | decide) only [gen0, gen1, gen2, rulesC, rulesX, rulesM, litR, bolR, Nat.reduceAdd, Nat.reduceLeDiff, numR, memR, valR, heapR, updR, intR, decR, extR, slR, segR, thenR, pnR, Int.reduceToNat, Int.reduceAdd, Int.reduceSub, Int.reduceLT, Int.reduceLE, Nat.reduceSub, Nat.reduceMul, Nat.reduceEqDiff, hd]
        exact hK _ (hxl.trans hR (by simp))
    | false =>
      refine clc_trap hM8 cB0 hWB cB2 hpl hal (by rw [c1, decide_eq_false hr]) fun g2 w10 _ hM10 hx10 => ?_
      replace gx := hx10.at gx (by simp; omega)
      replace gv := hx10.at gv (by simp; omega)
      replace g15 := hx10.at g15 (by simp; omega)
      have lgv := lt_of_at gv
      have lgx := lt_of_at gx
      have l15 := lt_of_at g15
      simp (disch := first | assumption | omega | (simp only [szR, cq_len, cq_all, cxC_len, cxC_all, inC_len, inC_all, rnC_len, rnC_all, ouC_len, ouC_all, vwC_len, vwC_all, plC_len, plC_all] <;> omega) | rfl | decide) only [gen0, gen1, gen2, rulesC, rulesX, rulesM, litR, bolR, Nat.reduceAdd, Nat.reduceLeDiff, numR, memR, valR, heapR, updR, intR, decR, extR, slR, segR, thenR, pnR, Int.reduceToNat, Int.reduceAdd, Int.reduceSub, Int.reduceLT, Int.reduceLE, Nat.reduceSub, Nat.reduceMul, Nat.reduceEqDiff, joinBR, zeroX_cells, cx_over, cx_put, ou_over, ou_put, gv, gx, cq_sub, e1, cq0, ht, cq_tag, cq_put]
      obtain ⟨hxo, g16, g17⟩ := two_put w10 (cB) (ouC 5 3 a iClc)
      have hs11 : (World.upd (World.upd ((w10.alloc (.cells (cxC zeroX).toArray 42)).alloc (.cells [.int .i64 0, .int .i64 0, .int .u64 0, .int .i64 0, .int .i64 0, .int .i64 0, .int .i64 0, .int .i64 0].toArray 51)) w10.heap.size (cxC (cB))) (w10.heap.size + 1) (ouC 5 3 a iClc)).heap.size = w10.heap.size + 1 + 1 := by simp only [szR]
      have hR3 : True := trivial
      generalize cB = cC at *
      generalize World.upd (World.upd ((w10.alloc (.cells (cxC zeroX).toArray 42)).alloc (.cells [.int .i64 0, .int .i64 0, .int .u64 0, .int .i64 0, .int .i64 0, .int .i64 0, .int .i64 0, .int .i64 0].toArray 51)) w10.heap.size (cxC cC)) (w10.heap.size + 1) (ouC 5 3 a iClc) = w11 at *
      replace g15 := hxo.at g15 (by simp)
      have hxe : Ext [] w11 (w11.alloc (.cells (cq ⟨false, x.m, x.a⟩).toArray 24)).drew := by (repeat first | assumption | exact Ext.refl | apply Ext.alloc | apply Ext.drew | (refine Ext.updN ?_ ?_; (focus first | omega | (simp only [szR] <;> omega))) | (refine Ext.updI ?_ ?_; (focus (simp; done))))
      have g19 : (w11.alloc (.cells (cq ⟨false, x.m, x.a⟩).toArray 24)).drew.heap[w10.heap.size + 1 + 1]? = some (.cells (cq ⟨false, x.m, x.a⟩).toArray 24 (0, 0)) := alloc_at hs11.symm
      replace g15 := hxe.at g15 (by simp)
      replace g16 := hxe.at g16 (by simp)
      replace g17 := hxe.at g17 (by simp)
      have hxl : Ext [] w (w11.alloc (.cells (cq ⟨false, x.m, x.a⟩).toArray 24)).drew := ((hxw.trans hx10 (by simp; omega)).trans hxo (by simp)).trans hxe (by simp)
      generalize (w11.alloc (.cells (cq ⟨false, x.m, x.a⟩).toArray 24)).drew = w12 at *
      have hq := cq_eql ⟨false, x.m, x.a⟩ ⟨false, x.m, x.a⟩
      rw [decide_eq_true rfl] at hq
      refine relX.ext [] ?_
      (repeat (apply postX.is; (focus (intro v w2 hR hd; have e0 := hR.at g15 (by simp); have e1 := hR.at g16 (by simp); have e2 := hR.at g17 (by simp); have e3 := hR.at g19 (by simp); (try simp (disch := first | assumption | omega | (simp only [szR, cq_len, cq_all, cxC_len, cxC_all, inC_len, inC_all, rnC_len, rnC_all, ouC_len, ouC_all, vwC_len, vwC_all, plC_len, plC_all] <;> omega) | rfl | decide) only [gen0, gen1, gen2, rulesC, rulesX, rulesM, litR, bolR, Nat.reduceAdd, Nat.reduceLeDiff, numR, memR, valR, heapR, updR, intR, decR, extR, slR, segR, thenR, pnR, Int.reduceToNat, Int.reduceAdd, Int.reduceSub, Int.reduceLT, Int.reduceLE, Nat.reduceSub, Nat.reduceMul, Nat.reduceEqDiff, hd, e0, e1, e2, e3, o0, cx_sub, cq_sub, hq, beq_self_eq_true, Bool.not_true, Bool.not_false, if_true]); exact okX.is))))
      apply postX.is
      · intro v w5 hR hd
        simp (disch := first | assumption | omega | (simp only [szR, cq_len, cq_all, cxC_len, cxC_all, inC_len, inC_all, rnC_len, rnC_all, ouC_len, ouC_all, vwC_len, vwC_all, plC_len, plC_all] <;> omega) | rfl | decide) only [gen0, gen1, gen2, rulesC, rulesX, rulesM, litR, bolR, Nat.reduceAdd, Nat.reduceLeDiff, numR, memR, valR, heapR, updR, intR, decR, extR, slR, segR, thenR, pnR, Int.reduceToNat, Int.reduceAdd, Int.reduceSub, Int.reduceLT, Int.reduceLE, Nat.reduceSub, Nat.reduceMul, Nat.reduceEqDiff, hd]
        exact one_spec fun w6 hx6 => okX.mk hx6 rfl
      (repeat (apply postX.is; (focus (intro v w2 hR hd; (try simp (disch := first | assumption | omega | (simp only [szR, cq_len, cq_all, cxC_len, cxC_all, inC_len, inC_all, rnC_len, rnC_all, ouC_len, ouC_all, vwC_len, vwC_all, plC_len, plC_all] <;> omega) | rfl | decide) only [gen0, gen1, gen2, rulesC, rulesX, rulesM, litR, bolR, Nat.reduceAdd, Nat.reduceLeDiff, numR, memR, valR, heapR, updR, intR, decR, extR, slR, segR, thenR, pnR, Int.reduceToNat, Int.reduceAdd, Int.reduceSub, Int.reduceLT, Int.reduceLE, Nat.reduceSub, Nat.reduceMul, Nat.reduceEqDiff, hd, if_true]); exact okX.is))))
      intro v w13 hR hd _
      simp (disch := first | assumption | omega | (simp only [szR, cq_len, cq_all, cxC_len, cxC_all, inC_len, inC_all, rnC_len, rnC_all, ouC_len, ouC_all, vwC_len, vwC_all, plC_len, plC_all] <;> omega) | rfl | decide) only [gen0, gen1, gen2, rulesC, rulesX, rulesM, litR, bolR, Nat.reduceAdd, Nat.reduceLeDiff, numR, memR, valR, heapR, updR, intR, decR, extR, slR, segR, thenR, pnR, Int.reduceToNat, Int.reduceAdd, Int.reduceSub, Int.reduceLT, Int.reduceLE, Nat.reduceSub, Nat.reduceMul, Nat.reduceEqDiff, hd]
      exact hK _ (hxl.trans hR (by simp))
end Go.Proofs.YtplfniijbeinmaaGreat
