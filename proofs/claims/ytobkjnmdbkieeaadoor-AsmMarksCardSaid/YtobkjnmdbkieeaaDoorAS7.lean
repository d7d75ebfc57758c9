/- An instruction's text, read; conditions: those of each theorem. -/
import Derived.Test.YtobkjnmdbkieeaaDoorAS6
namespace Go.Proofs.YtobkjnmdbkieeaaDoor
open Go.Fx
set_option maxRecDepth 100000
set_option linter.unusedSimpArgs false
set_option linter.unusedVariables false
def stepP (p : IZ × Bool) (x : UInt8 × List UInt8) : IZ × Bool :=
  if x.1 = 100 then ({ p.1 with rd := regN x.2 }, p.2 && regOK x.2) else if x.1 = 97 then ({ p.1 with r1 := regN x.2 }, p.2 && regOK x.2) else if x.1 = 98 then ({ p.1 with r2 := regN x.2 }, p.2 && regOK x.2) else ({ p.1 with im := (numberF x.2).1 }, p.2 && (numberF x.2).2)
def izZ : IZ := ⟨0, 0, 0, 0, 0⟩
def parseOp (s : List UInt8) : Nat := findN (Lib.cut s [32]).1 69 0
def parseL (s : List UInt8) : List (List UInt8) := if (Lib.cut s [32]).2.2 then Lib.split (Lib.cut s [32]).2.1 [44, 32] else []
def parseP (s : List UInt8) : IZ × Bool := ((orderS (rowZ (parseOp s)).s).zip (parseL s)).foldl stepP (⟨parseOp s, 0, 0, 0, 0⟩, true)
/-- what a text is read as; false: it is none. -/
def parseF (s : List UInt8) : IZ × Bool :=
  if parseOp s = 0 ∨ (parseL s).length ≠ (orderS (rowZ (parseOp s)).s).length then (izZ, false) else if (parseP s).2 && encOk (parseP s).1 then ((parseP s).1, true) else (izZ, false)
theorem stepP_ok {p : IZ × Bool} {x : UInt8 × List UInt8} (h : izOk p.1) : izOk (stepP p x).1 := by
  obtain ⟨h1, h2, h3, h4, h5⟩ := h
  have hr := numberF_in (Lib.trimPrefix x.2 [99])
  have hn := numberF_in x.2
  unfold stepP
  repeat' split
  · exact ⟨h1, hr, h3, h4, h5⟩
  · exact ⟨h1, h2, hr, h4, h5⟩
  · exact ⟨h1, h2, h3, hr, h5⟩
  · exact ⟨h1, h2, h3, h4, hn⟩
theorem splitK_len (sep : List UInt8) (n : Nat) : ∀ (k : Nat) (s : List UInt8), s.length ≤ n → ∀ x ∈ Lib.splitK sep 0 k s, x.length ≤ n
  | 0, s, h, x, hx => by
    unfold Lib.splitK at hx
    simp at hx
    subst hx
    exact h
  | k + 1, s, h, x, hx => by
    unfold Lib.splitK at hx
    split at hx
    · simp at hx
      subst hx
      exact h
    · rw [List.mem_cons] at hx
      rcases hx with rfl | hx
      · rw [List.length_take]
        omega
      · exact splitK_len sep n k _ (by rw [List.length_drop]; omega) x hx
theorem cut_len (s p : List UInt8) : (Lib.cut s p).1.length ≤ s.length ∧ (Lib.cut s p).2.1.length ≤ s.length := by
  unfold Lib.cut
  split
  · simp only [List.length_take, List.length_drop]
    omega
  · simp
theorem parseL_len {s x : List UInt8} (hx : x ∈ parseL s) : x.length ≤ s.length := by
  unfold parseL at hx
  split at hx
  · exact splitK_len _ _ _ _ (cut_len s [32]).2 x hx
  · simp at hx
theorem iz_over (i : IZ) : splice (izC izZ) 0 (izC i) = izC i := rfl
theorem iz_put (i : IZ) : izC i ++ List.drop (izC i).length (izC izZ) = izC i := by simp [izC]
set_option maxHeartbeats 1000000 in
theorem Parse_spec {w : World} {s : List UInt8} (hg : Gm w) (hs : s.length < 4294967281) {K : Value → World → Prop} (hK : ∀ w', Ext [] w w' → K (.tuple #[.agg (izC (parseF s).1).toArray, .bool (parseF s).2]) w') : callsK Tryd.prog 7 #[.string ⟨s.toArray⟩] w K := by
  apply F7_ok
  unfold F7
  have hz : izC izZ = [.int .i64 0, .int .i64 0, .int .i64 0, .int .i64 0, .int .i64 0] := rfl
  have z1 := iz_over
  have z2 := iz_put
  rw [hz] at z1 z2
  simp (disch := first | assumption | omega | (simp only [szR, izC_len, izC_all] <;> omega) | rfl | decide) only [gen0, gen1, gen2, rulesC, rulesX, rulesA, litR, bolR, Nat.reduceAdd, Nat.reduceLeDiff, numR, memR, valR, heapR, updR, intR, decR, extR, slR, segR, thenR, pnR, Int.reduceToNat, Int.reduceAdd, Int.reduceSub, Int.reduceLT, Int.reduceLE, Nat.reduceSub, Nat.reduceMul, Nat.reduceEqDiff]
  have hx0 : Ext [] w (w.alloc (.cells [.int .i64 0, .int .i64 0, .int .i64 0, .int .i64 0, .int .i64 0].toArray 28)) := by (repeat first | assumption | exact Ext.refl | apply Ext.alloc | apply Ext.drew | (refine Ext.updN ?_ ?_; (focus first | omega | (simp only [szR] <;> omega))) | (refine Ext.updI ?_ ?_; (focus (simp; done))))
  have g2 : (w.alloc (.cells [.int .i64 0, .int .i64 0, .int .i64 0, .int .i64 0, .int .i64 0].toArray 28)).heap[w.heap.size]? = some (.cells [.int .i64 0, .int .i64 0, .int .i64 0, .int .i64 0, .int .i64 0].toArray 28 (0, 0)) := alloc_at rfl
  generalize (w.alloc (.cells [.int .i64 0, .int .i64 0, .int .i64 0, .int .i64 0, .int .i64 0].toArray 28)) = w1 at *
  refine Cut_spec (s := s) (p := [32]) (hg.ext hx0) hs fun w2 hx1 => ?_
  have hcl := cut_len s [32]
  have hop : findN (Lib.cut s [32]).1 69 0 = parseOp s := rfl
  have hpl : ∀ x ∈ parseL s, x.length ≤ s.length := fun x hx => parseL_len hx
  have hL : parseL s = if (Lib.cut s [32]).2.2 then Lib.split (Lib.cut s [32]).2.1 [44, 32] else [] := rfl
  have hPP : parseP s = ((orderS (rowZ (parseOp s)).s).zip (parseL s)).foldl stepP (⟨parseOp s, 0, 0, 0, 0⟩, true) := rfl
  have hPF : parseF s = if parseOp s = 0 ∨ (parseL s).length ≠ (orderS (rowZ (parseOp s)).s).length then (izZ, false) else if (parseP s).2 && encOk (parseP s).1 then ((parseP s).1, true) else (izZ, false) := rfl
  have hole := order_len (rowZ (parseOp s)).s
  have hsh := rowZ_sh (parseOp s)
  have hofl := findN_lt (Lib.cut s [32]).1 69 0 rfl
  rw [hop] at hofl
  simp (disch := first | assumption | omega | (simp only [szR, izC_len, izC_all] <;> omega) | rfl | decide) only [gen0, gen1, gen2, rulesC, rulesX, rulesA, litR, bolR, Nat.reduceAdd, Nat.reduceLeDiff, numR, memR, valR, heapR, updR, intR, decR, extR, slR, segR, thenR, pnR, Int.reduceToNat, Int.reduceAdd, Int.reduceSub, Int.reduceLT, Int.reduceLE, Nat.reduceSub, Nat.reduceMul, Nat.reduceEqDiff]
  refine Find_spec fun w3 hx2 => ?_
  rw [hop]
  generalize parseF s = pf at *
  generalize parseP s = pp at *
  generalize parseL s = L at *
  generalize parseOp s = op at *
  generalize Lib.cut s [32] = c at *
  have hb : ∀ (x : Int) (w : World), (Instr.build 28 #[(0, .int .i64 x)]).run Tryd.prog w = .ok (.agg [.int .i64 x, .int .i64 0, .int .i64 0, .int .i64 0, .int .i64 0].toArray) w := fun x w => run_build w 28 _ _ (by kernel_rfl)
  have hb2 : ∀ (w : World), (Instr.build 28 #[(0, .int .i64 ((op : Nat) : Int))]).run Tryd.prog w = .ok (.agg (izC ⟨op, 0, 0, 0, 0⟩).toArray) w := fun w => hb _ w
  have g2b := (hx1.trans hx2 (by simp)).at g2 (by simp)
  have hxa := (hx0.trans hx1 (by simp)).trans hx2 (by simp)
  have i0 : (izC ⟨op, 0, 0, 0, 0⟩)[0]? = some (.int .i64 (op : Nat)) := rfl
  have hxb : Ext [] w3 (w3.alloc (.cells (izC ⟨op, 0, 0, 0, 0⟩).toArray 28)) := Ext.alloc Ext.refl _ _
  have g7 : (w3.alloc (.cells (izC ⟨op, 0, 0, 0, 0⟩).toArray 28)).heap[w3.heap.size]? = some (.cells (izC ⟨op, 0, 0, 0, 0⟩).toArray 28 (0, 0)) := alloc_at rfl
  have g2c := hxb.at g2b (by simp)
  have l3 := lt_of_at g2b
  simp (disch := first | assumption | omega | (simp only [szR, izC_len, izC_all] <;> omega) | rfl | decide) only [gen0, gen1, gen2, rulesC, rulesX, rulesA, litR, bolR, Nat.reduceAdd, Nat.reduceLeDiff, numR, memR, valR, heapR, updR, intR, decR, extR, slR, segR, thenR, pnR, Int.reduceToNat, Int.reduceAdd, Int.reduceSub, Int.reduceLT, Int.reduceLE, Nat.reduceSub, Nat.reduceMul, Nat.reduceEqDiff, hb2, z1, z2, i0]
  replace hxa := hxa.trans hxb (by simp)
  generalize (w3.alloc (.cells (izC ⟨op, 0, 0, 0, 0⟩).toArray 28)) = w4 at *
  refine Shape_spec (n := (op : Nat)) (by omega) fun w5 hx5 => ?_
  refine order_spec hsh ?_
  generalize orderS (rowZ ((op : Nat) : Int)).s = o at *
  have g2d := hx5.at g2c (by simp)
  have g7d := hx5.at g7 (by simp)
  replace hxa := hxa.trans hx5 (by simp)
  refine joinL.intro fun J0 hJ0 => ?_
  obtain ⟨b7, hb7⟩ : ∃ b7, b7 = w3.heap.size := ⟨_, rfl⟩
  rw [← hb7] at g7d hJ0 l3
  have hgo : ∀ v w6, RowsAt w6 v 1 (L.map sC) → Ext [] w5 w6 → (∀ b, blockOf v = some b → w5.heap.size ≤ b) → J0 [v] w6 := by
    intro v w6 hv hx6 hvb
    have g2e := hx6.at g2d (by simp)
    have g7e := hx6.at g7d (by simp)
    have hxc := hxa.trans hx6 (by simp)
    have l2 := lt_of_at g2e
    have l7 := lt_of_at g7e
    have l5 := lt_of_at g7d
    have l52 := lt_of_at g2d
    have hlv := hv.lenR (ty := 3) Tryd.underlying38
    rw [List.length_map] at hlv
    have hlo := lenS o
    have hw7 : w.heap.size < b7 := by omega
    apply hJ0
    intro _
    by_cases hbad : op = 0 ∨ L.length ≠ o.length
    · rw [if_pos hbad] at hPF
      rw [hPF] at hK
      by_cases h0 : op = 0
      · simp (disch := first | assumption | omega | (simp only [szR, izC_len, izC_all] <;> omega) | rfl | decide) only [gen0, gen1, gen2, rulesC, rulesX, rulesA, litR, bolR, Nat.reduceAdd, Nat.reduceLeDiff, numR, memR, valR, heapR, updR, intR, decR, extR, slR, segR, thenR, pnR, Int.reduceToNat, Int.reduceAdd, Int.reduceSub, Int.reduceLT, Int.reduceLE, Nat.reduceSub, Nat.reduceMul, Nat.reduceEqDiff, joinBR, List.getD_cons_zero, g7e, i0, g2e]
        exact hK _ (by (repeat first | assumption | exact Ext.refl | apply Ext.alloc | apply Ext.drew | (refine Ext.updN ?_ ?_; (focus first | omega | (simp only [szR] <;> omega))) | (refine Ext.updI ?_ ?_; (focus (simp; done)))))
      · have hne : ¬ ((L.length : Nat) : Int) = (o.length : Nat) := by omega
        simp (disch := first | assumption | omega | (simp only [szR, izC_len, izC_all] <;> omega) | rfl | decide) only [gen0, gen1, gen2, rulesC, rulesX, rulesA, litR, bolR, Nat.reduceAdd, Nat.reduceLeDiff, numR, memR, valR, heapR, updR, intR, decR, extR, slR, segR, thenR, pnR, Int.reduceToNat, Int.reduceAdd, Int.reduceSub, Int.reduceLT, Int.reduceLE, Nat.reduceSub, Nat.reduceMul, Nat.reduceEqDiff, joinBR, List.getD_cons_zero, g7e, i0, g2e, hlv, hlo]
        exact hK _ (by (repeat first | assumption | exact Ext.refl | apply Ext.alloc | apply Ext.drew | (refine Ext.updN ?_ ?_; (focus first | omega | (simp only [szR] <;> omega))) | (refine Ext.updI ?_ ?_; (focus (simp; done)))))
    rw [if_neg hbad] at hPF
    have h0 : ¬ op = 0 := fun h => hbad (.inl h)
    have hlen : L.length = o.length := Classical.byContradiction fun h => hbad (.inr h)
    have hlenI : ((L.length : Nat) : Int) = (o.length : Nat) := by rw [hlen]
    have hopI : ¬ ((op : Nat) : Int) = 0 := by omega
    simp (disch := first | assumption | omega | (simp only [szR, izC_len, izC_all] <;> omega) | rfl | decide) only [gen0, gen1, gen2, rulesC, rulesX, rulesA, litR, bolR, Nat.reduceAdd, Nat.reduceLeDiff, numR, memR, valR, heapR, updR, intR, decR, extR, slR, segR, thenR, pnR, Int.reduceToNat, Int.reduceAdd, Int.reduceSub, Int.reduceLT, Int.reduceLE, Nat.reduceSub, Nat.reduceMul, Nat.reduceEqDiff, joinBR, List.getD_cons_zero, g7e, i0, hlv, hlo, hlenI]
    have gA : (w6.alloc (.cells [.bool true].toArray 4)).heap[w6.heap.size]? = some (.cells [.bool true].toArray 4 (0, 0)) := alloc_at rfl
    have hxA : Ext [] w6 (w6.alloc (.cells [.bool true].toArray 4)) := Ext.alloc Ext.refl _ _
    have gA2 := hxA.at g2e (by simp)
    have gA7 := hxA.at g7e (by simp)
    have hvA := hv.ext hxA (by simp)
    replace hxc := hxc.trans hxA (by simp)
    obtain ⟨b10, hb10⟩ : ∃ b10, b10 = w6.heap.size := ⟨_, rfl⟩
    have h710 : b7 < b10 := by omega
    have hblk : L.map sC ≠ [] → ∀ b, blockOf v = some b → b ∉ [b7, b10] := by
      intro h b hb
      have q1 := hvb b hb
      have q2 : b < w6.heap.size := hv.blt h b hb
      simp
      omega
    rw [← hb10] at gA ⊢
    generalize (w6.alloc (.cells [.bool true].toArray 4)) = w7 at *
    have zz : in64 0 := ⟨by decide, by decide⟩
    have hok0 : izOk ⟨op, 0, 0, 0, 0⟩ := ⟨⟨show (-9223372036854775808 : Int) ≤ op by omega, show (op : Int) < 9223372036854775808 by omega⟩, zz, zz, zz, zz⟩
    have hzl : (o.zip L).length = o.length := by rw [List.length_zip, hlen, Nat.min_self]
    generalize hzz : o.zip L = z at *
    refine loopT.intro (fun st w' => ∃ (k : Nat), k ≤ o.length ∧ st = [.int .i64 (k : Nat)] ∧ w'.heap[b7]? = some (.cells (izC ((z.take k).foldl stepP (⟨op, 0, 0, 0, 0⟩, true)).1).toArray 28 (0, 0)) ∧ w'.heap[b10]? = some (.cells [.bool ((z.take k).foldl stepP (⟨op, 0, 0, 0, 0⟩, true)).2].toArray 4 (0, 0)) ∧ izOk ((z.take k).foldl stepP (⟨op, 0, 0, 0, 0⟩, true)).1 ∧ Ext [b7, b10] w7 w')
      (fun st _ => match st with
        | [.int _ z] => o.length - z.toNat
        | _ => 0) ⟨0, Nat.zero_le _, rfl, gA7, gA, hok0, Ext.refl⟩ ?_
    rintro st w8 ⟨k, hk, rfl, m7, m10, hok, hx8⟩ _
    have lm7 := lt_of_at m7
    have lm10 := lt_of_at m10
    by_cases h4 : k < o.length
    · obtain ⟨b, hb⟩ : ∃ b, o[k]? = some b := ⟨_, List.getElem?_eq_getElem h4⟩
      obtain ⟨x, hx⟩ : ∃ x, L[k]? = some x := ⟨_, List.getElem?_eq_getElem (by omega)⟩
      have hzk : z[k]? = some (b, x) := by rw [← hzz, List.getElem?_zip_eq_some]; exact ⟨hb, hx⟩
      have hnx : (z.take (k + 1)).foldl stepP (⟨op, 0, 0, 0, 0⟩, true) = stepP ((z.take k).foldl stepP (⟨op, 0, 0, 0, 0⟩, true)) (b, x) := by
        rw [List.take_add_one, hzk, List.foldl_append]
        rfl
      have hokn := stepP_ok (x := (b, x)) hok
      have hxl := hpl x (List.mem_of_getElem? hx)
      have hrow : (L.map sC)[k]? = some (sC x) := by rw [List.getElem?_map, hx]; rfl
      have hv8 := hvA.at' hx8 hblk
      obtain ⟨b0, o0, lb, E0, f0, hix, hb0, hfit, hblt, hbk, hsub, hget⟩ := RowsAt.ixR (P := Tryd.prog) (t := 38) Tryd.underlying38 Tryd.sizeOf9 hv8 hrow
      have hc0 : lb[o0]? = some (.string ⟨x.toArray⟩) := by simpa [sC] using hget (o0 + 0) 0 rfl (by omega)
      have hixo := ixS hb
      generalize (z.take k).foldl stepP (⟨op, 0, 0, 0, 0⟩, true) = p at *
      simp (disch := first | assumption | omega | (simp only [szR, izC_len, izC_all] <;> omega) | rfl | decide) only [gen0, gen1, gen2, rulesC, rulesX, rulesA, litR, bolR, Nat.reduceAdd, Nat.reduceLeDiff, numR, memR, valR, heapR, updR, intR, decR, extR, slR, segR, thenR, pnR, Int.reduceToNat, Int.reduceAdd, Int.reduceSub, Int.reduceLT, Int.reduceLE, Nat.reduceSub, Nat.reduceMul, Nat.reduceEqDiff, List.getD_cons_zero]
      refine joinL.intro fun J6 hJ6 => ?_
      have hne710 : b7 ≠ b10 := by omega
      have hfin : ∀ w9, w9.heap[b7]? = some (.cells (izC (stepP p (b, x)).1).toArray 28 (0, 0)) → w9.heap[b10]? = some (.cells [.bool (stepP p (b, x)).2].toArray 4 (0, 0)) → Ext [b7, b10] w8 w9 → J6 [] w9 := by
        intro w9 n7 n10 hx9
        rw [← hnx] at n7 n10 hokn
        apply hJ6
        intro _
        simp (disch := first | assumption | omega | (simp only [szR, izC_len, izC_all] <;> omega) | rfl | decide) only [gen0, gen1, gen2, rulesC, rulesX, rulesA, litR, bolR, Nat.reduceAdd, Nat.reduceLeDiff, numR, memR, valR, heapR, updR, intR, decR, extR, slR, segR, thenR, pnR, Int.reduceToNat, Int.reduceAdd, Int.reduceSub, Int.reduceLT, Int.reduceLE, Nat.reduceSub, Nat.reduceMul, Nat.reduceEqDiff, List.getD_cons_zero]
        exact ⟨⟨k + 1, by omega, rfl, n7, n10, hokn, hx8.trans hx9 (by intro k hk; exact .inl hk)⟩, by first | omega | (simp <;> omega)⟩
      have hbe : ∀ c : UInt8, (((b.toNat : Nat) : Int) = (c.toNat : Nat)) ↔ b = c := fun c => ⟨fun h => UInt8.toNat_inj.1 (by omega), fun h => by rw [h]⟩
      by_cases c1 : b = 100
      · have e : ((b.toNat : Nat) : Int) = 100 := (hbe 100).2 c1
        have hp : stepP p (b, x) = ({ p.1 with rd := regN x }, p.2 && regOK x) := by unfold stepP; dsimp only; rw [if_pos c1]
        rw [hp] at hfin
        have hset : (izC p.1).set 1 (.int .i64 (regN x)) = izC { p.1 with rd := regN x } := rfl
        simp (disch := first | assumption | omega | (simp only [szR, izC_len, izC_all] <;> omega) | rfl | decide) only [gen0, gen1, gen2, rulesC, rulesX, rulesA, litR, bolR, Nat.reduceAdd, Nat.reduceLeDiff, numR, memR, valR, heapR, updR, intR, decR, extR, slR, segR, thenR, pnR, Int.reduceToNat, Int.reduceAdd, Int.reduceSub, Int.reduceLT, Int.reduceLE, Nat.reduceSub, Nat.reduceMul, Nat.reduceEqDiff, hixo, e, hix, hb0, hc0]
        refine regP_spec (by omega) m10 ?_
        have m7' : (World.upd w8 b10 [.bool (p.2 && regOK x)]).heap[b7]? = some (.cells (izC p.1).toArray 28 (0, 0)) := (upd_ne hne710).trans m7
        have lm7' := lt_of_at m7'
        simp (disch := first | assumption | omega | (simp only [szR, izC_len, izC_all] <;> omega) | rfl | decide) only [gen0, gen1, gen2, rulesC, rulesX, rulesA, litR, bolR, Nat.reduceAdd, Nat.reduceLeDiff, numR, memR, valR, heapR, updR, intR, decR, extR, slR, segR, thenR, pnR, Int.reduceToNat, Int.reduceAdd, Int.reduceSub, Int.reduceLT, Int.reduceLE, Nat.reduceSub, Nat.reduceMul, Nat.reduceEqDiff, m7', hset]
        refine hfin _ (upd_at m7') ((upd_ne (Ne.symm hne710)).trans (upd_at m10)) ?_
        exact (Ext.updI (by simp) (Ext.updI (by simp) Ext.refl))
      have e1 : ¬ ((b.toNat : Nat) : Int) = 100 := fun h => c1 ((hbe 100).1 h)
      by_cases c2 : b = 97
      · have e : ((b.toNat : Nat) : Int) = 97 := (hbe 97).2 c2
        have hp : stepP p (b, x) = ({ p.1 with r1 := regN x }, p.2 && regOK x) := by unfold stepP; dsimp only; rw [if_neg c1, if_pos c2]
        rw [hp] at hfin
        have hset : (izC p.1).set 2 (.int .i64 (regN x)) = izC { p.1 with r1 := regN x } := rfl
        simp (disch := first | assumption | omega | (simp only [szR, izC_len, izC_all] <;> omega) | rfl | decide) only [gen0, gen1, gen2, rulesC, rulesX, rulesA, litR, bolR, Nat.reduceAdd, Nat.reduceLeDiff, numR, memR, valR, heapR, updR, intR, decR, extR, slR, segR, thenR, pnR, Int.reduceToNat, Int.reduceAdd, Int.reduceSub, Int.reduceLT, Int.reduceLE, Nat.reduceSub, Nat.reduceMul, Nat.reduceEqDiff, hixo, e, hix, hb0, hc0]
        refine regP_spec (by omega) m10 ?_
        have m7' : (World.upd w8 b10 [.bool (p.2 && regOK x)]).heap[b7]? = some (.cells (izC p.1).toArray 28 (0, 0)) := (upd_ne hne710).trans m7
        have lm7' := lt_of_at m7'
        simp (disch := first | assumption | omega | (simp only [szR, izC_len, izC_all] <;> omega) | rfl | decide) only [gen0, gen1, gen2, rulesC, rulesX, rulesA, litR, bolR, Nat.reduceAdd, Nat.reduceLeDiff, numR, memR, valR, heapR, updR, intR, decR, extR, slR, segR, thenR, pnR, Int.reduceToNat, Int.reduceAdd, Int.reduceSub, Int.reduceLT, Int.reduceLE, Nat.reduceSub, Nat.reduceMul, Nat.reduceEqDiff, m7', hset]
        refine hfin _ (upd_at m7') ((upd_ne (Ne.symm hne710)).trans (upd_at m10)) ?_
        exact (Ext.updI (by simp) (Ext.updI (by simp) Ext.refl))
      have e2 : ¬ ((b.toNat : Nat) : Int) = 97 := fun h => c2 ((hbe 97).1 h)
      by_cases c3 : b = 98
      · have e : ((b.toNat : Nat) : Int) = 98 := (hbe 98).2 c3
        have hp : stepP p (b, x) = ({ p.1 with r2 := regN x }, p.2 && regOK x) := by unfold stepP; dsimp only; rw [if_neg c1, if_neg c2, if_pos c3]
        rw [hp] at hfin
        have hset : (izC p.1).set 3 (.int .i64 (regN x)) = izC { p.1 with r2 := regN x } := rfl
        simp (disch := first | assumption | omega | (simp only [szR, izC_len, izC_all] <;> omega) | rfl | decide) only [gen0, gen1, gen2, rulesC, rulesX, rulesA, litR, bolR, Nat.reduceAdd, Nat.reduceLeDiff, numR, memR, valR, heapR, updR, intR, decR, extR, slR, segR, thenR, pnR, Int.reduceToNat, Int.reduceAdd, Int.reduceSub, Int.reduceLT, Int.reduceLE, Nat.reduceSub, Nat.reduceMul, Nat.reduceEqDiff, hixo, e, hix, hb0, hc0]
        refine regP_spec (by omega) m10 ?_
        have m7' : (World.upd w8 b10 [.bool (p.2 && regOK x)]).heap[b7]? = some (.cells (izC p.1).toArray 28 (0, 0)) := (upd_ne hne710).trans m7
        have lm7' := lt_of_at m7'
        simp (disch := first | assumption | omega | (simp only [szR, izC_len, izC_all] <;> omega) | rfl | decide) only [gen0, gen1, gen2, rulesC, rulesX, rulesA, litR, bolR, Nat.reduceAdd, Nat.reduceLeDiff, numR, memR, valR, heapR, updR, intR, decR, extR, slR, segR, thenR, pnR, Int.reduceToNat, Int.reduceAdd, Int.reduceSub, Int.reduceLT, Int.reduceLE, Nat.reduceSub, Nat.reduceMul, Nat.reduceEqDiff, m7', hset]
        refine hfin _ (upd_at m7') ((upd_ne (Ne.symm hne710)).trans (upd_at m10)) ?_
        exact (Ext.updI (by simp) (Ext.updI (by simp) Ext.refl))
      have e3 : ¬ ((b.toNat : Nat) : Int) = 98 := fun h => c3 ((hbe 98).1 h)
      have hp : stepP p (b, x) = ({ p.1 with im := (numberF x).1 }, p.2 && (numberF x).2) := by unfold stepP; dsimp only; rw [if_neg c1, if_neg c2, if_neg c3]
      rw [hp] at hfin
      have hset : (izC p.1).set 4 (.int .i64 (numberF x).1) = izC { p.1 with im := (numberF x).1 } := rfl
      simp (disch := first | assumption | omega | (simp only [szR, izC_len, izC_all] <;> omega) | rfl | decide) only [gen0, gen1, gen2, rulesC, rulesX, rulesA, litR, bolR, Nat.reduceAdd, Nat.reduceLeDiff, numR, memR, valR, heapR, updR, intR, decR, extR, slR, segR, thenR, pnR, Int.reduceToNat, Int.reduceAdd, Int.reduceSub, Int.reduceLT, Int.reduceLE, Nat.reduceSub, Nat.reduceMul, Nat.reduceEqDiff, hixo, e1, e2, e3, hix, hb0, hc0]
      refine number_spec (by omega) ?_
      generalize (numberF x).1 = nn at *
      generalize (numberF x).2 = nf at *
      cases hp2 : p.2 with
      | true =>
        rw [hp2] at m10 hfin
        rw [Bool.true_and] at hfin
        have m7' : ∀ u, (World.upd (World.upd w8 b7 (izC { p.1 with im := nn })) b10 u).heap[b7]? = some (.cells (izC { p.1 with im := nn }).toArray 28 (0, 0)) := fun u => (upd_ne hne710).trans (upd_at m7)
        have m10' : (World.upd w8 b7 (izC { p.1 with im := nn })).heap[b10]? = some (.cells [.bool true].toArray 4 (0, 0)) := (upd_ne (Ne.symm hne710)).trans m10
        have lm10' := lt_of_at m10'
        simp (disch := first | assumption | omega | (simp only [szR, izC_len, izC_all] <;> omega) | rfl | decide) only [gen0, gen1, gen2, rulesC, rulesX, rulesA, litR, bolR, Nat.reduceAdd, Nat.reduceLeDiff, numR, memR, valR, heapR, updR, intR, decR, extR, slR, segR, thenR, pnR, Int.reduceToNat, Int.reduceAdd, Int.reduceSub, Int.reduceLT, Int.reduceLE, Nat.reduceSub, Nat.reduceMul, Nat.reduceEqDiff, joinBR, m10, m7, hset, hp2, m10', List.set_cons_zero]
        refine hfin _ (m7' _) (upd_at m10') ?_
        exact (Ext.updI (by simp) (Ext.updI (by simp) Ext.refl))
      | false =>
        rw [hp2] at m10 hfin
        rw [Bool.false_and] at hfin
        have m7' : ∀ u, (World.upd (World.upd w8 b7 (izC { p.1 with im := nn })) b10 u).heap[b7]? = some (.cells (izC { p.1 with im := nn }).toArray 28 (0, 0)) := fun u => (upd_ne hne710).trans (upd_at m7)
        have m10' : (World.upd w8 b7 (izC { p.1 with im := nn })).heap[b10]? = some (.cells [.bool false].toArray 4 (0, 0)) := (upd_ne (Ne.symm hne710)).trans m10
        have lm10' := lt_of_at m10'
        simp (disch := first | assumption | omega | (simp only [szR, izC_len, izC_all] <;> omega) | rfl | decide) only [gen0, gen1, gen2, rulesC, rulesX, rulesA, litR, bolR, Nat.reduceAdd, Nat.reduceLeDiff, numR, memR, valR, heapR, updR, intR, decR, extR, slR, segR, thenR, pnR, Int.reduceToNat, Int.reduceAdd, Int.reduceSub, Int.reduceLT, Int.reduceLE, Nat.reduceSub, Nat.reduceMul, Nat.reduceEqDiff, joinBR, m10, m7, hset, hp2, m10', List.set_cons_zero]
        refine hfin _ (m7' _) (upd_at m10') ?_
        exact (Ext.updI (by simp) (Ext.updI (by simp) Ext.refl))
    · obtain rfl : k = o.length := by omega
      rw [List.take_of_length_le (by omega)] at m7 m10 hok
      rw [← hPP] at m7 m10 hok
      have n2 := (hx8.at gA2 (by simp; omega))
      simp (disch := first | assumption | omega | (simp only [szR, izC_len, izC_all] <;> omega) | rfl | decide) only [gen0, gen1, gen2, rulesC, rulesX, rulesA, litR, bolR, Nat.reduceAdd, Nat.reduceLeDiff, numR, memR, valR, heapR, updR, intR, decR, extR, slR, segR, thenR, pnR, Int.reduceToNat, Int.reduceAdd, Int.reduceSub, Int.reduceLT, Int.reduceLE, Nat.reduceSub, Nat.reduceMul, Nat.reduceEqDiff, List.getD_cons_zero, m7, izC_sub]
      refine Encode_spec hok fun w9 hx9 => ?_
      have n10 := hx9.at m10 (by simp)
      have n7 := hx9.at m7 (by simp)
      have n2' := hx9.at n2 (by simp)
      have ln10 := lt_of_at n10
      have ln7 := lt_of_at n7
      have ln2 := lt_of_at n2'
      have hx9' := hx8.trans hx9 (by simp)
      have hend : Ext [] w w9 := hxc.trans hx9' (by intro k hk; simp at hk; omega)
      cases hp2 : pp.2 with
      | false =>
        rw [hp2] at n10 hPF
        rw [hPF] at hK
        simp (disch := first | assumption | omega | (simp only [szR, izC_len, izC_all] <;> omega) | rfl | decide) only [gen0, gen1, gen2, rulesC, rulesX, rulesA, litR, bolR, Nat.reduceAdd, Nat.reduceLeDiff, numR, memR, valR, heapR, updR, intR, decR, extR, slR, segR, thenR, pnR, Int.reduceToNat, Int.reduceAdd, Int.reduceSub, Int.reduceLT, Int.reduceLE, Nat.reduceSub, Nat.reduceMul, Nat.reduceEqDiff, joinBR, n10, n2']
        exact hK _ (by (repeat first | assumption | exact Ext.refl | apply Ext.alloc | apply Ext.drew | (refine Ext.updN ?_ ?_; (focus first | omega | (simp only [szR] <;> omega))) | (refine Ext.updI ?_ ?_; (focus (simp; done)))))
      | true =>
        rw [hp2] at n10 hPF
        rw [Bool.true_and] at hPF
        cases he : encOk pp.1 with
        | false =>
          rw [he] at hPF
          rw [hPF] at hK
          simp (disch := first | assumption | omega | (simp only [szR, izC_len, izC_all] <;> omega) | rfl | decide) only [gen0, gen1, gen2, rulesC, rulesX, rulesA, litR, bolR, Nat.reduceAdd, Nat.reduceLeDiff, numR, memR, valR, heapR, updR, intR, decR, extR, slR, segR, thenR, pnR, Int.reduceToNat, Int.reduceAdd, Int.reduceSub, Int.reduceLT, Int.reduceLE, Nat.reduceSub, Nat.reduceMul, Nat.reduceEqDiff, joinBR, n10, n2']
          exact hK _ (by (repeat first | assumption | exact Ext.refl | apply Ext.alloc | apply Ext.drew | (refine Ext.updN ?_ ?_; (focus first | omega | (simp only [szR] <;> omega))) | (refine Ext.updI ?_ ?_; (focus (simp; done)))))
        | true =>
          rw [he] at hPF
          rw [hPF] at hK
          simp (disch := first | assumption | omega | (simp only [szR, izC_len, izC_all] <;> omega) | rfl | decide) only [gen0, gen1, gen2, rulesC, rulesX, rulesA, litR, bolR, Nat.reduceAdd, Nat.reduceLeDiff, numR, memR, valR, heapR, updR, intR, decR, extR, slR, segR, thenR, pnR, Int.reduceToNat, Int.reduceAdd, Int.reduceSub, Int.reduceLT, Int.reduceLE, Nat.reduceSub, Nat.reduceMul, Nat.reduceEqDiff, joinBR, n10, n2', n7, izC_sub, z1, z2]
          exact hK _ (by (repeat first | assumption | exact Ext.refl | apply Ext.alloc | apply Ext.drew | (refine Ext.updN ?_ ?_; (focus first | omega | (simp only [szR] <;> omega))) | (refine Ext.updI ?_ ?_; (focus (simp; done)))))
  cases hc : c.2.2 with
  | true =>
    rw [hc, if_pos rfl] at hL
    simp (disch := first | assumption | omega | (simp only [szR, izC_len, izC_all] <;> omega) | rfl | decide) only [gen0, gen1, gen2, rulesC, rulesX, rulesA, litR, bolR, Nat.reduceAdd, Nat.reduceLeDiff, numR, memR, valR, heapR, updR, intR, decR, extR, slR, segR, thenR, pnR, Int.reduceToNat, Int.reduceAdd, Int.reduceSub, Int.reduceLT, Int.reduceLE, Nat.reduceSub, Nat.reduceMul, Nat.reduceEqDiff]
    refine Split_spec (s := c.2.1) (p := [44, 32]) (hg.ext hxa) (by omega) (by simp) fun v w6 hv hx6 hvb => ?_
    rw [← hL] at hv
    exact hgo v w6 hv hx6 hvb
  | false =>
    rw [hc] at hL
    have hL0 : L = [] := hL
    simp (disch := first | assumption | omega | (simp only [szR, izC_len, izC_all] <;> omega) | rfl | decide) only [gen0, gen1, gen2, rulesC, rulesX, rulesA, litR, bolR, Nat.reduceAdd, Nat.reduceLeDiff, numR, memR, valR, heapR, updR, intR, decR, extR, slR, segR, thenR, pnR, Int.reduceToNat, Int.reduceAdd, Int.reduceSub, Int.reduceLT, Int.reduceLE, Nat.reduceSub, Nat.reduceMul, Nat.reduceEqDiff]
    exact hgo _ _ (by rw [hL0]; exact OwnR.nil.rows (base := 0) (e := 5)) Ext.refl (fun b h => by simp [blockOf] at h)
end Go.Proofs.YtobkjnmdbkieeaaDoor
