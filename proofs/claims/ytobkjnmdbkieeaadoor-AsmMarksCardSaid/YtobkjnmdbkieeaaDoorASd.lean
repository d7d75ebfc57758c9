/- A program's text assembled: the walk; conditions: those of each theorem. -/
import Derived.Test.YtobkjnmdbkieeaaDoorASc
namespace Go.Proofs.YtobkjnmdbkieeaaDoor
open Go.Fx
set_option maxRecDepth 100000
set_option linter.unusedSimpArgs false
set_option linter.unusedVariables false
def bV (b : Bool) : Value := .bool b
theorem GmX {w w' : World} {S : List Nat} (h : Gm w) (hx : Ext S w w') (h0 : 0 ∉ S) : Gm w' := by
  obtain ⟨g0, m, hm⟩ := h
  have hk0 := hx.kept 0 g0 h0
  refine ⟨by have := hx.size; omega, m, ?_⟩
  rw [← hm]
  unfold World.cell?
  rw [hk0]
theorem toldF_len (A T : List UInt8 → Option Int) (s : List UInt8) (n : Int) : (toldF A T s n).length ≤ s.length + 21 := by
  unfold toldF
  split
  · omega
  · split
    · omega
    · have := dec_len (n := ((A (s.drop (toldK s + 1).toNat)).getD 0 - n) * 4)
      rw [List.length_append, List.length_take]
      omega
set_option maxHeartbeats 2000000 in
theorem Assemble_spec {w : World} {s : List UInt8} {st : List UInt8 → List (List UInt8)} (hst : ∀ t, (st t).length ≤ 2) (hg : Gm w) (hs : s.length ≤ 16384) (hok : ∀ x ∈ linesFrom 0 (Lib.split s [10]), x.m = false → StandsOK x.t (st x.t) ∧ ∀ y ∈ st x.t, y.length ≤ 1000000)
    (hn : (countF st (linesFrom 0 (Lib.split s [10]))).n ≤ 1024) (hll : (linesFrom 0 (Lib.split s [10])).length ≤ 20001) (hpos : ∀ x ∈ linesFrom 0 (Lib.split s [10]), 0 < x.n ∧ x.n ≤ 1000000) {K : Value → World → Prop}
    (hK : match asmGo st (countF st (linesFrom 0 (Lib.split s [10]))).a (countF st (linesFrom 0 (Lib.split s [10]))).t (linesFrom 0 (Lib.split s [10])) (fun _ => false) [] with
      | .ok out => ∀ v w', RowsAt w' v 1 (out.map wC) → Ext [] w w' → (∀ b, blockOf v = some b → w.heap.size ≤ b) → K (.tuple #[v, .int .i64 0, .int .i64 0]) w'
      | .error n => ∀ w', Ext [] w w' → K (.tuple #[.slice none 0 0, .int .i64 (n : Nat), .int .i64 11]) w') : callsK Tryd.prog 8 #[.string ⟨s.toArray⟩] w K := by
  apply F8_ok
  unfold F8
  have hls := lenS s
  simp (disch := first | assumption | omega | (simp only [szR, izC_len, izC_all, lnC_len, lnC_all, mkC_len, mkC_all] <;> omega) | rfl | decide) only [gen0, gen1, gen2, rulesC, rulesX, rulesA, litR, bolR, Nat.reduceAdd, Nat.reduceLeDiff, numR, memR, valR, heapR, updR, intR, decR, extR, slR, segR, thenR, pnR, Int.reduceToNat, Int.reduceAdd, Int.reduceSub, Int.reduceLT, Int.reduceLE, Nat.reduceSub, Nat.reduceMul, Nat.reduceEqDiff, hls]
  refine lines_spec hg (by omega) fun v w1 hv hx1 hvb => ?_
  generalize linesFrom 0 (Lib.split s [10]) = L at *
  have hlv := hv.lenR (ty := 3) Tryd.underlying75
  rw [List.length_map] at hlv
  refine count_spec hst (hg.ext hx1) hv hll (fun x hx hm => (hok x hx hm).1) fun r1 r2 w2 M1 M2 hr1 hr2 hr12 hx2 => ?_
  have hA := countF_a hst L
  have hT := countF_t (st := st) L
  generalize countF st L = c at *
  have hm : ∀ w, (Instr.makeMap 82 none).run Tryd.prog w = .ok (.map (some w.heap.size)) (w.alloc (.map #[] 0)) := fun w => run_mkM _ w
  have z1 := mk_over
  have z2 := mk_put
  have hxb : Ext [] w2 ((w2.alloc (.cells (mkC r1 r2).toArray 79)).alloc (.map #[] 0)) := Ext.allocM (Ext.alloc Ext.refl _ _)
  have e1 : (w2.alloc (.cells (mkC r1 r2).toArray 79)).heap.size = w2.heap.size + 1 := by simp (disch := first | assumption | omega | (simp only [szR, izC_len, izC_all, lnC_len, lnC_all, mkC_len, mkC_all] <;> omega) | rfl | decide) only [gen0, gen1, gen2, rulesC, rulesX, rulesA, litR, bolR, Nat.reduceAdd, Nat.reduceLeDiff, numR, memR, valR, heapR, updR, intR, decR, extR, slR, segR, thenR, pnR, Int.reduceToNat, Int.reduceAdd, Int.reduceSub, Int.reduceLT, Int.reduceLE, Nat.reduceSub, Nat.reduceMul, Nat.reduceEqDiff]
  have G6 : ((w2.alloc (.cells (mkC r1 r2).toArray 79)).alloc (.map #[] 0)).heap[w2.heap.size]? = some (.cells (mkC r1 r2).toArray 79 (0, 0)) := by
    have h0 : (w2.alloc (.cells (mkC r1 r2).toArray 79)).heap[w2.heap.size]? = some (.cells (mkC r1 r2).toArray 79 (0, 0)) := alloc_at rfl
    exact (Ext.allocM (S := []) (es := #[]) (c := 0) Ext.refl).at h0 (by simp)
  have M3 : MapF ((w2.alloc (.cells (mkC r1 r2).toArray 79)).alloc (.map #[] 0)) (w2.heap.size + 1) sV bV (fun _ => none) := by
    have := MapF.make (w := w2.alloc (.cells (mkC r1 r2).toArray 79)) (kf := sV) (vf := bV)
    rwa [e1] at this
  simp (disch := first | assumption | omega | (simp only [szR, izC_len, izC_all, lnC_len, lnC_all, mkC_len, mkC_all] <;> omega) | rfl | decide) only [gen0, gen1, gen2, rulesC, rulesX, rulesA, litR, bolR, Nat.reduceAdd, Nat.reduceLeDiff, numR, memR, valR, heapR, updR, intR, decR, extR, slR, segR, thenR, pnR, Int.reduceToNat, Int.reduceAdd, Int.reduceSub, Int.reduceLT, Int.reduceLE, Nat.reduceSub, Nat.reduceMul, Nat.reduceEqDiff, z1, z2, hm]
  refine joinL.intro fun J0 hJ0 => ?_
  have hr1w := M1.lt
  have hr2w := M2.lt
  replace M1 := M1.ext hxb (by simp)
  replace M2 := M2.ext hxb (by simp)
  have hx12 := hx1.trans hx2 (by simp)
  have hxw := hx12.trans hxb (by simp)
  have hv5 := (hv.ext hx2 (by simp)).ext hxb (by simp)
  have hvlt : ∀ b, L.map lnC ≠ [] → blockOf v = some b → b < w2.heap.size := fun b h hb => (hv.ext hx2 (by simp)).blt h b hb
  have lr1 := hx1.size
  obtain ⟨r3, hr3⟩ : ∃ r3, r3 = w2.heap.size + 1 := ⟨_, rfl⟩
  obtain ⟨b6, hb6⟩ : ∃ b6, b6 = w2.heap.size := ⟨_, rfl⟩
  have ext2 := hx2.size
  rw [← hr3] at M3 ⊢
  rw [← hb6] at G6 ⊢
  clear hm hxb e1
  have hg5 : Gm ((w2.alloc (.cells (mkC r1 r2).toArray 79)).alloc (.map #[] 0)) := hg.ext hxw
  have hw0 : 0 < w.heap.size := hg.1
  generalize ((w2.alloc (.cells (mkC r1 r2).toArray 79)).alloc (.map #[] 0)) = w5 at *
  have lM3 := M3.lt
  have hdone : ∀ out v' w', asmGo st c.a c.t L (fun _ => false) [] = .ok out → RowsAt w' v' 1 (out.map wC) → (∀ b, blockOf v' = some b → w.heap.size ≤ b) → Ext [r3] w5 w' → J0 [.int .i64 0, v'] w' := by
    intro out v' w' he hv' hb' hx'
    rw [he] at hK
    apply hJ0
    intro _
    simp (disch := first | assumption | omega | (simp only [szR, izC_len, izC_all, lnC_len, lnC_all, mkC_len, mkC_all] <;> omega) | rfl | decide) only [gen0, gen1, gen2, rulesC, rulesX, rulesA, litR, bolR, Nat.reduceAdd, Nat.reduceLeDiff, numR, memR, valR, heapR, updR, intR, decR, extR, slR, segR, thenR, pnR, Int.reduceToNat, Int.reduceAdd, Int.reduceSub, Int.reduceLT, Int.reduceLE, Nat.reduceSub, Nat.reduceMul, Nat.reduceEqDiff, List.getD_cons_zero, List.getD_cons_succ]
    exact hK v' w' hv' (hxw.trans hx' (by intro k hk; simp at hk; omega)) hb'
  have hfail : ∀ (n : Nat) v' w', asmGo st c.a c.t L (fun _ => false) [] = .error n → 0 < n → n ≤ 1000000 → Ext [r3] w5 w' → J0 [.int .i64 (n : Nat), v'] w' := by
    intro n v' w' he h0 h1 hx'
    rw [he] at hK
    apply hJ0
    intro _
    simp (disch := first | assumption | omega | (simp only [szR, izC_len, izC_all, lnC_len, lnC_all, mkC_len, mkC_all] <;> omega) | rfl | decide) only [gen0, gen1, gen2, rulesC, rulesX, rulesA, litR, bolR, Nat.reduceAdd, Nat.reduceLeDiff, numR, memR, valR, heapR, updR, intR, decR, extR, slR, segR, thenR, pnR, Int.reduceToNat, Int.reduceAdd, Int.reduceSub, Int.reduceLT, Int.reduceLE, Nat.reduceSub, Nat.reduceMul, Nat.reduceEqDiff, List.getD_cons_zero, List.getD_cons_succ]
    exact hK w' (hxw.trans hx' (by intro k hk; simp at hk; omega))
  simp (disch := first | assumption | omega | (simp only [szR, izC_len, izC_all, lnC_len, lnC_all, mkC_len, mkC_all] <;> omega) | rfl | decide) only [gen0, gen1, gen2, rulesC, rulesX, rulesA, litR, bolR, Nat.reduceAdd, Nat.reduceLeDiff, numR, memR, valR, heapR, updR, intR, decR, extR, slR, segR, thenR, pnR, Int.reduceToNat, Int.reduceAdd, Int.reduceSub, Int.reduceLT, Int.reduceLE, Nat.reduceSub, Nat.reduceMul, Nat.reduceEqDiff, hlv]
  refine loopT.intro (fun ss w' => ∃ (k : Nat) (v' : Value) (met : List UInt8 → Bool) (f : List UInt8 → Option Bool) (out : List Nat), k ≤ L.length ∧ ss = [.int .i64 0, v', .int .i64 (k : Nat)] ∧ (∀ b, (f b).getD false = met b) ∧ MapF w' r3 sV bV f ∧ out.length ≤ 2 * k ∧ OwnR w' w5.heap.size 24 1 v' (out.map wC) ∧ asmGo st c.a c.t L (fun _ => false) [] = asmGo st c.a c.t (L.drop k) met out ∧ Ext [r3] w5 w')
    (fun st _ => match st with
      | [_, _, .int _ z] => L.length - z.toNat
      | _ => 0) ⟨0, _, _, _, [], Nat.zero_le _, rfl, fun b => rfl, M3, Nat.zero_le _, OwnR.nil, rfl, Ext.refl⟩ ?_
  rintro ss w6 ⟨k, v6, met, f, out, hk, rfl, hf, N3, hol, ho, hasm, hx6⟩ _
  by_cases h4 : k < L.length
  · obtain ⟨x, hx⟩ : ∃ x, L[k]? = some x := ⟨_, List.getElem?_eq_getElem h4⟩
    have hxm := List.mem_of_getElem? hx
    have hdrop : L.drop k = x :: L.drop (k + 1) := by
      obtain ⟨_, rfl⟩ := List.getElem?_eq_some_iff.1 hx
      exact List.drop_eq_getElem_cons h4
    rw [hdrop] at hasm
    have hrow : (L.map lnC)[k]? = some (lnC x) := by rw [List.getElem?_map, hx]; rfl
    have hv6 := hv5.at' hx6 (fun h b hb => by have := hvlt b h hb; simp; omega)
    obtain ⟨b0, o0, lb, E0, f0, hix, hb0, hfit, hblt, hbk, hsub, hget⟩ := RowsAt.ixR (P := Tryd.prog) (t := 75) Tryd.underlying75 Tryd.sizeOf84 hv6 hrow
    have hsb := hsub o0 rfl
    have q0 : (lnC x)[0]? = some (.int .i64 (x.n : Nat)) := rfl
    have q1 : (lnC x)[1]? = some (.string ⟨x.t.toArray⟩) := rfl
    have q2 : (lnC x)[2]? = some (.bool x.m) := rfl
    have hpx := hpos x hxm
    simp (disch := first | assumption | omega | (simp only [szR, izC_len, izC_all, lnC_len, lnC_all, mkC_len, mkC_all] <;> omega) | rfl | decide) only [gen0, gen1, gen2, rulesC, rulesX, rulesA, litR, bolR, Nat.reduceAdd, Nat.reduceLeDiff, numR, memR, valR, heapR, updR, intR, decR, extR, slR, segR, thenR, pnR, Int.reduceToNat, Int.reduceAdd, Int.reduceSub, Int.reduceLT, Int.reduceLE, Nat.reduceSub, Nat.reduceMul, Nat.reduceEqDiff, List.getD_cons_zero, List.getD_cons_succ]
    refine joinL.intro fun J4 hJ4 => ?_
    have ha : Ext [] w6 (w6.alloc (.cells (lnC x).toArray 84)) := Ext.alloc Ext.refl _ _
    have hbx : (w6.alloc (.cells (lnC x).toArray 84)).heap[w6.heap.size]? = some (.cells (lnC x).toArray 84 (0, 0)) := alloc_at rfl
    have hnext : ∀ v' met' f' out' w', (∀ b, (f' b).getD false = met' b) → MapF w' r3 sV bV f' → out'.length ≤ out.length + 2 → OwnR w' w5.heap.size 24 1 v' (out'.map wC) → asmGo st c.a c.t (x :: L.drop (k + 1)) met out = asmGo st c.a c.t (L.drop (k + 1)) met' out' → Ext [r3] w5 w' → J4 [.int .i64 0, v'] w' := by
      intro v' met' f' out' w' a1 a2 a3 a4 a5 a6
      apply hJ4
      intro _
      simp (disch := first | assumption | omega | (simp only [szR, izC_len, izC_all, lnC_len, lnC_all, mkC_len, mkC_all] <;> omega) | rfl | decide) only [gen0, gen1, gen2, rulesC, rulesX, rulesA, litR, bolR, Nat.reduceAdd, Nat.reduceLeDiff, numR, memR, valR, heapR, updR, intR, decR, extR, slR, segR, thenR, pnR, Int.reduceToNat, Int.reduceAdd, Int.reduceSub, Int.reduceLT, Int.reduceLE, Nat.reduceSub, Nat.reduceMul, Nat.reduceEqDiff, List.getD_cons_zero, List.getD_cons_succ]
      refine ⟨⟨k + 1, v', met', f', out', by omega, rfl, a1, a2, by omega, a4, by rw [hasm, a5], a6⟩, by first | omega | (simp <;> omega)⟩
    cases hm : x.m with
    | true =>
      have hgo1 : asmGo st c.a c.t (x :: L.drop (k + 1)) met out = if met x.t then .error x.n else asmGo st c.a c.t (L.drop (k + 1)) (fun b => if b = x.t then true else met b) out := by
        rw [asmGo, hm]
        rfl
      rw [hm] at q2
      have hzb : ∀ w, (zeroValue 4).run Tryd.prog w = .ok (bV false) w := fun w => by rw [Tryd.zeroValue4]; rfl
      have hlk : ∀ w, w = (w6.alloc (.cells (lnC x).toArray 84)) → (Instr.lookup 82 (.map (some r3)) (.string ⟨x.t.toArray⟩) false).run Tryd.prog w = .ok (.bool (met x.t)) w := fun w hw => by
        subst hw
        have := run_lookM Tryd.underlying82 keyS hzb (N3.ext ha (by simp)) x.t false
        rw [show (Value.string ⟨x.t.toArray⟩) = sV x.t from rfl, this, ← hf x.t]
        cases f x.t <;> rfl
      have hlk6 := hlk _ rfl
      cases hmet : met x.t with
      | true =>
        rw [hmet] at hgo1 hlk6
        simp (disch := first | assumption | omega | (simp only [szR, izC_len, izC_all, lnC_len, lnC_all, mkC_len, mkC_all] <;> omega) | rfl | decide) only [gen0, gen1, gen2, rulesC, rulesX, rulesA, litR, bolR, Nat.reduceAdd, Nat.reduceLeDiff, numR, memR, valR, heapR, updR, intR, decR, extR, slR, segR, thenR, pnR, Int.reduceToNat, Int.reduceAdd, Int.reduceSub, Int.reduceLT, Int.reduceLE, Nat.reduceSub, Nat.reduceMul, Nat.reduceEqDiff, joinBR, hix, hb0, hsb, ln_over, ln_put, q0, q1, q2, hlk6, List.getD_cons_zero, List.getD_cons_succ]
        exact hfail x.n v6 _ (hasm.trans hgo1) hpx.1 hpx.2 (hx6.trans ha (by simp))
      | false =>
        rw [hmet] at hgo1 hlk6
        simp (disch := first | assumption | omega | (simp only [szR, izC_len, izC_all, lnC_len, lnC_all, mkC_len, mkC_all] <;> omega) | rfl | decide) only [gen0, gen1, gen2, rulesC, rulesX, rulesA, litR, bolR, Nat.reduceAdd, Nat.reduceLeDiff, numR, memR, valR, heapR, updR, intR, decR, extR, slR, segR, thenR, pnR, Int.reduceToNat, Int.reduceAdd, Int.reduceSub, Int.reduceLT, Int.reduceLE, Nat.reduceSub, Nat.reduceMul, Nat.reduceEqDiff, joinBR, hix, hb0, hsb, ln_over, ln_put, q0, q1, q2, hlk6, List.getD_cons_zero, List.getD_cons_succ]
        refine run_updM Tryd.underlying82 keyS (N3.ext ha (by simp)) x.t true fun w7 U hx7 => ?_
        simp (disch := first | assumption | omega | (simp only [szR, izC_len, izC_all, lnC_len, lnC_all, mkC_len, mkC_all] <;> omega) | rfl | decide) only [gen0, gen1, gen2, rulesC, rulesX, rulesA, litR, bolR, Nat.reduceAdd, Nat.reduceLeDiff, numR, memR, valR, heapR, updR, intR, decR, extR, slR, segR, thenR, pnR, Int.reduceToNat, Int.reduceAdd, Int.reduceSub, Int.reduceLT, Int.reduceLE, Nat.reduceSub, Nat.reduceMul, Nat.reduceEqDiff, joinBR, List.getD_cons_zero, List.getD_cons_succ]
        refine hnext v6 _ _ out w7 (fun b => ?_) U (by omega) ((ho.ext ha (by simp)).ext hx7 (fun b hb => ?_)) hgo1 ((hx6.trans ha (by simp)).trans hx7 (fun k hk => .inl hk))
        · by_cases hbx : b = x.t
          · simp [hbx]
          · simp only [if_neg hbx]
            exact hf b
        · have := ho.block b hb
          simp
          omega
    | false =>
      have hgo1 : asmGo st c.a c.t (x :: L.drop (k + 1)) met out = match innerF c.a c.t (st x.t) out with | some out' => asmGo st c.a c.t (L.drop (k + 1)) met out' | none => .error x.n := by
        rw [asmGo, hm]
        rfl
      obtain ⟨hokx, hlx⟩ := hok x hxm hm
      have hl2 := hst x.t
      rw [hm] at q2
      simp (disch := first | assumption | omega | (simp only [szR, izC_len, izC_all, lnC_len, lnC_all, mkC_len, mkC_all] <;> omega) | rfl | decide) only [gen0, gen1, gen2, rulesC, rulesX, rulesA, litR, bolR, Nat.reduceAdd, Nat.reduceLeDiff, numR, memR, valR, heapR, updR, intR, decR, extR, slR, segR, thenR, pnR, Int.reduceToNat, Int.reduceAdd, Int.reduceSub, Int.reduceLT, Int.reduceLE, Nat.reduceSub, Nat.reduceMul, Nat.reduceEqDiff, joinBR, hix, hb0, hsb, ln_over, ln_put, q0, q1, q2, List.getD_cons_zero, List.getD_cons_succ]
      have hg6 : Gm w6 := GmX hg5 hx6 (by simp; omega)
      refine hokx _ _ (hg6.ext ha) fun v40 w7 hv40 hx7 hb40 => ?_
      have hl3 := hv40.lenR (ty := 3) Tryd.underlying38
      rw [List.length_map] at hl3
      have hbx7 := hx7.at hbx (by simp)
      have hx67 := ha.trans hx7 (by simp)
      obtain ⟨b12, hb12⟩ : ∃ b12, b12 = w6.heap.size := ⟨_, rfl⟩
      have hsz6 : (w6.alloc (.cells (lnC x).toArray 84)).heap.size = w6.heap.size + 1 := by simp (disch := first | assumption | omega | (simp only [szR, izC_len, izC_all, lnC_len, lnC_all, mkC_len, mkC_all] <;> omega) | rfl | decide) only [gen0, gen1, gen2, rulesC, rulesX, rulesA, litR, bolR, Nat.reduceAdd, Nat.reduceLeDiff, numR, memR, valR, heapR, updR, intR, decR, extR, slR, segR, thenR, pnR, Int.reduceToNat, Int.reduceAdd, Int.reduceSub, Int.reduceLT, Int.reduceLE, Nat.reduceSub, Nat.reduceMul, Nat.reduceEqDiff]
      rw [hsz6, ← hb12] at hb40
      rw [← hb12] at hbx7 ⊢
      generalize st x.t = l at *
      simp (disch := first | assumption | omega | (simp only [szR, izC_len, izC_all, lnC_len, lnC_all, mkC_len, mkC_all] <;> omega) | rfl | decide) only [gen0, gen1, gen2, rulesC, rulesX, rulesA, litR, bolR, Nat.reduceAdd, Nat.reduceLeDiff, numR, memR, valR, heapR, updR, intR, decR, extR, slR, segR, thenR, pnR, Int.reduceToNat, Int.reduceAdd, Int.reduceSub, Int.reduceLT, Int.reduceLE, Nat.reduceSub, Nat.reduceMul, Nat.reduceEqDiff, hl3]
      refine loopT.intro (fun ss w' => ∃ (j : Nat) (v' : Value) (out' : List Nat), j ≤ l.length ∧ ss = [.int .i64 0, v', .int .i64 (j : Nat)] ∧ out'.length = out.length + j ∧ OwnR w' w5.heap.size 24 1 v' (out'.map wC) ∧ innerF c.a c.t l out = innerF c.a c.t (l.drop j) out' ∧ Ext [r3] w5 w' ∧ RowsAt w' v40 1 (l.map sC) ∧ w'.heap[b12]? = some (.cells (lnC x).toArray 84 (0, 0)) ∧ (∀ b, blockOf v' = some b → b ≠ b12 ∧ blockOf v40 ≠ some b) ∧ MapF w' r3 sV bV f)
        (fun st _ => match st with
          | [_, _, .int _ z] => l.length - z.toNat
          | _ => 0) ⟨0, v6, out, Nat.zero_le _, by simp, rfl, ho.ext hx67 (by simp), rfl, hx6.trans hx67 (by simp), hv40, hbx7, fun b hb => ?_, N3.ext hx67 (by simp)⟩ ?_
      · have q := ho.blt b hb
        refine ⟨by omega, fun h => ?_⟩
        have := hb40 b h
        omega
      rintro ss w8 ⟨j, v8, out8, hj, rfl, hl8, ho8, hin8, hx8, hv8, hbx8, hbl8, N8⟩ _
      by_cases h5 : j < l.length
      · obtain ⟨y, hy⟩ : ∃ y, l[j]? = some y := ⟨_, List.getElem?_eq_getElem h5⟩
        have hyl := hlx y (List.mem_of_getElem? hy)
        have hdrop2 : l.drop j = y :: l.drop (j + 1) := by
          obtain ⟨_, rfl⟩ := List.getElem?_eq_some_iff.1 hy
          exact List.drop_eq_getElem_cons h5
        rw [hdrop2, innerF] at hin8
        have hrow2 : (l.map sC)[j]? = some (sC y) := by rw [List.getElem?_map, hy]; rfl
        obtain ⟨b1, o1, lb1, E1, f1, hix1, hb1, hfit1, hblt1, hbk1, hsub1, hget1⟩ := RowsAt.ixR (P := Tryd.prog) (t := 38) Tryd.underlying38 Tryd.sizeOf9 hv8 hrow2
        have hc1 : lb1[o1]? = some (.string ⟨y.toArray⟩) := by simpa [sC] using hget1 (o1 + 0) 0 rfl (by omega)
        have G68 := hx8.at G6 (by simp; omega)
        have l68 := lt_of_at G68
        have lbx8 := lt_of_at hbx8
        have hlo8 := ho8.rows.lenR (ty := 3) Tryd.underlying23
        rw [List.length_map] at hlo8
        have hg8 : Gm w8 := GmX hg5 hx8 (by simp; omega)
        have K1 := M1.ext hx8 (by simp; omega)
        have K2 := M2.ext hx8 (by simp; omega)
        have htl := toldF_len c.a c.t y out8.length
        simp (disch := first | assumption | omega | (simp only [szR, izC_len, izC_all, lnC_len, lnC_all, mkC_len, mkC_all] <;> omega) | rfl | decide) only [gen0, gen1, gen2, rulesC, rulesX, rulesA, litR, bolR, Nat.reduceAdd, Nat.reduceLeDiff, numR, memR, valR, heapR, updR, intR, decR, extR, slR, segR, thenR, pnR, Int.reduceToNat, Int.reduceAdd, Int.reduceSub, Int.reduceLT, Int.reduceLE, Nat.reduceSub, Nat.reduceMul, Nat.reduceEqDiff, List.getD_cons_zero, List.getD_cons_succ, hix1, hb1, hc1, G68, mkC_sub, hlo8]
        refine told_spec hg8 K1 K2 (fun b a h => by have := hA b a h; omega) hyl (by omega) fun w9 hx9 => ?_
        refine Parse_spec (hg8.ext hx9) (by omega) fun w10 hx10 => ?_
        have hpok := parseF_ok (toldF c.a c.t y out8.length)
        generalize parseF (toldF c.a c.t y out8.length) = pf at *
        have zz1 := iz_over
        have zz2 := iz_put
        rw [show izC izZ = [.int .i64 0, .int .i64 0, .int .i64 0, .int .i64 0, .int .i64 0] from rfl] at zz1 zz2
        simp (disch := first | assumption | omega | (simp only [szR, izC_len, izC_all, lnC_len, lnC_all, mkC_len, mkC_all] <;> omega) | rfl | decide) only [gen0, gen1, gen2, rulesC, rulesX, rulesA, litR, bolR, Nat.reduceAdd, Nat.reduceLeDiff, numR, memR, valR, heapR, updR, intR, decR, extR, slR, segR, thenR, pnR, Int.reduceToNat, Int.reduceAdd, Int.reduceSub, Int.reduceLT, Int.reduceLE, Nat.reduceSub, Nat.reduceMul, Nat.reduceEqDiff, zz1, zz2, izC_sub]
        refine Encode_spec hpok fun w11 hx11 => ?_
        have hxe : Ext [] w10 (w10.alloc (.cells (izC pf.1).toArray 28)) := Ext.alloc Ext.refl _ _
        have hx811 := ((hx9.trans hx10 (by simp)).trans hxe (by simp)).trans hx11 (by simp)
        have hbx11 := hx811.at hbx8 (by simp)
        have lbx11 := lt_of_at hbx11
        cases hpo : (pf.2 && encOk pf.1) with
        | false =>
          rw [hpo] at hin8
          rw [hin8] at hgo1
          have hfl : J0 [.int .i64 (x.n : Nat), v8] w11 := hfail x.n v8 w11 (hasm.trans hgo1) hpx.1 hpx.2 (hx8.trans hx811 (by simp))
          cases hp2 : pf.2 with
          | false =>
            simp (disch := first | assumption | omega | (simp only [szR, izC_len, izC_all, lnC_len, lnC_all, mkC_len, mkC_all] <;> omega) | rfl | decide) only [gen0, gen1, gen2, rulesC, rulesX, rulesA, litR, bolR, Nat.reduceAdd, Nat.reduceLeDiff, numR, memR, valR, heapR, updR, intR, decR, extR, slR, segR, thenR, pnR, Int.reduceToNat, Int.reduceAdd, Int.reduceSub, Int.reduceLT, Int.reduceLE, Nat.reduceSub, Nat.reduceMul, Nat.reduceEqDiff, joinBR, hbx11, q0, List.getD_cons_zero, List.getD_cons_succ]
            exact hfl
          | true =>
            rw [hp2, Bool.true_and] at hpo
            simp (disch := first | assumption | omega | (simp only [szR, izC_len, izC_all, lnC_len, lnC_all, mkC_len, mkC_all] <;> omega) | rfl | decide) only [gen0, gen1, gen2, rulesC, rulesX, rulesA, litR, bolR, Nat.reduceAdd, Nat.reduceLeDiff, numR, memR, valR, heapR, updR, intR, decR, extR, slR, segR, thenR, pnR, Int.reduceToNat, Int.reduceAdd, Int.reduceSub, Int.reduceLT, Int.reduceLE, Nat.reduceSub, Nat.reduceMul, Nat.reduceEqDiff, joinBR, hpo, hbx11, q0, List.getD_cons_zero, List.getD_cons_succ]
            exact hfl
        | true =>
          rw [hpo] at hin8
          rw [Bool.and_eq_true] at hpo
          obtain ⟨hp2, hp1⟩ := hpo
          simp (disch := first | assumption | omega | (simp only [szR, izC_len, izC_all, lnC_len, lnC_all, mkC_len, mkC_all] <;> omega) | rfl | decide) only [gen0, gen1, gen2, rulesC, rulesX, rulesA, litR, bolR, Nat.reduceAdd, Nat.reduceLeDiff, numR, memR, valR, heapR, updR, intR, decR, extR, slR, segR, thenR, pnR, Int.reduceToNat, Int.reduceAdd, Int.reduceSub, Int.reduceLT, Int.reduceLE, Nat.reduceSub, Nat.reduceMul, Nat.reduceEqDiff, joinBR, hp1, hp2, List.getD_cons_zero, List.getD_cons_succ]
          have hxs : Ext [] w11 (w11.alloc (.cells (wC (encR pf.1)).toArray 24)) := Ext.alloc Ext.refl _ _
          have hxs8 := hx811.trans hxs (by simp)
          refine appU2 (k := encR pf.1) (ho8.ext hxs8 (by simp)) (alloc_at rfl) (by simp; omega) (by have := hx8.size; have := hxs8.size; omega) fun v12 w12 ho12 ha12 hbl12 => ?_
          rw [show out8.map wC ++ [wC (encR pf.1)] = (out8 ++ [encR pf.1]).map wC by simp] at ho12
          have hx12 := ha12.ext w5 [r3] (Nat.le_refl _) (hx8.trans hxs8 (by simp))
          have hsz8 := hxs8.size
          have lbx8' := lt_of_at hbx8
          simp (disch := first | assumption | omega | (simp only [szR, izC_len, izC_all, lnC_len, lnC_all, mkC_len, mkC_all] <;> omega) | rfl | decide) only [gen0, gen1, gen2, rulesC, rulesX, rulesA, litR, bolR, Nat.reduceAdd, Nat.reduceLeDiff, numR, memR, valR, heapR, updR, intR, decR, extR, slR, segR, thenR, pnR, Int.reduceToNat, Int.reduceAdd, Int.reduceSub, Int.reduceLT, Int.reduceLE, Nat.reduceSub, Nat.reduceMul, Nat.reduceEqDiff, List.getD_cons_zero, List.getD_cons_succ]
          refine ⟨⟨j + 1, v12, out8 ++ [encR pf.1], by omega, rfl, by simp; omega, ho12, hin8, hx12, (hv8.ext hxs8 (by simp)).at' ha12.step (fun h b hb => ?_), (ha12.kept b12 (by omega) (fun e => (hbl8 b12 e).1 rfl)).trans (hxs8.at hbx8 (by simp)), fun b hb => ?_, (N8.ext hxs8 (by simp)).ext ha12.step (fun h => ?_)⟩, by first | omega | (simp <;> omega)⟩
          · intro hbb
            rw [Option.mem_toList] at hbb
            exact (hbl8 b hbb).2 hb
          · rcases hbl12 b hb with h | h
            · exact hbl8 b h
            · have q2 : ∀ b', blockOf v40 = some b' → b' < w8.heap.size := fun b' hb' => hv8.blt (fun h => by rw [List.map_eq_nil_iff] at h; rw [h] at h5; exact absurd h5 (by simp)) b' hb'
              refine ⟨by omega, fun h' => ?_⟩
              have := q2 b h'
              omega
          · rw [Option.mem_toList] at h
            have := ho8.block r3 h
            omega
      · obtain rfl : j = l.length := by omega
        rw [List.drop_length, innerF] at hin8
        rw [hin8] at hgo1
        simp (disch := first | assumption | omega | (simp only [szR, izC_len, izC_all, lnC_len, lnC_all, mkC_len, mkC_all] <;> omega) | rfl | decide) only [gen0, gen1, gen2, rulesC, rulesX, rulesA, litR, bolR, Nat.reduceAdd, Nat.reduceLeDiff, numR, memR, valR, heapR, updR, intR, decR, extR, slR, segR, thenR, pnR, Int.reduceToNat, Int.reduceAdd, Int.reduceSub, Int.reduceLT, Int.reduceLE, Nat.reduceSub, Nat.reduceMul, Nat.reduceEqDiff, List.getD_cons_zero, List.getD_cons_succ]
        exact hnext v8 met f out8 w8 hf N8 (by omega) ho8 hgo1 hx8
  · obtain rfl : k = L.length := by omega
    rw [List.drop_length] at hasm
    simp (disch := first | assumption | omega | (simp only [szR, izC_len, izC_all, lnC_len, lnC_all, mkC_len, mkC_all] <;> omega) | rfl | decide) only [gen0, gen1, gen2, rulesC, rulesX, rulesA, litR, bolR, Nat.reduceAdd, Nat.reduceLeDiff, numR, memR, valR, heapR, updR, intR, decR, extR, slR, segR, thenR, pnR, Int.reduceToNat, Int.reduceAdd, Int.reduceSub, Int.reduceLT, Int.reduceLE, Nat.reduceSub, Nat.reduceMul, Nat.reduceEqDiff, List.getD_cons_zero, List.getD_cons_succ]
    exact hdone out v6 w6 hasm ho.rows (fun b hb => by have := ho.block b hb; have := hxw.size; omega) hx6
end Go.Proofs.YtobkjnmdbkieeaaDoor
