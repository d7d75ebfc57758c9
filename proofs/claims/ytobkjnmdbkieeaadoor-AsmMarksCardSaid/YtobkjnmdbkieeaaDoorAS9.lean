/- A text's lines; conditions: those of each theorem. -/
import Derived.Test.YtobkjnmdbkieeaaDoorAS8
namespace Go.Proofs.YtobkjnmdbkieeaaDoor
open Go.Fx
set_option maxRecDepth 100000
set_option linter.unusedSimpArgs false
set_option linter.unusedVariables false
/-- a line that is something. -/
structure Ln where
  n : Nat
  t : List UInt8
  m : Bool
def lnC (x : Ln) : List Value := [.int .i64 (x.n : Nat), .string ⟨x.t.toArray⟩, .bool x.m]
theorem lnC_len (x : Ln) : (lnC x).length = 3 := by simp [lnC]
theorem lnC_all (x : Ln) : (lnC x).all (fun v => v.oneCell') = true := by simp [lnC]; exact ⟨rfl, rfl, rfl⟩
theorem lnCs_all (l : List Ln) : ∀ r ∈ l.map lnC, r.all (fun v => v.oneCell') = true := by
  intro r hr
  obtain ⟨x, -, rfl⟩ := List.mem_map.1 hr
  exact lnC_all x
def lineF (k : Nat) (l : List UInt8) : Option Ln :=
  let t := Lib.trimLeftB l 32
  if t = [] ∨ Lib.hasPrefix t [35] = true then none else if Lib.hasSuffix t [58] && namedF (Lib.trimSuffix t [58]) then some ⟨k, Lib.trimSuffix t [58], true⟩ else some ⟨k, t, false⟩
def linesFrom : Nat → List (List UInt8) → List Ln
  | _, [] => []
  | k, l :: r => (lineF (k + 1) l).toList ++ linesFrom (k + 1) r
theorem linesFrom_app : ∀ (a b : List (List UInt8)) (k : Nat), linesFrom k (a ++ b) = linesFrom k a ++ linesFrom (k + a.length) b
  | [], b, k => by simp [linesFrom]
  | x :: a, b, k => by
    rw [List.cons_append, linesFrom, linesFrom, linesFrom_app a b (k + 1), List.append_assoc, List.length_cons]
    rw [show k + 1 + a.length = k + (a.length + 1) by omega]
theorem linesFrom_len : ∀ (a : List (List UInt8)) (k : Nat), (linesFrom k a).length ≤ a.length
  | [], _ => Nat.le_refl _
  | x :: a, k => by
    have := linesFrom_len a (k + 1)
    rw [linesFrom, List.length_append, List.length_cons]
    have : (lineF (k + 1) x).toList.length ≤ 1 := by cases lineF (k + 1) x <;> simp
    omega
theorem appLn {base : Nat} {v x : Value} {rows rows2 : List (List Value)} {w : World} {K : Value → World → Prop} (hown : OwnR w base 84 3 v rows) (hx : RowsAt w x 3 rows2) (h1 : ∀ r ∈ rows2, r.all (fun v => v.oneCell') = true)
    (hl : rows.length + rows2.length ≤ 1000000) (hbase : base ≤ w.heap.size) (hK : ∀ v' w', OwnR w' base 84 3 v' (rows ++ rows2) → App base v w w' → K v' w') : resV K ((Builtin.append_ #[75, 75] 75 #[v, x]).run Tryd.prog w) :=
  kV_appR Tryd.underlying75 (by kernel_rfl) (by omega) (bytes := 32) hown hx h1 (by simp only [maxLen]; omega) (by omega) hbase hK
theorem trimB_len (l : List UInt8) : (Lib.trimLeftB l 32).length ≤ l.length := by
  unfold Lib.trimLeftB
  exact (List.dropWhile_sublist _).length_le
theorem trimSuf_len (s p : List UInt8) : (Lib.trimSuffix s p).length ≤ s.length := by
  unfold Lib.trimSuffix
  split
  · simp
  · exact Nat.le_refl _
theorem lines_spec {w : World} {s : List UInt8} (hg : Gm w) (hs : s.length ≤ 20000) {K : Value → World → Prop} (hK : ∀ v w', RowsAt w' v 3 ((linesFrom 0 (Lib.split s [10])).map lnC) → Ext [] w w' → (∀ b, blockOf v = some b → w.heap.size ≤ b) → K v w') : callsK Tryd.prog 32 #[.string ⟨s.toArray⟩] w K := by
  apply F32_ok
  unfold F32
  have hsl : ∀ x ∈ Lib.split s [10], x.length ≤ s.length := splitK_len _ _ _ _ (Nat.le_refl _)
  have hcn : (Lib.split s [10]).length ≤ s.length + 1 := by
    have hd := Lib.splitB_data ⟨#[10]⟩ 0 (Lib.countB ⟨s.toArray⟩ ⟨#[10]⟩) ⟨s.toArray⟩
    have hlen := Lib.splitB_all ⟨#[10]⟩ (Nat.le_refl 1) 0 (Lib.countB ⟨s.toArray⟩ ⟨#[10]⟩) ⟨s.toArray⟩ rfl
    have hc := Lib.countB_le ⟨#[10]⟩ (Nat.le_refl 1) s.length ⟨s.toArray⟩ (by rw [size_mk]; exact Nat.le_refl _)
    rw [size_mk] at hc
    have e2 : Lib.split s [10] = (Lib.splitB ⟨#[10]⟩ 0 (Lib.countB ⟨s.toArray⟩ ⟨#[10]⟩) ⟨s.toArray⟩).map (·.data.toList) := by rw [hd]; rfl
    rw [e2, List.length_map, hlen]
    omega
  refine Split_spec (s := s) (p := [10]) hg (by omega) (by simp) fun v w1 hv hx1 hvb => ?_
  generalize Lib.split s [10] = ls at *
  have hlv := hv.lenR (ty := 3) Tryd.underlying38
  rw [List.length_map] at hlv
  simp (disch := first | assumption | omega | (simp only [szR, izC_len, izC_all, lnC_len, lnC_all] <;> omega) | rfl | decide) only [gen0, gen1, gen2, rulesC, rulesX, rulesA, litR, bolR, Nat.reduceAdd, Nat.reduceLeDiff, numR, memR, valR, heapR, updR, intR, decR, extR, slR, segR, thenR, pnR, Int.reduceToNat, Int.reduceAdd, Int.reduceSub, Int.reduceLT, Int.reduceLE, Nat.reduceSub, Nat.reduceMul, Nat.reduceEqDiff, hlv]
  refine loopT.intro (fun st w' => ∃ (k : Nat) (o : Value), k ≤ ls.length ∧ st = [o, .int .i64 (k : Nat)] ∧ OwnR w' w1.heap.size 84 3 o ((linesFrom 0 (ls.take k)).map lnC) ∧ Ext [] w1 w')
    (fun st _ => match st with
      | [_, .int _ z] => ls.length - z.toNat
      | _ => 0) ⟨0, _, Nat.zero_le _, rfl, OwnR.nil, Ext.refl⟩ ?_
  rintro st w2 ⟨k, o, hk, rfl, ho, hx2⟩ _
  have hll := linesFrom_len (ls.take k) 0
  rw [List.length_take] at hll
  by_cases h4 : k < ls.length
  · obtain ⟨x, hx⟩ : ∃ x, ls[k]? = some x := ⟨_, List.getElem?_eq_getElem h4⟩
    have hxl := hsl x (List.mem_of_getElem? hx)
    have hrow : (ls.map sC)[k]? = some (sC x) := by rw [List.getElem?_map, hx]; rfl
    have hv2 := hv.ext hx2 (by simp)
    obtain ⟨b0, o0, lb, E0, f0, hix, hb0, hfit, hblt, hbk, hsub, hget⟩ := RowsAt.ixR (P := Tryd.prog) (t := 38) Tryd.underlying38 Tryd.sizeOf9 hv2 hrow
    have hc0 : lb[o0]? = some (.string ⟨x.toArray⟩) := by simpa [sC] using hget (o0 + 0) 0 rfl (by omega)
    have hnx : linesFrom 0 (ls.take (k + 1)) = linesFrom 0 (ls.take k) ++ (lineF (k + 1) x).toList := by
      rw [List.take_add_one, hx, linesFrom_app, List.length_take, Nat.min_eq_left hk, Nat.zero_add]
      rw [Option.toList, linesFrom, linesFrom, List.append_nil]
    have hlf : lineF (k + 1) x = if Lib.trimLeftB x 32 = [] ∨ Lib.hasPrefix (Lib.trimLeftB x 32) [35] = true then none else if Lib.hasSuffix (Lib.trimLeftB x 32) [58] && namedF (Lib.trimSuffix (Lib.trimLeftB x 32) [58]) then some ⟨k + 1, Lib.trimSuffix (Lib.trimLeftB x 32) [58], true⟩ else some ⟨k + 1, Lib.trimLeftB x 32, false⟩ := rfl
    generalize hr : lineF (k + 1) x = r at *
    have htl := trimB_len x
    simp (disch := first | assumption | omega | (simp only [szR, izC_len, izC_all, lnC_len, lnC_all] <;> omega) | rfl | decide) only [gen0, gen1, gen2, rulesC, rulesX, rulesA, litR, bolR, Nat.reduceAdd, Nat.reduceLeDiff, numR, memR, valR, heapR, updR, intR, decR, extR, slR, segR, thenR, pnR, Int.reduceToNat, Int.reduceAdd, Int.reduceSub, Int.reduceLT, Int.reduceLE, Nat.reduceSub, Nat.reduceMul, Nat.reduceEqDiff, List.getD_cons_zero, List.getD_cons_succ]
    refine joinL.intro fun J2 hJ2 => ?_
    simp (disch := first | assumption | omega | (simp only [szR, izC_len, izC_all, lnC_len, lnC_all] <;> omega) | rfl | decide) only [gen0, gen1, gen2, rulesC, rulesX, rulesA, litR, bolR, Nat.reduceAdd, Nat.reduceLeDiff, numR, memR, valR, heapR, updR, intR, decR, extR, slR, segR, thenR, pnR, Int.reduceToNat, Int.reduceAdd, Int.reduceSub, Int.reduceLT, Int.reduceLE, Nat.reduceSub, Nat.reduceMul, Nat.reduceEqDiff, hix, hb0, hc0]
    refine TrimLeft_spec (s := x) (c := 32) (by decide) ?_
    have hskip : r = none → J2 [o] w2 := by
      intro hn
      rw [hn, Option.toList, List.append_nil] at hnx
      apply hJ2
      intro _
      simp (disch := first | assumption | omega | (simp only [szR, izC_len, izC_all, lnC_len, lnC_all] <;> omega) | rfl | decide) only [gen0, gen1, gen2, rulesC, rulesX, rulesA, litR, bolR, Nat.reduceAdd, Nat.reduceLeDiff, numR, memR, valR, heapR, updR, intR, decR, extR, slR, segR, thenR, pnR, Int.reduceToNat, Int.reduceAdd, Int.reduceSub, Int.reduceLT, Int.reduceLE, Nat.reduceSub, Nat.reduceMul, Nat.reduceEqDiff, List.getD_cons_zero, List.getD_cons_succ]
      exact ⟨⟨k + 1, o, by omega, rfl, by rw [hnx]; exact ho, hx2⟩, by first | omega | (simp <;> omega)⟩
    have htsl := trimSuf_len (Lib.trimLeftB x 32) [58]
    generalize Lib.trimLeftB x 32 = t at *
    have hE := eqlS t []
    by_cases h0 : t = []
    · rw [if_pos (.inl h0)] at hlf
      simp (disch := first | assumption | omega | (simp only [szR, izC_len, izC_all, lnC_len, lnC_all] <;> omega) | rfl | decide) only [gen0, gen1, gen2, rulesC, rulesX, rulesA, litR, bolR, Nat.reduceAdd, Nat.reduceLeDiff, numR, memR, valR, heapR, updR, intR, decR, extR, slR, segR, thenR, pnR, Int.reduceToNat, Int.reduceAdd, Int.reduceSub, Int.reduceLT, Int.reduceLE, Nat.reduceSub, Nat.reduceMul, Nat.reduceEqDiff, joinBR, hE, decide_eq_true h0]
      exact hskip hlf
    have hd0 := decide_eq_false h0
    have hbl : ∀ (n : Int) (t : ByteArray) (m : Bool) w, (Instr.build 84 #[(0, .int .i64 n), (1, .string t), (2, .bool m)]).run Tryd.prog w = .ok (.agg [.int .i64 n, .string t, .bool m].toArray) w := fun n t m w => run_build w 84 _ _ (by kernel_rfl)
    simp (disch := first | assumption | omega | (simp only [szR, izC_len, izC_all, lnC_len, lnC_all] <;> omega) | rfl | decide) only [gen0, gen1, gen2, rulesC, rulesX, rulesA, litR, bolR, Nat.reduceAdd, Nat.reduceLeDiff, numR, memR, valR, heapR, updR, intR, decR, extR, slR, segR, thenR, pnR, Int.reduceToNat, Int.reduceAdd, Int.reduceSub, Int.reduceLT, Int.reduceLE, Nat.reduceSub, Nat.reduceMul, Nat.reduceEqDiff, joinBR, hE, hd0]
    refine HasPrefix_spec (s := t) (p := [35]) ?_
    cases hp : Lib.hasPrefix t [35] with
    | true =>
      rw [if_pos (.inr hp)] at hlf
      simp (disch := first | assumption | omega | (simp only [szR, izC_len, izC_all, lnC_len, lnC_all] <;> omega) | rfl | decide) only [gen0, gen1, gen2, rulesC, rulesX, rulesA, litR, bolR, Nat.reduceAdd, Nat.reduceLeDiff, numR, memR, valR, heapR, updR, intR, decR, extR, slR, segR, thenR, pnR, Int.reduceToNat, Int.reduceAdd, Int.reduceSub, Int.reduceLT, Int.reduceLE, Nat.reduceSub, Nat.reduceMul, Nat.reduceEqDiff, joinBR]
      exact hskip hlf
    | false =>
      rw [if_neg (by rw [hp]; simp [h0])] at hlf
      simp (disch := first | assumption | omega | (simp only [szR, izC_len, izC_all, lnC_len, lnC_all] <;> omega) | rfl | decide) only [gen0, gen1, gen2, rulesC, rulesX, rulesA, litR, bolR, Nat.reduceAdd, Nat.reduceLeDiff, numR, memR, valR, heapR, updR, intR, decR, extR, slR, segR, thenR, pnR, Int.reduceToNat, Int.reduceAdd, Int.reduceSub, Int.reduceLT, Int.reduceLE, Nat.reduceSub, Nat.reduceMul, Nat.reduceEqDiff, joinBR]
      refine CutSuffix_spec (s := t) (p := [58]) (by omega) ?_
      simp (disch := first | assumption | omega | (simp only [szR, izC_len, izC_all, lnC_len, lnC_all] <;> omega) | rfl | decide) only [gen0, gen1, gen2, rulesC, rulesX, rulesA, litR, bolR, Nat.reduceAdd, Nat.reduceLeDiff, numR, memR, valR, heapR, updR, intR, decR, extR, slR, segR, thenR, pnR, Int.reduceToNat, Int.reduceAdd, Int.reduceSub, Int.reduceLT, Int.reduceLE, Nat.reduceSub, Nat.reduceMul, Nat.reduceEqDiff]
      refine joinL.intro fun J5 hJ5 => ?_
      have hpush : ∀ (t' : List UInt8) (m : Bool), r = some ⟨k + 1, t', m⟩ → J5 [.bool m, .string ⟨t'.toArray⟩] w2 := by
        intro t' m he
        rw [he, Option.toList] at hnx
        apply hJ5
        intro _
        have hag : ∀ w, (Instr.build 84 #[(0, .int .i64 ((k : Nat) + 1 : Int)), (1, .string ⟨t'.toArray⟩), (2, .bool m)]).run Tryd.prog w = .ok (.agg (lnC ⟨k + 1, t', m⟩).toArray) w := fun w => hbl _ _ _ w
        simp (disch := first | assumption | omega | (simp only [szR, izC_len, izC_all, lnC_len, lnC_all] <;> omega) | rfl | decide) only [gen0, gen1, gen2, rulesC, rulesX, rulesA, litR, bolR, Nat.reduceAdd, Nat.reduceLeDiff, numR, memR, valR, heapR, updR, intR, decR, extR, slR, segR, thenR, pnR, Int.reduceToNat, Int.reduceAdd, Int.reduceSub, Int.reduceLT, Int.reduceLE, Nat.reduceSub, Nat.reduceMul, Nat.reduceEqDiff, List.getD_cons_zero, List.getD_cons_succ, hag]
        have hxb : Ext [] w2 (w2.alloc (.cells (lnC ⟨k + 1, t', m⟩).toArray 84)) := Ext.alloc Ext.refl _ _
        refine appLn (rows2 := [lnC ⟨k + 1, t', m⟩]) (ho.ext hxb (by simp)) (OwnR.fresh (base := 0) rfl (lnC_all _) (Nat.zero_le _)).rows (by intro r hr; simp at hr; subst hr; exact lnC_all _) (by simp; omega) (by have := hx2.size; have := hxb.size; omega) fun v8 w4 ho8 ha => ?_
        rw [show (linesFrom 0 (ls.take k)).map lnC ++ [lnC ⟨k + 1, t', m⟩] = (linesFrom 0 (ls.take (k + 1))).map lnC by rw [hnx]; simp] at ho8
        have hx8 := ha.ext w1 [] (Nat.le_refl _) (hx2.trans hxb (by simp))
        apply hJ2
        intro _
        simp (disch := first | assumption | omega | (simp only [szR, izC_len, izC_all, lnC_len, lnC_all] <;> omega) | rfl | decide) only [gen0, gen1, gen2, rulesC, rulesX, rulesA, litR, bolR, Nat.reduceAdd, Nat.reduceLeDiff, numR, memR, valR, heapR, updR, intR, decR, extR, slR, segR, thenR, pnR, Int.reduceToNat, Int.reduceAdd, Int.reduceSub, Int.reduceLT, Int.reduceLE, Nat.reduceSub, Nat.reduceMul, Nat.reduceEqDiff, List.getD_cons_zero, List.getD_cons_succ]
        exact ⟨⟨k + 1, v8, by omega, rfl, ho8, hx8⟩, by first | omega | (simp <;> omega)⟩
      cases hsf : Lib.hasSuffix t [58] with
      | false =>
        rw [hsf] at hlf
        simp (disch := first | assumption | omega | (simp only [szR, izC_len, izC_all, lnC_len, lnC_all] <;> omega) | rfl | decide) only [gen0, gen1, gen2, rulesC, rulesX, rulesA, litR, bolR, Nat.reduceAdd, Nat.reduceLeDiff, numR, memR, valR, heapR, updR, intR, decR, extR, slR, segR, thenR, pnR, Int.reduceToNat, Int.reduceAdd, Int.reduceSub, Int.reduceLT, Int.reduceLE, Nat.reduceSub, Nat.reduceMul, Nat.reduceEqDiff, joinBR]
        exact hpush _ _ hlf
      | true =>
        rw [hsf, Bool.true_and] at hlf
        simp (disch := first | assumption | omega | (simp only [szR, izC_len, izC_all, lnC_len, lnC_all] <;> omega) | rfl | decide) only [gen0, gen1, gen2, rulesC, rulesX, rulesA, litR, bolR, Nat.reduceAdd, Nat.reduceLeDiff, numR, memR, valR, heapR, updR, intR, decR, extR, slR, segR, thenR, pnR, Int.reduceToNat, Int.reduceAdd, Int.reduceSub, Int.reduceLT, Int.reduceLE, Nat.reduceSub, Nat.reduceMul, Nat.reduceEqDiff, joinBR]
        refine named_spec (by omega) ?_
        cases hnm : namedF (Lib.trimSuffix t [58]) with
        | false =>
          rw [hnm] at hlf
          simp (disch := first | assumption | omega | (simp only [szR, izC_len, izC_all, lnC_len, lnC_all] <;> omega) | rfl | decide) only [gen0, gen1, gen2, rulesC, rulesX, rulesA, litR, bolR, Nat.reduceAdd, Nat.reduceLeDiff, numR, memR, valR, heapR, updR, intR, decR, extR, slR, segR, thenR, pnR, Int.reduceToNat, Int.reduceAdd, Int.reduceSub, Int.reduceLT, Int.reduceLE, Nat.reduceSub, Nat.reduceMul, Nat.reduceEqDiff, joinBR]
          exact hpush _ _ hlf
        | true =>
          rw [hnm] at hlf
          simp (disch := first | assumption | omega | (simp only [szR, izC_len, izC_all, lnC_len, lnC_all] <;> omega) | rfl | decide) only [gen0, gen1, gen2, rulesC, rulesX, rulesA, litR, bolR, Nat.reduceAdd, Nat.reduceLeDiff, numR, memR, valR, heapR, updR, intR, decR, extR, slR, segR, thenR, pnR, Int.reduceToNat, Int.reduceAdd, Int.reduceSub, Int.reduceLT, Int.reduceLE, Nat.reduceSub, Nat.reduceMul, Nat.reduceEqDiff, joinBR]
          exact hpush _ _ hlf
  · obtain rfl : k = ls.length := by omega
    rw [List.take_length] at ho
    simp (disch := first | assumption | omega | (simp only [szR, izC_len, izC_all, lnC_len, lnC_all] <;> omega) | rfl | decide) only [gen0, gen1, gen2, rulesC, rulesX, rulesA, litR, bolR, Nat.reduceAdd, Nat.reduceLeDiff, numR, memR, valR, heapR, updR, intR, decR, extR, slR, segR, thenR, pnR, Int.reduceToNat, Int.reduceAdd, Int.reduceSub, Int.reduceLT, Int.reduceLE, Nat.reduceSub, Nat.reduceMul, Nat.reduceEqDiff, List.getD_cons_zero, List.getD_cons_succ]
    exact hK _ _ ho.rows (hx1.trans hx2 (by simp)) fun b hb => by have := ho.block b hb; have := hx1.size; omega
end Go.Proofs.YtobkjnmdbkieeaaDoor
