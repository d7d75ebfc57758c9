/- Lines laid behind a text; conditions: those of each theorem. -/
import Derived.Test.YtobkjnmdbkieeaaDoorAT5
import Derived.Test.YtobkjnmdbkieeaaDoorFK
import Derived.Test.YtobkjnmdbkieeaaDoorRK
import Derived.Test.YtobkjnmdbkieeaaDoorRel
namespace Go.Proofs.YtobkjnmdbkieeaaDoor
open Go.Fx
set_option maxRecDepth 100000
set_option linter.unusedSimpArgs false
set_option linter.unusedVariables false
def digT : List UInt8 := [48, 49, 50, 51, 52, 53, 54, 55, 56, 57]
def digC (d : Nat) : UInt8 := digT.getD d 0
theorem dig_ix {d : Nat} (h : d < 10) (w : World) : (Instr.index 9 (.string ⟨#[48, 49, 50, 51, 52, 53, 54, 55, 56, 57]⟩) (.int .i64 (d : Nat))).run Tryd.prog w = .ok (.int .u8 ((digC d).toNat : Nat)) w := by
  refine ixS (l := digT) (k := d) (b := digC d) ?_ w
  unfold digC
  rw [List.getD_eq_getElem?_getD, List.getElem?_eq_getElem (by simpa [digT] using h)]
  rfl
theorem dig_str {d : Nat} (h : d < 10) (w : World) : (convert 5 9 (.int .u8 ((digC d).toNat : Nat))).run Tryd.prog w = .ok (.string ⟨#[digC d]⟩) w := by
  have h1 : (convert 5 9 (.int .u8 ((digC d).toNat : Nat))).run Tryd.prog w = .ok (.string (Utf8.encode ((digC d).toNat : Nat))) w := by
    simp [convert, run_underlying Tryd.underlying5, run_underlying Tryd.underlying9, Conv.intToString]
  rw [h1]
  have : (List.range 10).all (fun d => decide ((Utf8.encode ((digC d).toNat : Nat)).data.toList = [digC d])) = true := by kernel_rfl
  have h2 := of_decide_eq_true (List.all_eq_true.1 this d (List.mem_range.2 h))
  have h3 : Utf8.encode ((digC d).toNat : Nat) = ⟨#[digC d]⟩ := by
    apply ByteArray.ext
    apply Array.ext'
    exact h2
  rw [h3]
def addT : List UInt8 := [97, 100, 100, 105, 32, 99, 49, 44, 32, 99, 49, 44, 32, 49]
/-- what stands between lines: nothing, an empty one, a remark, blanks. -/
def pieceT (n : Nat) : List UInt8 := if n = 0 then [] else if n = 1 then [10] else if n = 2 then [35, 32, 120, 10] else [32, 32, 10]
def sepT (bl : List Int) (i : Nat) : List UInt8 := match bl[i]? with
  | none => []
  | some b => pieceT (b % 4).toNat
def layT (bl : List Int) (n : Nat) : List UInt8 := (List.range n).flatMap fun i => addT ++ [10] ++ sepT bl i
theorem piece_len (n : Nat) : (pieceT n).length ≤ 4 := by
  unfold pieceT
  repeat' split
  all_goals simp
theorem sep_len (bl : List Int) (i : Nat) : (sepT bl i).length ≤ 4 := by
  unfold sepT
  split
  · simp
  · exact piece_len _
theorem layT_succ (bl : List Int) (n : Nat) : layT bl (n + 1) = layT bl n ++ (addT ++ [10] ++ sepT bl n) := by
  unfold layT
  rw [List.range_succ, List.flatMap_append]
  simp
theorem layT_len (bl : List Int) : ∀ n, (layT bl n).length ≤ n * 19
  | 0 => Nat.le_refl _
  | n + 1 => by
    have h1 := layT_len bl n
    have h2 := sep_len bl n
    rw [layT_succ, List.length_append, List.length_append, List.length_append]
    have : addT.length = 14 := rfl
    simp only [List.length_cons, List.length_nil]
    omega
def iC (n : Int) : List Value := [.int .i64 n]
set_option maxHeartbeats 4000000 in
theorem lay_spec {w0 w : World} {n : Nat} {b1 b2 : Nat} {v : Value} {bl : List Int} {T : List UInt8} (hn : n < 64) (hT : T.length ≤ 100000) (hb1 : w.heap[b1]? = some (.cells [.string ⟨T.toArray⟩].toArray 9 (0, 0))) (hb2 : w.heap[b2]? = some (.cells [v].toArray 37 (0, 0))) (hne : b1 ≠ b2) (hv : RowsAt w v 1 (bl.map iC)) (hvb : bl.map iC ≠ [] → ∀ b, blockOf v = some b → b ≠ b1) {K : Value → World → Prop}
    (hK : ∀ w', w'.heap[b1]? = some (.cells [.string ⟨(T ++ layT bl n).toArray⟩].toArray 9 (0, 0)) → Ext [b1] w w' → K (.tuple #[]) w') : callsK Tryd.prog 10 #[.int .i64 (n : Nat), .pointer (some ⟨b1, 0, none⟩), .pointer (some ⟨b2, 0, none⟩)] w K := by
  apply F10_ok
  unfold F10
  have hlv := hv.lenR (ty := 3) Tryd.underlying37
  rw [List.length_map] at hlv
  obtain ⟨va, vc, hve⟩ := hv.len
  have hvlen : bl.length ≤ 9223372036854775807 := by
    have hcap : bl.length ≤ maxLen := by
      obtain ⟨_, _, _, ⟨hc1, hc2⟩, _⟩ := id hv
      rw [List.length_map] at hc1
      omega
    simp only [maxLen] at hcap
    omega
  refine loopT.intro (fun st w' => ∃ (k : Nat), k ≤ n ∧ st = [.int .i64 (k : Nat)] ∧ w'.heap[b1]? = some (.cells [.string ⟨(T ++ layT bl k).toArray⟩].toArray 9 (0, 0)) ∧ Ext [b1] w w')
    (fun st _ => match st with
      | [.int _ z] => n - z.toNat
      | _ => 0) ⟨0, Nat.zero_le _, rfl, by rw [show T ++ layT bl 0 = T by simp [layT]]; exact hb1, Ext.refl⟩ ?_
  rintro st w1 ⟨k, hk, rfl, m1, hx1⟩ _
  have m2 := hx1.at hb2 (by simpa using Ne.symm hne)
  have hv1 := hv.at' hx1 (fun h0 b hb => by have := hvb h0 b hb; simpa using this)
  have lm1 := lt_of_at m1
  have lm2 := lt_of_at m2
  have hll := layT_len bl k
  have hsl := sep_len bl k
  by_cases h4 : k < n
  · have hA1 : ∀ (x y : Operand) (w : World), (binV .add 9 x y (.string ⟨(T ++ layT bl k).toArray⟩) (.string ⟨#[97, 100, 100, 105, 32, 99, 49, 44, 32, 99, 49, 44, 32, 49, 10]⟩)).run Tryd.prog w = .ok (.string ⟨(T ++ layT bl k ++ (addT ++ [10])).toArray⟩) w := addS (a := T ++ layT bl k) (b := addT ++ [10]) (by simp [addT]; omega)
    simp (disch := first | assumption | omega | (simp only [szR] <;> omega) | rfl | decide) only [gen0, gen1, gen2, rulesC, rulesX, rulesA, rulesL, rulesK, litR, bolR, Nat.reduceAdd, Nat.reduceLeDiff, numR, memR, valR, heapR, updR, intR, decR, extR, slR, segR, thenR, pnR, Int.reduceToNat, Int.reduceAdd, Int.reduceSub, Int.reduceLT, Int.reduceLE, Nat.reduceSub, Nat.reduceMul, Nat.reduceEqDiff, List.getD_cons_zero]
    refine joinL.intro fun J2 hJ2 => ?_
    have hfin : ∀ w2, w2.heap[b1]? = some (.cells [.string ⟨(T ++ layT bl (k + 1)).toArray⟩].toArray 9 (0, 0)) → Ext [b1] w1 w2 → J2 [] w2 := by
      intro w2 a1 a2
      apply hJ2
      intro _
      simp (disch := first | assumption | omega | (simp only [szR] <;> omega) | rfl | decide) only [gen0, gen1, gen2, rulesC, rulesX, rulesA, rulesL, rulesK, litR, bolR, Nat.reduceAdd, Nat.reduceLeDiff, numR, memR, valR, heapR, updR, intR, decR, extR, slR, segR, thenR, pnR, Int.reduceToNat, Int.reduceAdd, Int.reduceSub, Int.reduceLT, Int.reduceLE, Nat.reduceSub, Nat.reduceMul, Nat.reduceEqDiff, List.getD_cons_zero]
      exact ⟨⟨k + 1, by omega, rfl, a1, hx1.trans a2 (fun k hk => .inl hk)⟩, by first | omega | (simp <;> omega)⟩
    have hxu : Ext [b1] w1 (World.upd w1 b1 [.string ⟨(T ++ layT bl k ++ (addT ++ [10])).toArray⟩]) := Ext.updI (by simp) Ext.refl
    have u1 : (World.upd w1 b1 [.string ⟨(T ++ layT bl k ++ (addT ++ [10])).toArray⟩]).heap[b1]? = some (.cells [.string ⟨(T ++ layT bl k ++ (addT ++ [10])).toArray⟩].toArray 9 (0, 0)) := upd_at m1
    have u2 : (World.upd w1 b1 [.string ⟨(T ++ layT bl k ++ (addT ++ [10])).toArray⟩]).heap[b2]? = some (.cells [v].toArray 37 (0, 0)) := hxu.at m2 (by simpa using Ne.symm hne)
    by_cases h5 : k < bl.length
    · obtain ⟨b, hb⟩ : ∃ b, bl[k]? = some b := ⟨_, List.getElem?_eq_getElem h5⟩
      have hsep : sepT bl k = pieceT (b % 4).toNat := by unfold sepT; rw [hb]
      have hvu := hv1.at' hxu (fun h0 b hb => by have := hvb h0 b hb; simpa using this)
      simp (disch := first | assumption | omega | (simp only [szR] <;> omega) | rfl | decide) only [gen0, gen1, gen2, rulesC, rulesX, rulesA, rulesL, rulesK, litR, bolR, Nat.reduceAdd, Nat.reduceLeDiff, numR, memR, valR, heapR, updR, intR, decR, extR, slR, segR, thenR, pnR, Int.reduceToNat, Int.reduceAdd, Int.reduceSub, Int.reduceLT, Int.reduceLE, Nat.reduceSub, Nat.reduceMul, Nat.reduceEqDiff, m1, hA1, u2, hlv, List.getD_cons_zero, List.set_cons_zero]
      have hxd : Ext [b1] w1 (World.upd w1 b1 [.string ⟨(T ++ layT bl k ++ (addT ++ [10])).toArray⟩]).drew := hxu.drew
      have d1 := (Ext.drew (S := []) (w := World.upd w1 b1 [.string ⟨(T ++ layT bl k ++ (addT ++ [10])).toArray⟩]) Ext.refl).at u1 (by simp)
      have d2 := (Ext.drew (S := []) (w := World.upd w1 b1 [.string ⟨(T ++ layT bl k ++ (addT ++ [10])).toArray⟩]) Ext.refl).at u2 (by simp)
      have hvd := hvu.ext (Ext.drew (S := []) Ext.refl) (by simp)
      generalize (World.upd w1 b1 [.string ⟨(T ++ layT bl k ++ (addT ++ [10])).toArray⟩]).drew = w2 at *
      have hrow : (bl.map iC)[k]? = some (iC b) := by rw [List.getElem?_map, hb]; rfl
      obtain ⟨b0, o0, lb, E0, f0, hix, hb0, hfit, hblt, hbk, hsub, hget⟩ := RowsAt.ixR (P := Tryd.prog) (t := 37) Tryd.underlying37 Tryd.sizeOf3 hvd hrow
      have hc0 : lb[o0]? = some (.int .i64 b) := by simpa [iC] using hget (o0 + 0) 0 rfl (by omega)
      have e10 : (k : Int) % 10 = ((k % 10 : Nat) : Int) := by omega
      have q10 : (k : Int) / 10 = ((k / 10 : Nat) : Int) := by omega
      have e11 : ((k / 10 : Nat) : Int) % 10 = ((k / 10 % 10 : Nat) : Int) := by omega
      have x1 := dig_ix (d := k % 10) (by omega)
      have x2 := dig_str (d := k % 10) (by omega)
      have x3 := dig_ix (d := k / 10 % 10) (by omega)
      have x4 := dig_str (d := k / 10 % 10) (by omega)
      have y1 : ∀ (c : UInt8) (x y : Operand) (w : World), (binV .add 9 x y (.string ⟨#[111, 116, 104, 101, 114]⟩) (.string ⟨#[c]⟩)).run Tryd.prog w = .ok (.string ⟨#[111, 116, 104, 101, 114, c]⟩) w := fun c => addS (a := [111, 116, 104, 101, 114]) (b := [c]) (by simp)
      have y2 : ∀ (c d : UInt8) (x y : Operand) (w : World), (binV .add 9 x y (.string ⟨#[111, 116, 104, 101, 114, c]⟩) (.string ⟨#[d]⟩)).run Tryd.prog w = .ok (.string ⟨#[111, 116, 104, 101, 114, c, d]⟩) w := fun c d => addS (a := [111, 116, 104, 101, 114, c]) (b := [d]) (by simp)
      have y3 : ∀ (c d : UInt8) (x y : Operand) (w : World), (binV .add 9 x y (.string ⟨#[111, 116, 104, 101, 114, c, d]⟩) (.string ⟨#[58, 10]⟩)).run Tryd.prog w = .ok (.string ⟨#[111, 116, 104, 101, 114, c, d, 58, 10]⟩) w := fun c d => addS (a := [111, 116, 104, 101, 114, c, d]) (b := [58, 10]) (by simp)
      have ha : bitI .and .i64 b 3 = b % 4 := by
        have := and_mask (k := .i64) (a := b) (n := 2) (by decide)
        simpa using this
      generalize digC (k % 10) = c1 at *
      generalize digC (k / 10 % 10) = c2 at *
      obtain ⟨j, hj⟩ : ∃ j : Nat, j = (b % 4).toNat := ⟨_, rfl⟩
      have hj4 : j < 4 := by omega
      have hbj : b % 4 = (j : Int) := by omega
      rw [← hj] at hsep
      refine relX.ext [] ?_
      (apply postX.is; (focus (intro v w2 hR hd; have e0 := hR.at d1 (by simp); (try simp (disch := first | assumption | omega | (simp only [szR] <;> omega) | rfl | decide) only [gen0, gen1, gen2, rulesC, rulesX, rulesA, rulesL, rulesK, litR, bolR, Nat.reduceAdd, Nat.reduceLeDiff, numR, memR, valR, heapR, updR, intR, decR, extR, slR, segR, thenR, pnR, Int.reduceToNat, Int.reduceAdd, Int.reduceSub, Int.reduceLT, Int.reduceLE, Nat.reduceSub, Nat.reduceMul, Nat.reduceEqDiff, hd, e0, List.getD_cons_zero]); exact okX.is)))
      (apply postX.is; (focus (intro v w2 hR hd; (try simp (disch := first | assumption | omega | (simp only [szR] <;> omega) | rfl | decide) only [gen0, gen1, gen2, rulesC, rulesX, rulesA, rulesL, rulesK, litR, bolR, Nat.reduceAdd, Nat.reduceLeDiff, numR, memR, valR, heapR, updR, intR, decR, extR, slR, segR, thenR, pnR, Int.reduceToNat, Int.reduceAdd, Int.reduceSub, Int.reduceLT, Int.reduceLE, Nat.reduceSub, Nat.reduceMul, Nat.reduceEqDiff, hd, List.getD_cons_zero]); exact okX.is)))
      (apply postX.is; (focus (intro v w2 hR hd; (try simp (disch := first | assumption | omega | (simp only [szR] <;> omega) | rfl | decide) only [gen0, gen1, gen2, rulesC, rulesX, rulesA, rulesL, rulesK, litR, bolR, Nat.reduceAdd, Nat.reduceLeDiff, numR, memR, valR, heapR, updR, intR, decR, extR, slR, segR, thenR, pnR, Int.reduceToNat, Int.reduceAdd, Int.reduceSub, Int.reduceLT, Int.reduceLE, Nat.reduceSub, Nat.reduceMul, Nat.reduceEqDiff, hd, List.getD_cons_zero, e10]); exact okX.is)))
      (apply postX.is; (focus (intro v w2 hR hd; (try simp (disch := first | assumption | omega | (simp only [szR] <;> omega) | rfl | decide) only [gen0, gen1, gen2, rulesC, rulesX, rulesA, rulesL, rulesK, litR, bolR, Nat.reduceAdd, Nat.reduceLeDiff, numR, memR, valR, heapR, updR, intR, decR, extR, slR, segR, thenR, pnR, Int.reduceToNat, Int.reduceAdd, Int.reduceSub, Int.reduceLT, Int.reduceLE, Nat.reduceSub, Nat.reduceMul, Nat.reduceEqDiff, hd, List.getD_cons_zero, x1]); exact okX.is)))
      (apply postX.is; (focus (intro v w2 hR hd; (try simp (disch := first | assumption | omega | (simp only [szR] <;> omega) | rfl | decide) only [gen0, gen1, gen2, rulesC, rulesX, rulesA, rulesL, rulesK, litR, bolR, Nat.reduceAdd, Nat.reduceLeDiff, numR, memR, valR, heapR, updR, intR, decR, extR, slR, segR, thenR, pnR, Int.reduceToNat, Int.reduceAdd, Int.reduceSub, Int.reduceLT, Int.reduceLE, Nat.reduceSub, Nat.reduceMul, Nat.reduceEqDiff, hd, x2]); exact okX.is)))
      (apply postX.is; (focus (intro v w2 hR hd; (try simp (disch := first | assumption | omega | (simp only [szR] <;> omega) | rfl | decide) only [gen0, gen1, gen2, rulesC, rulesX, rulesA, rulesL, rulesK, litR, bolR, Nat.reduceAdd, Nat.reduceLeDiff, numR, memR, valR, heapR, updR, intR, decR, extR, slR, segR, thenR, pnR, Int.reduceToNat, Int.reduceAdd, Int.reduceSub, Int.reduceLT, Int.reduceLE, Nat.reduceSub, Nat.reduceMul, Nat.reduceEqDiff, hd, y1]); exact okX.is)))
      (apply postX.is; (focus (intro v w2 hR hd; (try simp (disch := first | assumption | omega | (simp only [szR] <;> omega) | rfl | decide) only [gen0, gen1, gen2, rulesC, rulesX, rulesA, rulesL, rulesK, litR, bolR, Nat.reduceAdd, Nat.reduceLeDiff, numR, memR, valR, heapR, updR, intR, decR, extR, slR, segR, thenR, pnR, Int.reduceToNat, Int.reduceAdd, Int.reduceSub, Int.reduceLT, Int.reduceLE, Nat.reduceSub, Nat.reduceMul, Nat.reduceEqDiff, hd, List.getD_cons_zero]); exact okX.is)))
      (apply postX.is; (focus (intro v w2 hR hd; (try simp (disch := first | assumption | omega | (simp only [szR] <;> omega) | rfl | decide) only [gen0, gen1, gen2, rulesC, rulesX, rulesA, rulesL, rulesK, litR, bolR, Nat.reduceAdd, Nat.reduceLeDiff, numR, memR, valR, heapR, updR, intR, decR, extR, slR, segR, thenR, pnR, Int.reduceToNat, Int.reduceAdd, Int.reduceSub, Int.reduceLT, Int.reduceLE, Nat.reduceSub, Nat.reduceMul, Nat.reduceEqDiff, hd, q10]); exact okX.is)))
      (apply postX.is; (focus (intro v w2 hR hd; (try simp (disch := first | assumption | omega | (simp only [szR] <;> omega) | rfl | decide) only [gen0, gen1, gen2, rulesC, rulesX, rulesA, rulesL, rulesK, litR, bolR, Nat.reduceAdd, Nat.reduceLeDiff, numR, memR, valR, heapR, updR, intR, decR, extR, slR, segR, thenR, pnR, Int.reduceToNat, Int.reduceAdd, Int.reduceSub, Int.reduceLT, Int.reduceLE, Nat.reduceSub, Nat.reduceMul, Nat.reduceEqDiff, hd, e11]); exact okX.is)))
      (apply postX.is; (focus (intro v w2 hR hd; (try simp (disch := first | assumption | omega | (simp only [szR] <;> omega) | rfl | decide) only [gen0, gen1, gen2, rulesC, rulesX, rulesA, rulesL, rulesK, litR, bolR, Nat.reduceAdd, Nat.reduceLeDiff, numR, memR, valR, heapR, updR, intR, decR, extR, slR, segR, thenR, pnR, Int.reduceToNat, Int.reduceAdd, Int.reduceSub, Int.reduceLT, Int.reduceLE, Nat.reduceSub, Nat.reduceMul, Nat.reduceEqDiff, hd, x3]); exact okX.is)))
      (apply postX.is; (focus (intro v w2 hR hd; (try simp (disch := first | assumption | omega | (simp only [szR] <;> omega) | rfl | decide) only [gen0, gen1, gen2, rulesC, rulesX, rulesA, rulesL, rulesK, litR, bolR, Nat.reduceAdd, Nat.reduceLeDiff, numR, memR, valR, heapR, updR, intR, decR, extR, slR, segR, thenR, pnR, Int.reduceToNat, Int.reduceAdd, Int.reduceSub, Int.reduceLT, Int.reduceLE, Nat.reduceSub, Nat.reduceMul, Nat.reduceEqDiff, hd, x4]); exact okX.is)))
      (apply postX.is; (focus (intro v w2 hR hd; (try simp (disch := first | assumption | omega | (simp only [szR] <;> omega) | rfl | decide) only [gen0, gen1, gen2, rulesC, rulesX, rulesA, rulesL, rulesK, litR, bolR, Nat.reduceAdd, Nat.reduceLeDiff, numR, memR, valR, heapR, updR, intR, decR, extR, slR, segR, thenR, pnR, Int.reduceToNat, Int.reduceAdd, Int.reduceSub, Int.reduceLT, Int.reduceLE, Nat.reduceSub, Nat.reduceMul, Nat.reduceEqDiff, hd, y2]); exact okX.is)))
      (apply postX.is; (focus (intro v w2 hR hd; (try simp (disch := first | assumption | omega | (simp only [szR] <;> omega) | rfl | decide) only [gen0, gen1, gen2, rulesC, rulesX, rulesA, rulesL, rulesK, litR, bolR, Nat.reduceAdd, Nat.reduceLeDiff, numR, memR, valR, heapR, updR, intR, decR, extR, slR, segR, thenR, pnR, Int.reduceToNat, Int.reduceAdd, Int.reduceSub, Int.reduceLT, Int.reduceLE, Nat.reduceSub, Nat.reduceMul, Nat.reduceEqDiff, hd, y3]); exact okX.is)))
      obtain ⟨SL, hSL⟩ : ∃ SL : List Value, SL = [.string ⟨#[]⟩, .string ⟨#[10]⟩, .string ⟨#[35, 32, 120, 10]⟩, .string ⟨#[32, 32, 10]⟩, .string ⟨#[111, 116, 104, 101, 114, c1, c2, 58, 10]⟩] := ⟨_, rfl⟩
      refine postX.intro (fun v w => ∃ (g : Nat) (f : Nat × Nat), v = .slice (some ⟨g, 0, none⟩) 5 5 ∧ w.heap[g]? = some (.cells SL.toArray 9 f)) (fun v w w' hR h => by
        obtain ⟨g, f, h1, h2⟩ := h
        exact ⟨g, f, h1, hR.at h2 (by simp)⟩) (fun v w' hR hd => by
        obtain ⟨d28, -⟩ := hd
        simp (disch := first | assumption | omega | (simp only [szR] <;> omega) | rfl | decide) only [gen0, gen1, gen2, rulesC, rulesX, rulesA, rulesL, rulesK, litR, bolR, Nat.reduceAdd, Nat.reduceLeDiff, numR, memR, valR, heapR, updR, intR, decR, extR, slR, segR, thenR, pnR, Int.reduceToNat, Int.reduceAdd, Int.reduceSub, Int.reduceLT, Int.reduceLE, Nat.reduceSub, Nat.reduceMul, Nat.reduceEqDiff, d28]
        exact okX.mk (by (repeat first | assumption | exact Ext.refl | apply Ext.alloc | apply Ext.drew | (refine Ext.updN ?_ ?_; (focus first | omega | (simp only [szR] <;> omega))) | (refine Ext.updI ?_ ?_; (focus (simp; done))))) ⟨_, _, rfl, by rw [hSL]; exact alloc_at rfl⟩) ?_
      (apply postX.is; (focus (intro v w2 hR hd; have e0 := hR.at d2 (by simp); (try simp (disch := first | assumption | omega | (simp only [szR] <;> omega) | rfl | decide) only [gen0, gen1, gen2, rulesC, rulesX, rulesA, rulesL, rulesK, litR, bolR, Nat.reduceAdd, Nat.reduceLeDiff, numR, memR, valR, heapR, updR, intR, decR, extR, slR, segR, thenR, pnR, Int.reduceToNat, Int.reduceAdd, Int.reduceSub, Int.reduceLT, Int.reduceLE, Nat.reduceSub, Nat.reduceMul, Nat.reduceEqDiff, hd, e0, List.getD_cons_zero]); exact okX.is)))
      (apply postX.is; (focus (intro v w2 hR hd; (try simp (disch := first | assumption | omega | (simp only [szR] <;> omega) | rfl | decide) only [gen0, gen1, gen2, rulesC, rulesX, rulesA, rulesL, rulesK, litR, bolR, Nat.reduceAdd, Nat.reduceLeDiff, numR, memR, valR, heapR, updR, intR, decR, extR, slR, segR, thenR, pnR, Int.reduceToNat, Int.reduceAdd, Int.reduceSub, Int.reduceLT, Int.reduceLE, Nat.reduceSub, Nat.reduceMul, Nat.reduceEqDiff, hd, List.getD_cons_zero]); exact okX.is)))
      (apply postX.is; (focus (intro v w2 hR hd; (try simp (disch := first | assumption | omega | (simp only [szR] <;> omega) | rfl | decide) only [gen0, gen1, gen2, rulesC, rulesX, rulesA, rulesL, rulesK, litR, bolR, Nat.reduceAdd, Nat.reduceLeDiff, numR, memR, valR, heapR, updR, intR, decR, extR, slR, segR, thenR, pnR, Int.reduceToNat, Int.reduceAdd, Int.reduceSub, Int.reduceLT, Int.reduceLE, Nat.reduceSub, Nat.reduceMul, Nat.reduceEqDiff, hd, hix]); exact okX.is)))
      (apply postX.is; (focus (intro v w2 hR hd; have e0 := hR.at hb0 (by simp); (try simp (disch := first | assumption | omega | (simp only [szR] <;> omega) | rfl | decide) only [gen0, gen1, gen2, rulesC, rulesX, rulesA, rulesL, rulesK, litR, bolR, Nat.reduceAdd, Nat.reduceLeDiff, numR, memR, valR, heapR, updR, intR, decR, extR, slR, segR, thenR, pnR, Int.reduceToNat, Int.reduceAdd, Int.reduceSub, Int.reduceLT, Int.reduceLE, Nat.reduceSub, Nat.reduceMul, Nat.reduceEqDiff, hd, e0, hc0]); exact okX.is)))
      (apply postX.is; (focus (intro v w2 hR hd; (try simp (disch := first | assumption | omega | (simp only [szR] <;> omega) | rfl | decide) only [gen0, gen1, gen2, rulesC, rulesX, rulesA, rulesL, rulesK, litR, bolR, Nat.reduceAdd, Nat.reduceLeDiff, numR, memR, valR, heapR, updR, intR, decR, extR, slR, segR, thenR, pnR, Int.reduceToNat, Int.reduceAdd, Int.reduceSub, Int.reduceLT, Int.reduceLE, Nat.reduceSub, Nat.reduceMul, Nat.reduceEqDiff, hd, ha, hbj]); exact okX.is)))
      refine postX.intro (fun v w => ∃ (g : Nat) (f : Nat × Nat), v = .pointer (some ⟨g, j, none⟩) ∧ w.heap[g]? = some (.cells SL.toArray 9 f)) (fun v w w' hR h => by
        obtain ⟨g, f, h1, h2⟩ := h
        exact ⟨g, f, h1, hR.at h2 (by simp)⟩) (fun v w' hR hd => by
        obtain ⟨⟨g, f, h1, h2⟩, d34, -⟩ := hd
        simp (disch := first | assumption | omega | (simp only [szR] <;> omega) | rfl | decide) only [gen0, gen1, gen2, rulesC, rulesX, rulesA, rulesL, rulesK, litR, bolR, Nat.reduceAdd, Nat.reduceLeDiff, numR, memR, valR, heapR, updR, intR, decR, extR, slR, segR, thenR, pnR, Int.reduceToNat, Int.reduceAdd, Int.reduceSub, Int.reduceLT, Int.reduceLE, Nat.reduceSub, Nat.reduceMul, Nat.reduceEqDiff, h1, d34]
        exact okX.mk Ext.refl ⟨g, f, by simp, h2⟩) ?_
      refine postX.is (.string ⟨(pieceT j).toArray⟩) (fun v w' hR hd => by
        obtain ⟨⟨g, f, h1, h2⟩, -⟩ := hd
        have hgj : SL[j]? = some (.string ⟨(pieceT j).toArray⟩) := by
          rw [hSL]
          match j, hj4 with
          | 0, _ => rfl
          | 1, _ => rfl
          | 2, _ => rfl
          | 3, _ => rfl
        simp (disch := first | assumption | omega | (simp only [szR] <;> omega) | rfl | decide) only [gen0, gen1, gen2, rulesC, rulesX, rulesA, rulesL, rulesK, litR, bolR, Nat.reduceAdd, Nat.reduceLeDiff, numR, memR, valR, heapR, updR, intR, decR, extR, slR, segR, thenR, pnR, Int.reduceToNat, Int.reduceAdd, Int.reduceSub, Int.reduceLT, Int.reduceLE, Nat.reduceSub, Nat.reduceMul, Nat.reduceEqDiff, h1, h2, hgj]
        exact okX.is) ?_
      have hpl := piece_len j
      have y4 := addS (a := T ++ layT bl k ++ (addT ++ [10])) (b := pieceT j) (by simp [addT]; omega)
      refine postX.is (.string ⟨(T ++ layT bl k ++ (addT ++ [10]) ++ pieceT j).toArray⟩) (fun v w' hR hd => by
        obtain ⟨d16, d36, -⟩ := hd
        simp (disch := first | assumption | omega | (simp only [szR] <;> omega) | rfl | decide) only [gen0, gen1, gen2, rulesC, rulesX, rulesA, rulesL, rulesK, litR, bolR, Nat.reduceAdd, Nat.reduceLeDiff, numR, memR, valR, heapR, updR, intR, decR, extR, slR, segR, thenR, pnR, Int.reduceToNat, Int.reduceAdd, Int.reduceSub, Int.reduceLT, Int.reduceLE, Nat.reduceSub, Nat.reduceMul, Nat.reduceEqDiff, d16, d36, y4]
        exact okX.is) ?_
      intro V w3 hR hd _
      obtain ⟨-, -, -, -, -, -, -, -, -, -, -, -, -, -, -, -, -, -, -, -, -, d37, -⟩ := hd
      have t1 := hR.at d1 (by simp)
      have lt1 := lt_of_at t1
      simp (disch := first | assumption | omega | (simp only [szR] <;> omega) | rfl | decide) only [gen0, gen1, gen2, rulesC, rulesX, rulesA, rulesL, rulesK, litR, bolR, Nat.reduceAdd, Nat.reduceLeDiff, numR, memR, valR, heapR, updR, intR, decR, extR, slR, segR, thenR, pnR, Int.reduceToNat, Int.reduceAdd, Int.reduceSub, Int.reduceLT, Int.reduceLE, Nat.reduceSub, Nat.reduceMul, Nat.reduceEqDiff, d37, t1, List.set_cons_zero]
      refine hfin _ ?_ ((hxd.trans hR (by simp)).trans (Ext.updI (by simp) Ext.refl) (fun k hk => .inl hk))
      rw [layT_succ, hsep, show T ++ (layT bl k ++ (addT ++ [10] ++ pieceT j)) = T ++ layT bl k ++ (addT ++ [10]) ++ pieceT j by simp]
      exact upd_at t1
    · have hsep : sepT bl k = [] := by
        unfold sepT
        rw [List.getElem?_eq_none (by omega)]
      simp (disch := first | assumption | omega | (simp only [szR] <;> omega) | rfl | decide) only [gen0, gen1, gen2, rulesC, rulesX, rulesA, rulesL, rulesK, litR, bolR, Nat.reduceAdd, Nat.reduceLeDiff, numR, memR, valR, heapR, updR, intR, decR, extR, slR, segR, thenR, pnR, Int.reduceToNat, Int.reduceAdd, Int.reduceSub, Int.reduceLT, Int.reduceLE, Nat.reduceSub, Nat.reduceMul, Nat.reduceEqDiff, m1, hA1, u2, hlv, List.getD_cons_zero, List.set_cons_zero]
      refine hfin _ ?_ hxu
      rw [layT_succ, hsep, List.append_nil, ← List.append_assoc T]
      exact u1
  · obtain rfl : k = n := by omega
    simp (disch := first | assumption | omega | (simp only [szR] <;> omega) | rfl | decide) only [gen0, gen1, gen2, rulesC, rulesX, rulesA, rulesL, rulesK, litR, bolR, Nat.reduceAdd, Nat.reduceLeDiff, numR, memR, valR, heapR, updR, intR, decR, extR, slR, segR, thenR, pnR, Int.reduceToNat, Int.reduceAdd, Int.reduceSub, Int.reduceLT, Int.reduceLE, Nat.reduceSub, Nat.reduceMul, Nat.reduceEqDiff, List.getD_cons_zero]
    exact hK _ m1 hx1
end Go.Proofs.YtobkjnmdbkieeaaDoor
