/- Part 8 of what the law AsmLists stands on: formulas of the functions that it reaches, and what each of them does; conditions: those of each theorem. -/
import Derived.Test.YtobkjnmdbkieeaaGreatDoorP7
set_option linter.unusedVariables false
set_option linter.unusedSimpArgs false
namespace Go.Proofs.YtobkjnmdbkieeaaGreatDoor
open Go.Fx
set_option maxRecDepth 100000
/-- an instruction whose numbers are small. -/
def smallI (i : IZ) : Prop := (-10000000000 < i.rd /\ i.rd < 10000000000) /\ (-10000000000 < i.r1 /\ i.r1 < 10000000000) /\ (-10000000000 < i.r2 /\ i.r2 < 10000000000) /\ (-10000000000 < i.im /\ i.im < 10000000000)
theorem joinS (s x : List UInt8) (L : List (List UInt8)) : s ++ ([32] ++ Lib.join (x :: L) [44, 32]) = s ++ [32] ++ x ++ Lib.joinTail [44, 32] L := by simp [Lib.join_cons]
theorem tail_nil : Lib.joinTail [44, 32] [] = [] := rfl
theorem tail_cons (x : List UInt8) (L : List (List UInt8)) : Lib.joinTail [44, 32] (x :: L) = [44, 32] ++ x ++ Lib.joinTail [44, 32] L := by simp [Lib.joinTail]
theorem add3 {N X Y Z : List UInt8} (hN : N.length <= 30) (hX : X.length <= 30) (hY : Y.length <= 30) (hZ : Z.length <= 30) :
  (∀ (x y : Operand) (w : World), (binV .add 9 x y (.string ⟨N.toArray⟩) (.string ⟨#[32]⟩)).run Tryz.prog w = .ok (.string ⟨(N ++ [32]).toArray⟩) w) /\
  (∀ (x y : Operand) (w : World), (binV .add 9 x y (.string ⟨(N ++ [32]).toArray⟩) (.string ⟨X.toArray⟩)).run Tryz.prog w = .ok (.string ⟨(N ++ [32] ++ X).toArray⟩) w) /\
  (∀ (x y : Operand) (w : World), (binV .add 9 x y (.string ⟨(N ++ [32] ++ X).toArray⟩) (.string ⟨#[44, 32]⟩)).run Tryz.prog w = .ok (.string ⟨(N ++ [32] ++ X ++ [44, 32]).toArray⟩) w) /\
  (∀ (x y : Operand) (w : World), (binV .add 9 x y (.string ⟨(N ++ [32] ++ X ++ [44, 32]).toArray⟩) (.string ⟨Y.toArray⟩)).run Tryz.prog w = .ok (.string ⟨(N ++ [32] ++ X ++ [44, 32] ++ Y).toArray⟩) w) /\
  (∀ (x y : Operand) (w : World), (binV .add 9 x y (.string ⟨(N ++ [32] ++ X ++ [44, 32] ++ Y).toArray⟩) (.string ⟨#[44, 32]⟩)).run Tryz.prog w = .ok (.string ⟨(N ++ [32] ++ X ++ [44, 32] ++ Y ++ [44, 32]).toArray⟩) w) /\
  (∀ (x y : Operand) (w : World), (binV .add 9 x y (.string ⟨(N ++ [32] ++ X ++ [44, 32] ++ Y ++ [44, 32]).toArray⟩) (.string ⟨Z.toArray⟩)).run Tryz.prog w = .ok (.string ⟨(N ++ [32] ++ X ++ [44, 32] ++ Y ++ [44, 32] ++ Z).toArray⟩) w) :=
 ⟨addS (a := N) (b := [32]) (by simp; omega), addS (b := X) (by simp; omega), addS (b := [44, 32]) (by simp; omega), addS (b := Y) (by simp; omega), addS (b := [44, 32]) (by simp; omega), addS (b := Z) (by simp; omega)⟩
theorem row_n_len {k : Nat} (h : k < 69) : (row k).n.length <= 20 := by
 have : rowI.all (fun r => decide (r.n.length <= 20)) = true := by kernel_rfl
 have := List.all_eq_true.1 this _ (row_mem h)
 rwa [decide_eq_true_eq] at this
set_option maxHeartbeats 4000000 in
theorem rText_spec {w : World} {i : IZ} (hi : izOk i) (ho : okOp i.op = true) (hsm : smallI i) {K : Value -> World -> Prop} (hK : ∀ w', Ext [] w w' -> K (.string ⟨(textF i).toArray⟩) w') : callsK Tryz.prog 18 #[.agg (izC i).toArray] w K := by
 apply F18_ok
 unfold F18
 obtain ⟨k, hk, hrow, hkn, hop⟩ := rowZ_fact ho
 obtain ⟨hs1, hs2, hs3, hs4⟩ := hsm
 have i0 : (izC i)[0]? = some (.int .i64 i.op) := rfl
 have i1 : (izC i)[1]? = some (.int .i64 i.rd) := rfl
 have i2 : (izC i)[2]? = some (.int .i64 i.r1) := rfl
 have i3 : (izC i)[3]? = some (.int .i64 i.r2) := rfl
 have i4 : (izC i)[4]? = some (.int .i64 i.im) := rfl
 have hT : textF i = textF i := rfl
 conv at hT => rhs; unfold textF
 rw [hrow] at hT
 have hnm : nameR i = (row k).n := by unfold nameR; rw [hrow]
 rw [hnm] at hT
 simp (disch := first | exact qD9 | fail) only [qG7, Nat.reduceAdd, Nat.reduceLeDiff, Int.reduceToNat, Int.reduceAdd, Int.reduceSub, Int.reduceLT, Int.reduceLE, Nat.reduceSub, Nat.reduceMul, Nat.reduceEqDiff, izC_sub]
 have g0 : (w.alloc (.cells (izC i).toArray 48)).heap[w.heap.size]? = some (.cells (izC i).toArray 48 (0, 0)) := alloc_at rfl
 have hx0 : Ext [] w (w.alloc (.cells (izC i).toArray 48)) := Ext.alloc Ext.refl _ _
 refine rEncode_spec hi ho fun w1 hx1 => ?_
 have g1 := hx1.at g0 (by simp)
 have hx01 := hx0.trans hx1 (by simp)
 have l1 := lt_of_at g1
 cases he : encOk i with
 | false =>
  rw [he, if_neg (by decide)] at hT
  rw [hT] at hK
  simp (disch := first | exact qD9 | fail) only [qG7, Nat.reduceAdd, Nat.reduceLeDiff, Int.reduceToNat, Int.reduceAdd, Int.reduceSub, Int.reduceLT, Int.reduceLE, Nat.reduceSub, Nat.reduceMul, Nat.reduceEqDiff, joinBR]
  exact hK _ hx01
 | true =>
  rw [he, if_pos rfl] at hT
  simp (disch := first | exact qD9 | fail) only [qG7, Nat.reduceAdd, Nat.reduceLeDiff, Int.reduceToNat, Int.reduceAdd, Int.reduceSub, Int.reduceLT, Int.reduceLE, Nat.reduceSub, Nat.reduceMul, Nat.reduceEqDiff, joinBR]
  refine joinL.intro fun J0 hJ0 => ?_
  have hshr := (row_goodA hk).2.2.2.2.2
  have r0 : (rrC (row k))[0]? = some (.string ⟨(row k).n.toArray⟩) := rfl
  have r1 : (rrC (row k))[1]? = some (.int .u8 ((row k).s : Nat)) := rfl
  have hov := rrC_over (row k)
  have hpu := rrC_put (row k)
  have hle := rrC_len (row k)
  have hnl := row_n_len hk
  have hgo : ∀ b w2, w2.heap[b]? = some (.cells (rrC (row k)).toArray 98 (0, 0)) -> Ext [] w1 w2 -> J0 [.pointer (some ⟨b, 0, none⟩)] w2 := by
   intro b w2 gb hx2
   apply hJ0
   intro _
   have g2 := hx2.at g1 (by simp)
   have l2 := lt_of_at g2
   have lb := lt_of_at gb
   have hxe : Ext [] w w2.drew := (hx01.trans hx2 (by simp)).drew
   have hT1 : textF i = if orderS (row k).s = [] then (row k).n else (row k).n ++ ([32] ++ Lib.join ((orderS (row k).s).map (partF i)) [44, 32]) := hT
   clear hT hrow hnm hov hpu hle
   have p100 : partF i 100 = 99 :: dec i.rd := rfl
   have p97 : partF i 97 = 99 :: dec i.r1 := rfl
   have p98 : partF i 98 = 99 :: dec i.r2 := rfl
   have p109 : partF i 109 = dec i.im := rfl
   have ld := dec_len (n := i.rd)
   have l1' := dec_len (n := i.r1)
   have l2' := dec_len (n := i.r2)
   have lm := dec_len (n := i.im)
   have g2d : w2.drew.heap[w.heap.size]? = some (.cells (izC i).toArray 48 (0, 0)) := g2
   have gbd : w2.drew.heap[b]? = some (.cells (rrC (row k)).toArray 98 (0, 0)) := gb
   simp (disch := first | exact qD9 | fail) only [qG7, Nat.reduceAdd, Nat.reduceLeDiff, Int.reduceToNat, Int.reduceAdd, Int.reduceSub, Int.reduceLT, Int.reduceLE, Nat.reduceSub, Nat.reduceMul, Nat.reduceEqDiff, g2, i1]
   refine callsS.of _ (reg14_spec hs1 ⟨rfl, rfl⟩) ?_
   simp (disch := first | exact qD9 | fail) only [qG7, Nat.reduceAdd, Nat.reduceLeDiff, Int.reduceToNat, Int.reduceAdd, Int.reduceSub, Int.reduceLT, Int.reduceLE, Nat.reduceSub, Nat.reduceMul, Nat.reduceEqDiff, g2, i2]
   refine callsS.of _ (reg14_spec hs2 ⟨rfl, rfl⟩) ?_
   simp (disch := first | exact qD9 | fail) only [qG7, Nat.reduceAdd, Nat.reduceLeDiff, Int.reduceToNat, Int.reduceAdd, Int.reduceSub, Int.reduceLT, Int.reduceLE, Nat.reduceSub, Nat.reduceMul, Nat.reduceEqDiff, g2, i3]
   refine callsS.of _ (reg14_spec hs3 ⟨rfl, rfl⟩) ?_
   simp (disch := first | exact qD9 | fail) only [qG7, Nat.reduceAdd, Nat.reduceLeDiff, Int.reduceToNat, Int.reduceAdd, Int.reduceSub, Int.reduceLT, Int.reduceLE, Nat.reduceSub, Nat.reduceMul, Nat.reduceEqDiff, g2, i4]
   refine callsS.of _ (rnumber_spec hs4 ⟨rfl, rfl⟩) ?_
   simp (disch := first | exact qD9 | fail) only [qG7, Nat.reduceAdd, Nat.reduceLeDiff, Int.reduceToNat, Int.reduceAdd, Int.reduceSub, Int.reduceLT, Int.reduceLE, Nat.reduceSub, Nat.reduceMul, Nat.reduceEqDiff, gb, r0, r1]
   rcases hshr with h | h | h | h | h | h | h | h | h | h
   ·rw [h, show orderS 73 = [100, 97, 109] by decide, if_neg (by simp)] at hT1
    simp only [List.map_cons, List.map_nil, p100, p97, p98, p109, joinS, tail_cons, tail_nil, List.append_nil] at hT1
    simp only [<- List.append_assoc] at hT1
    rw [hT1] at hK
    obtain ⟨c1, c2, c3, c4, c5, c6⟩ := add3 (N := (row k).n) (X := (99 :: dec i.rd)) (Y := (99 :: dec i.r1)) (Z := (dec i.im)) (by omega) (by first | omega | (simp; omega) | simp) (by first | omega | (simp; omega) | simp) (by first | omega | (simp; omega) | simp)
    simp (disch := first | exact qD9 | fail) only [qG7, Nat.reduceAdd, Nat.reduceLeDiff, Int.reduceToNat, Int.reduceAdd, Int.reduceSub, Int.reduceLT, Int.reduceLE, Nat.reduceSub, Nat.reduceMul, Nat.reduceEqDiff, joinR, h, gb, r0, r1, c1, c2, c3, c4, c5, c6]
    first | exact hK _ hxe | exact fun _ => hK _ hxe
   ·rw [h, show orderS 67 = [100, 97, 109] by decide, if_neg (by simp)] at hT1
    simp only [List.map_cons, List.map_nil, p100, p97, p98, p109, joinS, tail_cons, tail_nil, List.append_nil] at hT1
    simp only [<- List.append_assoc] at hT1
    rw [hT1] at hK
    obtain ⟨c1, c2, c3, c4, c5, c6⟩ := add3 (N := (row k).n) (X := (99 :: dec i.rd)) (Y := (99 :: dec i.r1)) (Z := (dec i.im)) (by omega) (by first | omega | (simp; omega) | simp) (by first | omega | (simp; omega) | simp) (by first | omega | (simp; omega) | simp)
    simp (disch := first | exact qD9 | fail) only [qG7, Nat.reduceAdd, Nat.reduceLeDiff, Int.reduceToNat, Int.reduceAdd, Int.reduceSub, Int.reduceLT, Int.reduceLE, Nat.reduceSub, Nat.reduceMul, Nat.reduceEqDiff, joinR, h, gb, r0, r1, c1, c2, c3, c4, c5, c6]
    first | exact hK _ hxe | exact fun _ => hK _ hxe
   ·rw [h, show orderS 72 = [100, 97, 109] by decide, if_neg (by simp)] at hT1
    simp only [List.map_cons, List.map_nil, p100, p97, p98, p109, joinS, tail_cons, tail_nil, List.append_nil] at hT1
    simp only [<- List.append_assoc] at hT1
    rw [hT1] at hK
    obtain ⟨c1, c2, c3, c4, c5, c6⟩ := add3 (N := (row k).n) (X := (99 :: dec i.rd)) (Y := (99 :: dec i.r1)) (Z := (dec i.im)) (by omega) (by first | omega | (simp; omega) | simp) (by first | omega | (simp; omega) | simp) (by first | omega | (simp; omega) | simp)
    simp (disch := first | exact qD9 | fail) only [qG7, Nat.reduceAdd, Nat.reduceLeDiff, Int.reduceToNat, Int.reduceAdd, Int.reduceSub, Int.reduceLT, Int.reduceLE, Nat.reduceSub, Nat.reduceMul, Nat.reduceEqDiff, joinR, h, gb, r0, r1, c1, c2, c3, c4, c5, c6]
    first | exact hK _ hxe | exact fun _ => hK _ hxe
   ·rw [h, show orderS 83 = [98, 97, 109] by decide, if_neg (by simp)] at hT1
    simp only [List.map_cons, List.map_nil, p100, p97, p98, p109, joinS, tail_cons, tail_nil, List.append_nil] at hT1
    simp only [<- List.append_assoc] at hT1
    rw [hT1] at hK
    obtain ⟨c1, c2, c3, c4, c5, c6⟩ := add3 (N := (row k).n) (X := (99 :: dec i.r2)) (Y := (99 :: dec i.r1)) (Z := (dec i.im)) (by omega) (by first | omega | (simp; omega) | simp) (by first | omega | (simp; omega) | simp) (by first | omega | (simp; omega) | simp)
    simp (disch := first | exact qD9 | fail) only [qG7, Nat.reduceAdd, Nat.reduceLeDiff, Int.reduceToNat, Int.reduceAdd, Int.reduceSub, Int.reduceLT, Int.reduceLE, Nat.reduceSub, Nat.reduceMul, Nat.reduceEqDiff, joinR, h, gb, r0, r1, c1, c2, c3, c4, c5, c6]
    first | exact hK _ hxe | exact fun _ => hK _ hxe
   ·rw [h, show orderS 66 = [97, 98, 109] by decide, if_neg (by simp)] at hT1
    simp only [List.map_cons, List.map_nil, p100, p97, p98, p109, joinS, tail_cons, tail_nil, List.append_nil] at hT1
    simp only [<- List.append_assoc] at hT1
    rw [hT1] at hK
    obtain ⟨c1, c2, c3, c4, c5, c6⟩ := add3 (N := (row k).n) (X := (99 :: dec i.r1)) (Y := (99 :: dec i.r2)) (Z := (dec i.im)) (by omega) (by first | omega | (simp; omega) | simp) (by first | omega | (simp; omega) | simp) (by first | omega | (simp; omega) | simp)
    simp (disch := first | exact qD9 | fail) only [qG7, Nat.reduceAdd, Nat.reduceLeDiff, Int.reduceToNat, Int.reduceAdd, Int.reduceSub, Int.reduceLT, Int.reduceLE, Nat.reduceSub, Nat.reduceMul, Nat.reduceEqDiff, joinR, h, gb, r0, r1, c1, c2, c3, c4, c5, c6]
    first | exact hK _ hxe | exact fun _ => hK _ hxe
   ·rw [h, show orderS 85 = [100, 109] by decide, if_neg (by simp)] at hT1
    simp only [List.map_cons, List.map_nil, p100, p97, p98, p109, joinS, tail_cons, tail_nil, List.append_nil] at hT1
    simp only [<- List.append_assoc] at hT1
    rw [hT1] at hK
    obtain ⟨c1, c2, c3, c4, c5, c6⟩ := add3 (N := (row k).n) (X := (99 :: dec i.rd)) (Y := (dec i.im)) (Z := ([] : List UInt8)) (by omega) (by first | omega | (simp; omega) | simp) (by first | omega | (simp; omega) | simp) (by first | omega | (simp; omega) | simp)
    simp (disch := first | exact qD9 | fail) only [qG7, Nat.reduceAdd, Nat.reduceLeDiff, Int.reduceToNat, Int.reduceAdd, Int.reduceSub, Int.reduceLT, Int.reduceLE, Nat.reduceSub, Nat.reduceMul, Nat.reduceEqDiff, joinR, h, gb, r0, r1, c1, c2, c3, c4, c5, c6]
    first | exact hK _ hxe | exact fun _ => hK _ hxe
   ·rw [h, show orderS 74 = [100, 109] by decide, if_neg (by simp)] at hT1
    simp only [List.map_cons, List.map_nil, p100, p97, p98, p109, joinS, tail_cons, tail_nil, List.append_nil] at hT1
    simp only [<- List.append_assoc] at hT1
    rw [hT1] at hK
    obtain ⟨c1, c2, c3, c4, c5, c6⟩ := add3 (N := (row k).n) (X := (99 :: dec i.rd)) (Y := (dec i.im)) (Z := ([] : List UInt8)) (by omega) (by first | omega | (simp; omega) | simp) (by first | omega | (simp; omega) | simp) (by first | omega | (simp; omega) | simp)
    simp (disch := first | exact qD9 | fail) only [qG7, Nat.reduceAdd, Nat.reduceLeDiff, Int.reduceToNat, Int.reduceAdd, Int.reduceSub, Int.reduceLT, Int.reduceLE, Nat.reduceSub, Nat.reduceMul, Nat.reduceEqDiff, joinR, h, gb, r0, r1, c1, c2, c3, c4, c5, c6]
    first | exact hK _ hxe | exact fun _ => hK _ hxe
   ·rw [h, show orderS 82 = [100, 97, 98] by decide, if_neg (by simp)] at hT1
    simp only [List.map_cons, List.map_nil, p100, p97, p98, p109, joinS, tail_cons, tail_nil, List.append_nil] at hT1
    simp only [<- List.append_assoc] at hT1
    rw [hT1] at hK
    obtain ⟨c1, c2, c3, c4, c5, c6⟩ := add3 (N := (row k).n) (X := (99 :: dec i.rd)) (Y := (99 :: dec i.r1)) (Z := (99 :: dec i.r2)) (by omega) (by first | omega | (simp; omega) | simp) (by first | omega | (simp; omega) | simp) (by first | omega | (simp; omega) | simp)
    simp (disch := first | exact qD9 | fail) only [qG7, Nat.reduceAdd, Nat.reduceLeDiff, Int.reduceToNat, Int.reduceAdd, Int.reduceSub, Int.reduceLT, Int.reduceLE, Nat.reduceSub, Nat.reduceMul, Nat.reduceEqDiff, joinR, h, gb, r0, r1, c1, c2, c3, c4, c5, c6]
    first | exact hK _ hxe | exact fun _ => hK _ hxe
   ·rw [h, show orderS 71 = [100, 97] by decide, if_neg (by simp)] at hT1
    simp only [List.map_cons, List.map_nil, p100, p97, p98, p109, joinS, tail_cons, tail_nil, List.append_nil] at hT1
    simp only [<- List.append_assoc] at hT1
    rw [hT1] at hK
    obtain ⟨c1, c2, c3, c4, c5, c6⟩ := add3 (N := (row k).n) (X := (99 :: dec i.rd)) (Y := (99 :: dec i.r1)) (Z := ([] : List UInt8)) (by omega) (by first | omega | (simp; omega) | simp) (by first | omega | (simp; omega) | simp) (by first | omega | (simp; omega) | simp)
    simp (disch := first | exact qD9 | fail) only [qG7, Nat.reduceAdd, Nat.reduceLeDiff, Int.reduceToNat, Int.reduceAdd, Int.reduceSub, Int.reduceLT, Int.reduceLE, Nat.reduceSub, Nat.reduceMul, Nat.reduceEqDiff, joinR, h, gb, r0, r1, c1, c2, c3, c4, c5, c6]
    first | exact hK _ hxe | exact fun _ => hK _ hxe
   ·rw [h, show orderS 78 = [] by decide, if_pos rfl] at hT1
    rw [hT1] at hK
    simp (disch := first | exact qD9 | fail) only [qG7, Nat.reduceAdd, Nat.reduceLeDiff, Int.reduceToNat, Int.reduceAdd, Int.reduceSub, Int.reduceLT, Int.reduceLE, Nat.reduceSub, Nat.reduceMul, Nat.reduceEqDiff, joinR, h, gb, r0, r1]
    first | exact hK _ hxe | exact fun _ => hK _ hxe
  have hop' : i.op - 1 = ((k : Nat) : Int) := by omega
  have hrk : (rowI.map rrC)[k]? = some (rrC (row k)) := by rw [List.getElem?_map]; unfold row; rw [List.getD_eq_getElem?_getD, List.getElem?_eq_getElem (by rw [rowI_len]; exact hk)]; rfl
  have g1d : w1.drew.heap[w.heap.size]? = some (.cells (izC i).toArray 48 (0, 0)) := g1
  refine relX.ext [] ?_
  refine postX.intro (fun v w => RowsAt w v 5 (rowI.map rrC)) (fun v w w' hR h => h.ext hR (by simp)) (fun v w' hR _ => by
   simp (disch := first | exact qD9 | fail) only [qG7, Nat.reduceAdd, Nat.reduceLeDiff, Int.reduceToNat, Int.reduceAdd, Int.reduceSub, Int.reduceLT, Int.reduceLE, Nat.reduceSub, Nat.reduceMul, Nat.reduceEqDiff]
   exact rRows_spec fun v w2 hv hx2 _ => okX.mk (p := fun v w => RowsAt w v 5 (rowI.map rrC)) hx2 hv) ?_
  (apply postX.is; (focus (intro v w2 hR hd; (try simp (disch := first | exact qD9 | fail) only [qG7, Nat.reduceAdd, Nat.reduceLeDiff, Int.reduceToNat, Int.reduceAdd, Int.reduceSub, Int.reduceLT, Int.reduceLE, Nat.reduceSub, Nat.reduceMul, Nat.reduceEqDiff, hd]); exact okX.is)))
  (apply postX.is; (focus (intro v w2 hR hd; have e0 := hR.at g1d (by simp); (try simp (disch := first | exact qD9 | fail) only [qG7, Nat.reduceAdd, Nat.reduceLeDiff, Int.reduceToNat, Int.reduceAdd, Int.reduceSub, Int.reduceLT, Int.reduceLE, Nat.reduceSub, Nat.reduceMul, Nat.reduceEqDiff, hd, e0, i0]); exact okX.is)))
  (apply postX.is; (focus (intro v w2 hR hd; (try simp (disch := first | exact qD9 | fail) only [qG7, Nat.reduceAdd, Nat.reduceLeDiff, Int.reduceToNat, Int.reduceAdd, Int.reduceSub, Int.reduceLT, Int.reduceLE, Nat.reduceSub, Nat.reduceMul, Nat.reduceEqDiff, hd, hop']); exact okX.is)))
  refine postX.intro (fun v w => ∃ b o lv E f, v = .pointer (some ⟨b, o, none⟩) /\ w.heap[b]? = some (.cells lv.toArray E f) /\ o + 5 <= lv.length /\ sub lv o 5 = rrC (row k)) (fun v w w' hR h => by
   obtain ⟨b, o, lv, E, f, h1, h2, h3⟩ := h
   exact ⟨b, o, lv, E, f, h1, hR.at h2 (by simp), h3⟩) (fun v w' hR hd => by
   obtain ⟨hv, d20, -⟩ := hd
   obtain ⟨bv, o, lv, E, f, hix, hbk, hfit, hblt, hbk2, hsub, hget⟩ := RowsAt.ixR (P := Tryz.prog) (t := 95) Tryz.underlying95 Tryz.sizeOf98 hv (k := k) (r := rrC (row k)) hrk
   have hi0 := fun w => hix w .i64 k rfl
   simp (disch := first | exact qD9 | fail) only [qG7, Nat.reduceAdd, Nat.reduceLeDiff, Int.reduceToNat, Int.reduceAdd, Int.reduceSub, Int.reduceLT, Int.reduceLE, Nat.reduceSub, Nat.reduceMul, Nat.reduceEqDiff, d20, hi0]
   exact okX.mk Ext.refl ⟨bv, o, lv, E, f, rfl, hbk, hfit, hsub o rfl⟩) ?_
  refine postX.is (.agg (rrC (row k)).toArray) (fun v w' hR hd => by
   obtain ⟨⟨b, o, lv, E, f, h1, h2, h3, h4⟩, -⟩ := hd
   simp (disch := first | exact qD9 | fail) only [qG7, Nat.reduceAdd, Nat.reduceLeDiff, Int.reduceToNat, Int.reduceAdd, Int.reduceSub, Int.reduceLT, Int.reduceLE, Nat.reduceSub, Nat.reduceMul, Nat.reduceEqDiff, h1, h2, h4]
   exact okX.is) ?_
  refine postX.intro (fun v w' => ∃ b, v = .pointer (some ⟨b, 0, none⟩) /\ w1.heap.size <= b /\ w'.heap[b]? = some (.cells [.string ⟨#[]⟩, .int .u8 0, .int .u32 0, .int .u32 0, .int .u32 0].toArray 98 (0, 0))) (fun v w w' hR h => by
   obtain ⟨b, h1, h2, h3⟩ := h
   exact ⟨b, h1, h2, hR.at h3 (by simp)⟩) (fun v w' hR hd => by
   simp (disch := first | exact qD9 | fail) only [qG7, Nat.reduceAdd, Nat.reduceLeDiff, Int.reduceToNat, Int.reduceAdd, Int.reduceSub, Int.reduceLT, Int.reduceLE, Nat.reduceSub, Nat.reduceMul, Nat.reduceEqDiff]
   exact okX.mk qX ⟨_, rfl, hR.size, alloc_at rfl⟩) ?_
  intro V w3 hR hd _
  obtain ⟨-, -, -, -, -, d22, ⟨b5, d5, hb5, g5⟩, -⟩ := hd
  simp (disch := first | exact qD9 | fail) only [qG7, Nat.reduceAdd, Nat.reduceLeDiff, Int.reduceToNat, Int.reduceAdd, Int.reduceSub, Int.reduceLT, Int.reduceLE, Nat.reduceSub, Nat.reduceMul, Nat.reduceEqDiff, d22, d5, g5, hov, hpu, hle]
  exact hgo _ _ (upd_at g5) ((Ext.refl.drew.trans hR (by simp)).updN hb5)
open Go.Fx
set_option maxRecDepth 100000
set_option maxHeartbeats 1000000 in
theorem rgoes_spec {w : World} {i : IZ} {a n : Nat} (ho : okOp i.op = true) (ha : a <= 1000000) (hn : n <= 1000000) (him : -10000000000 < i.im /\ i.im < 10000000000) {K : Value -> World -> Prop} (hK : ∀ w', Ext [] w w' -> K (.tuple #[.int .i64 (targetF i a n).1, .bool (targetF i a n).2]) w') : callsK Tryz.prog 19 #[.agg (izC i).toArray, .int .i64 (a : Nat), .int .i64 (n : Nat)] w K := by
 apply F19_ok
 unfold F19
 obtain ⟨k, hk, hrow, hkn, hop⟩ := rowZ_fact ho
 have i0 : (izC i)[0]? = some (.int .i64 i.op) := rfl
 have i4 : (izC i)[4]? = some (.int .i64 i.im) := rfl
 simp (disch := first | exact qD9 | fail) only [qG7, Nat.reduceAdd, Nat.reduceLeDiff, Int.reduceToNat, Int.reduceAdd, Int.reduceSub, Int.reduceLT, Int.reduceLE, Nat.reduceSub, Nat.reduceMul, Nat.reduceEqDiff, izC_sub]
 have g0 : (w.alloc (.cells (izC i).toArray 48)).heap[w.heap.size]? = some (.cells (izC i).toArray 48 (0, 0)) := alloc_at rfl
 have hx0 : Ext [] w (w.alloc (.cells (izC i).toArray 48)) := Ext.alloc Ext.refl _ _
 generalize w.alloc (.cells (izC i).toArray 48) = w1 at *
 have hop' : i.op - 1 = ((k : Nat) : Int) := by omega
 have hrk : (rowI.map rrC)[k]? = some (rrC (row k)) := by rw [List.getElem?_map]; unfold row; rw [List.getD_eq_getElem?_getD, List.getElem?_eq_getElem (by rw [rowI_len]; exact hk)]; rfl
 have g1d : w1.drew.heap[w.heap.size]? = some (.cells (izC i).toArray 48 (0, 0)) := g0
 refine joinL.intro fun J0 hJ0 => ?_
 have hgo : ∀ w2, Ext [] w1 w2 -> J0 [.int .u8 ((row k).s : Nat)] w2 := by
  intro w2 hx2
  apply hJ0
  intro _
  have g2 := hx2.at g0 (by simp)
  have hx02 := hx0.trans hx2 (by simp)
  have hT : targetF i a n = if ((rowZ i.op).s ≠ 66 /\ (rowZ i.op).s ≠ 74) ∨ i.im % 4 ≠ 0 then (0, false) else (a + i.im / 4, decide (0 <= a + i.im / 4 /\ a + i.im / 4 <= n)) := rfl
  rw [hrow] at hT
  generalize targetF i a n = T at *
  generalize (row k).s = s at *
  generalize i.im = m at *
  by_cases h1 : s ≠ 66 /\ s ≠ 74
  ·rw [if_pos (.inl h1)] at hT
   rw [hT] at hK
   obtain ⟨h1a, h1b⟩ := h1
   have e1 : ¬ ((s : Nat) : Int) = 66 := by omega
   have e2 : ¬ ((s : Nat) : Int) = 74 := by omega
   simp (disch := first | exact qD9 | fail) only [qG7, Nat.reduceAdd, Nat.reduceLeDiff, Int.reduceToNat, Int.reduceAdd, Int.reduceSub, Int.reduceLT, Int.reduceLE, Nat.reduceSub, Nat.reduceMul, Nat.reduceEqDiff, joinBR, e1, e2]
   exact hK _ hx02
  ·have hs : s = 66 ∨ s = 74 := by omega
   by_cases hm : m % 4 = 0
   ·have hd : (4 : Int) ∣ m := Int.dvd_of_emod_eq_zero hm
    have t1 : m.tmod 4 = 0 := Int.tmod_eq_zero_of_dvd hd
    have t2 : m.tdiv 4 = m / 4 := Int.tdiv_eq_ediv_of_dvd hd
    rw [if_neg (by omega)] at hT
    rw [hT] at hK
    have hb2 : -2500000001 <= m / 4 /\ m / 4 <= 2500000001 := by omega
    generalize m / 4 = q at *
    rcases hs with rfl | rfl
    all_goals
     by_cases c1 : 0 <= (a : Int) + q
     ·by_cases c2 : (a : Int) + q <= n
      ·simp (disch := first | exact qD9 | fail) only [qG7, Nat.reduceAdd, Nat.reduceLeDiff, Int.reduceToNat, Int.reduceAdd, Int.reduceSub, Int.reduceLT, Int.reduceLE, Nat.reduceSub, Nat.reduceMul, Nat.reduceEqDiff, joinBR, g2, i4, t1, t2]
       rw [decide_eq_true ⟨c1, c2⟩] at hK
       exact hK _ hx02
      ·simp (disch := first | exact qD9 | fail) only [qG7, Nat.reduceAdd, Nat.reduceLeDiff, Int.reduceToNat, Int.reduceAdd, Int.reduceSub, Int.reduceLT, Int.reduceLE, Nat.reduceSub, Nat.reduceMul, Nat.reduceEqDiff, joinBR, g2, i4, t1, t2]
       rw [decide_eq_false (fun h => c2 h.2)] at hK
       exact hK _ hx02
     ·simp (disch := first | exact qD9 | fail) only [qG7, Nat.reduceAdd, Nat.reduceLeDiff, Int.reduceToNat, Int.reduceAdd, Int.reduceSub, Int.reduceLT, Int.reduceLE, Nat.reduceSub, Nat.reduceMul, Nat.reduceEqDiff, joinBR, g2, i4, t1, t2]
      rw [decide_eq_false (fun h => c1 h.1)] at hK
      exact hK _ hx02
   ·have t1 : ¬ m.tmod 4 = 0 := fun h => hm (Int.emod_eq_zero_of_dvd (Int.dvd_of_tmod_eq_zero h))
    rw [if_pos (.inr hm)] at hT
    rw [hT] at hK
    rcases hs with rfl | rfl
    all_goals
     simp (disch := first | exact qD9 | fail) only [qG7, Nat.reduceAdd, Nat.reduceLeDiff, Int.reduceToNat, Int.reduceAdd, Int.reduceSub, Int.reduceLT, Int.reduceLE, Nat.reduceSub, Nat.reduceMul, Nat.reduceEqDiff, joinBR, g2, i4, t1]
     exact hK _ hx02
 simp (disch := first | exact qD9 | fail) only [qG7, Nat.reduceAdd, Nat.reduceLeDiff, Int.reduceToNat, Int.reduceAdd, Int.reduceSub, Int.reduceLT, Int.reduceLE, Nat.reduceSub, Nat.reduceMul, Nat.reduceEqDiff]
 refine relX.ext [] ?_
 refine postX.intro (fun v w => RowsAt w v 5 (rowI.map rrC)) (fun v w w' hR h => h.ext hR (by simp)) (fun v w' hR _ => by
  simp (disch := first | exact qD9 | fail) only [qG7, Nat.reduceAdd, Nat.reduceLeDiff, Int.reduceToNat, Int.reduceAdd, Int.reduceSub, Int.reduceLT, Int.reduceLE, Nat.reduceSub, Nat.reduceMul, Nat.reduceEqDiff]
  exact rRows_spec fun v w2 hv hx2 _ => okX.mk (p := fun v w => RowsAt w v 5 (rowI.map rrC)) hx2 hv) ?_
 (apply postX.is; (focus (intro v w2 hR hd; (try simp (disch := first | exact qD9 | fail) only [qG7, Nat.reduceAdd, Nat.reduceLeDiff, Int.reduceToNat, Int.reduceAdd, Int.reduceSub, Int.reduceLT, Int.reduceLE, Nat.reduceSub, Nat.reduceMul, Nat.reduceEqDiff, hd]); exact okX.is)))
 (apply postX.is; (focus (intro v w2 hR hd; have e0 := hR.at g1d (by simp); (try simp (disch := first | exact qD9 | fail) only [qG7, Nat.reduceAdd, Nat.reduceLeDiff, Int.reduceToNat, Int.reduceAdd, Int.reduceSub, Int.reduceLT, Int.reduceLE, Nat.reduceSub, Nat.reduceMul, Nat.reduceEqDiff, hd, e0, i0]); exact okX.is)))
 (apply postX.is; (focus (intro v w2 hR hd; (try simp (disch := first | exact qD9 | fail) only [qG7, Nat.reduceAdd, Nat.reduceLeDiff, Int.reduceToNat, Int.reduceAdd, Int.reduceSub, Int.reduceLT, Int.reduceLE, Nat.reduceSub, Nat.reduceMul, Nat.reduceEqDiff, hd, hop']); exact okX.is)))
 refine postX.intro (fun v w => ∃ (b o : Nat) (lv : List Value) (E : TypeId) (f : Nat × Nat), v = .pointer (some ⟨b, o, none⟩) /\ w.heap[b]? = some (.cells lv.toArray E f) /\ o + 5 <= lv.length /\ lv[o + 1]? = some (.int .u8 ((row k).s : Nat))) (fun v w w' hR h => by
  obtain ⟨b, o, lv, E, f, h1, h2, h3⟩ := h
  exact ⟨b, o, lv, E, f, h1, hR.at h2 (by simp), h3⟩) (fun v w' hR hd => by
  obtain ⟨hv, d20, -⟩ := hd
  obtain ⟨bv, o, lv, E, f, hix, hbk, hfit, hblt, hbk2, hsub, hget⟩ := RowsAt.ixR (P := Tryz.prog) (t := 95) Tryz.underlying95 Tryz.sizeOf98 hv (k := k) (r := rrC (row k)) hrk
  have hi0 := fun w => hix w .i64 k rfl
  have hc1 : lv[o + 1]? = some (.int .u8 ((row k).s : Nat)) := hget (o + 1) 1 rfl (by omega)
  simp (disch := first | exact qD9 | fail) only [qG7, Nat.reduceAdd, Nat.reduceLeDiff, Int.reduceToNat, Int.reduceAdd, Int.reduceSub, Int.reduceLT, Int.reduceLE, Nat.reduceSub, Nat.reduceMul, Nat.reduceEqDiff, d20, hi0]
  exact okX.mk Ext.refl ⟨bv, o, lv, E, f, rfl, hbk, hfit, hc1⟩) ?_
 refine postX.intro (fun v w => ∃ (b o : Nat) (lv : List Value) (E : TypeId) (f : Nat × Nat), v = .pointer (some ⟨b, o + 1, none⟩) /\ w.heap[b]? = some (.cells lv.toArray E f) /\ o + 5 <= lv.length /\ lv[o + 1]? = some (.int .u8 ((row k).s : Nat))) (fun v w w' hR h => by
  obtain ⟨b, o, lv, E, f, h1, h2, h3⟩ := h
  exact ⟨b, o, lv, E, f, h1, hR.at h2 (by simp), h3⟩) (fun v w' hR hd => by
  obtain ⟨⟨b, o, lv, E, f, h1, h2, h3⟩, -⟩ := hd
  simp (disch := first | exact qD9 | fail) only [qG7, Nat.reduceAdd, Nat.reduceLeDiff, Int.reduceToNat, Int.reduceAdd, Int.reduceSub, Int.reduceLT, Int.reduceLE, Nat.reduceSub, Nat.reduceMul, Nat.reduceEqDiff, h1]
  exact okX.mk Ext.refl ⟨b, o, lv, E, f, rfl, h2, h3⟩) ?_
 refine postX.is (.int .u8 ((row k).s : Nat)) (fun v w' hR hd => by
  obtain ⟨⟨b, o, lv, E, f, h1, h2, h3, h4⟩, -⟩ := hd
  simp (disch := first | exact qD9 | fail) only [qG7, Nat.reduceAdd, Nat.reduceLeDiff, Int.reduceToNat, Int.reduceAdd, Int.reduceSub, Int.reduceLT, Int.reduceLE, Nat.reduceSub, Nat.reduceMul, Nat.reduceEqDiff, h1, h2, h4]
  exact okX.is) ?_
 intro V w3 hR hd _
 obtain ⟨-, -, -, -, -, -, d16, -⟩ := hd
 rw [d16]
 exact hgo _ (Ext.refl.drew.trans hR (by simp))
open Go.Fx
set_option maxRecDepth 100000
theorem dcd_op {W : Nat} (hW : W < 4294967296) (h : (dcdF W).2 = true) : okOp (dcdF W).1.op = true := (enc_ranges (dcd_enc hW h).1).1
theorem dcd_small {W : Nat} (hW : W < 4294967296) (h : (dcdF W).2 = true) : smallI (dcdF W).1 := by
 obtain ⟨-, him⟩ := dcd_ok hW
 obtain ⟨j, h1, h2, h3⟩ := dcd_some h
 obtain ⟨f1, f2, f3, -⟩ := ofK_fields W j
 have key : ∀ (c : Bool) (x : Nat), -10000000000 < (if c = true then ((x % 2 ^ 5 : Nat) : Int) else 0) /\ (if c = true then ((x % 2 ^ 5 : Nat) : Int) else 0) < 10000000000 := by
  intro c x
  have := Nat.mod_lt x (show 0 < 2 ^ 5 by decide)
  split <;> omega
 refine ⟨?_, ?_, ?_, him⟩
 ·rw [h3, f1]; exact key _ _
 ·rw [h3, f2]; exact key _ _
 ·rw [h3, f3]; exact key _ _
theorem zI_over (i : IZ) : splice [.int .i64 0, .int .i64 0, .int .i64 0, .int .i64 0, .int .i64 0] 0 (izC i) = izC i := rfl
theorem anyK_top {ws : List Nat} {k p : Nat} (hk : k < ws.length) (h : (goF (ws.getD k 0) k ws.length).2 = true) (hp : (goF (ws.getD k 0) k ws.length).1 = p) : mkB ws p = true := mk_of_go hk h hp
set_option maxHeartbeats 1000000 in
theorem rmarked_spec {w : World} {ws : Value} {L : List Nat} {p : Nat} (hv : RowsAt w ws 1 (L.map wC)) (hL : ∀ x ∈ L, x < 4294967296) (hn : L.length <= 100) {K : Value -> World -> Prop} (hK : ∀ w', Ext [] w w' -> K (.bool (mkB L p)) w') :
  callsK Tryz.prog 14 #[ws, .int .i64 (p : Nat)] w K := by
 apply F14_ok
 unfold F14
 have hlv := hv.lenR (ty := 3) Tryz.underlying22
 rw [List.length_map] at hlv
 refine loopT.intro (fun st w' => ∃ (k : Nat), k <= L.length /\ st = [.int .i64 (k : Nat)] /\ anyK L k p = false /\ Ext [] w w')
  (fun st _ => match st with
   | [.int _ z] => L.length - z.toNat
   | _ => 0) ⟨0, Nat.zero_le _, rfl, rfl, Ext.refl⟩ ?_
 rintro st w1 ⟨k, hk, rfl, hany, hx1⟩ _
 by_cases hkl : k < L.length
 ·have hv1 := hv.ext hx1 (by simp)
  obtain ⟨bv, o, lv, E, f, hix, hbv, hfit, hblt, hbk, hsub, hget⟩ := RowsAt.ixR (P := Tryz.prog) (t := 22) Tryz.underlying22 Tryz.sizeOf28 hv1 (k := k) (r := wC L[k]) (by simp [hkl])
  have hc0 : lv[o]? = some (.int .u32 (L[k] : Nat)) := hget (o + 0) 0 rfl (by omega)
  have hi0 := fun w => hix w .i64 k rfl
  have hW : L[k] < 4294967296 := hL _ (List.getElem_mem hkl)
  have hgd : L.getD k 0 = L[k] := by simp [hkl]
  have hsuc := anyK_succ L k p
  rw [hany, hgd, Bool.false_or] at hsuc
  have htop := anyK_top (ws := L) (p := p) hkl
  rw [hgd] at htop
  simp (disch := first | exact qD9 | fail) only [qG7, Nat.reduceAdd, Nat.reduceLeDiff, Int.reduceToNat, Int.reduceAdd, Int.reduceSub, Int.reduceLT, Int.reduceLE, Nat.reduceSub, Nat.reduceMul, Nat.reduceEqDiff, hlv]
  refine joinL.intro fun J2 hJ2 => ?_
  have hnext : ∀ w5, anyK L (k + 1) p = false -> Ext [] w w5 -> J2 [] w5 := by
   intro w5 ha hx5
   apply hJ2
   intro _
   simp (disch := first | exact qD9 | fail) only [qG7, Nat.reduceAdd, Nat.reduceLeDiff, Int.reduceToNat, Int.reduceAdd, Int.reduceSub, Int.reduceLT, Int.reduceLE, Nat.reduceSub, Nat.reduceMul, Nat.reduceEqDiff]
   exact ⟨⟨k + 1, hkl, by congr 3, ha, hx5⟩, by omega⟩
  simp (disch := first | exact qD9 | fail) only [qG7, Nat.reduceAdd, Nat.reduceLeDiff, Int.reduceToNat, Int.reduceAdd, Int.reduceSub, Int.reduceLT, Int.reduceLE, Nat.reduceSub, Nat.reduceMul, Nat.reduceEqDiff, hi0, hbv, hc0]
  refine rDecode_spec hW fun w2 hx2 => ?_
  have hx12 := hx1.trans hx2 (by simp)
  have hop := dcd_op hW
  obtain ⟨-, him⟩ := dcd_ok hW
  have hG : goF L[k] k L.length = ((targetF (dcdF L[k]).1 k L.length).1, (dcdF L[k]).2 && (targetF (dcdF L[k]).1 k L.length).2) := rfl
  rw [hG] at hsuc htop
  have z1 := zI_over
  generalize dcdF L[k] = D at *
  have hx3 : Ext [] w2 (w2.alloc (.cells (izC D.1).toArray 48)) := qX
  have g3 : (w2.alloc (.cells (izC D.1).toArray 48)).heap[w2.heap.size]? = some (.cells (izC D.1).toArray 48 (0, 0)) := alloc_at rfl
  have hx13 := hx12.trans hx3 (by simp)
  cases hd : D.2 with
  | false =>
   rw [hd] at hsuc
   simp (disch := first | exact qD9 | fail) only [qG7, Nat.reduceAdd, Nat.reduceLeDiff, Int.reduceToNat, Int.reduceAdd, Int.reduceSub, Int.reduceLT, Int.reduceLE, Nat.reduceSub, Nat.reduceMul, Nat.reduceEqDiff, joinBR, z1]
   exact hnext _ hsuc hx13
  | true =>
   rw [hd] at hsuc htop
   simp (disch := first | exact qD9 | fail) only [qG7, Nat.reduceAdd, Nat.reduceLeDiff, Int.reduceToNat, Int.reduceAdd, Int.reduceSub, Int.reduceLT, Int.reduceLE, Nat.reduceSub, Nat.reduceMul, Nat.reduceEqDiff, joinBR, z1, hlv, g3, izC_sub]
   refine rgoes_spec (a := k) (n := L.length) (hop hd) (by omega) (by omega) him fun w4 hx4 => ?_
   have hx14 := hx13.trans hx4 (by simp)
   generalize targetF D.1 k L.length = T at *
   dsimp only at htop hsuc
   cases ht : T.2 with
   | false =>
    rw [ht] at hsuc
    simp (disch := first | exact qD9 | fail) only [qG7, Nat.reduceAdd, Nat.reduceLeDiff, Int.reduceToNat, Int.reduceAdd, Int.reduceSub, Int.reduceLT, Int.reduceLE, Nat.reduceSub, Nat.reduceMul, Nat.reduceEqDiff, joinBR]
    exact hnext _ hsuc hx14
   | true =>
    rw [ht] at hsuc htop
    by_cases hp : T.1 = (p : Int)
    ·simp (disch := first | exact qD9 | fail) only [qG7, Nat.reduceAdd, Nat.reduceLeDiff, Int.reduceToNat, Int.reduceAdd, Int.reduceSub, Int.reduceLT, Int.reduceLE, Nat.reduceSub, Nat.reduceMul, Nat.reduceEqDiff, joinBR, hp]
     rw [htop rfl hp] at hK
     exact hK _ hx14
    ·rw [decide_eq_false hp] at hsuc
     simp (disch := first | exact qD9 | fail) only [qG7, Nat.reduceAdd, Nat.reduceLeDiff, Int.reduceToNat, Int.reduceAdd, Int.reduceSub, Int.reduceLT, Int.reduceLE, Nat.reduceSub, Nat.reduceMul, Nat.reduceEqDiff, joinBR, hp]
     exact hnext _ hsuc hx14
 ·obtain rfl : k = L.length := by omega
  have hm : mkB L p = false := hany
  rw [hm] at hK
  simp (disch := first | exact qD9 | fail) only [qG7, Nat.reduceAdd, Nat.reduceLeDiff, Int.reduceToNat, Int.reduceAdd, Int.reduceSub, Int.reduceLT, Int.reduceLE, Nat.reduceSub, Nat.reduceMul, Nat.reduceEqDiff, hlv]
  exact hK _ hx1
open Go.Fx
set_option maxRecDepth 100000
set_option maxHeartbeats 2000000 in
theorem rListing_spec {w : World} {ws : Value} {L : List Nat} (hv : RowsAt w ws 1 (L.map wC)) (hL : ∀ x ∈ L, x < 4294967296) (hn : L.length <= 100) {K : Value -> World -> Prop} (hK : ∀ w', Ext [] w w' -> K (.string ⟨(listF L).toArray⟩) w') :
  callsK Tryz.prog 5 #[ws] w K := by
 apply F5_ok
 unfold F5
 have hlv := hv.lenR (ty := 3) Tryz.underlying22
 rw [List.length_map] at hlv
 refine loopT.intro (fun st w' => ∃ (k : Nat), k <= L.length /\ st = [.string ⟨(listK L k).toArray⟩, .int .i64 (k : Nat)] /\ Ext [] w w')
  (fun st _ => match st with
   | [_, .int _ z] => L.length + 1 - z.toNat
   | _ => 0) ⟨0, Nat.zero_le _, rfl, Ext.refl⟩ ?_
 rintro st w1 ⟨k, hk, rfl, hx1⟩ _
 have hv1 := hv.ext hx1 (by simp)
 have hll := listK_len L k
 have hmkl := markL_len L k
 simp (disch := first | exact qD9 | fail) only [qG7, Nat.reduceAdd, Nat.reduceLeDiff, Int.reduceToNat, Int.reduceAdd, Int.reduceSub, Int.reduceLT, Int.reduceLE, Nat.reduceSub, Nat.reduceMul, Nat.reduceEqDiff, hlv, List.getD_cons_zero, List.getD_cons_succ]
 refine joinL.intro fun J2 hJ2 => ?_
 have hnext : ∀ (k1 : k < L.length) (t : List UInt8) w5, t = listK L (k + 1) -> Ext [] w w5 -> J2 [.string ⟨t.toArray⟩] w5 := by
  intro k1 t w5 ht hx5
  apply hJ2
  intro _
  rw [ht]
  simp (disch := first | exact qD9 | fail) only [qG7, Nat.reduceAdd, Nat.reduceLeDiff, Int.reduceToNat, Int.reduceAdd, Int.reduceSub, Int.reduceLT, Int.reduceLE, Nat.reduceSub, Nat.reduceMul, Nat.reduceEqDiff, List.getD_cons_zero, List.getD_cons_succ]
  exact ⟨⟨k + 1, k1, by congr 3, hx5⟩, by omega⟩
 refine joinL.intro fun J4 hJ4 => ?_
 have hgo : ∀ w2, Ext [] w w2 -> J4 [.string ⟨(listK L k ++ markL L k).toArray⟩] w2 := by
  intro w2 hx2
  apply hJ4
  intro _
  have hv2 := hv.ext hx2 (by simp)
  by_cases hkl : k < L.length
  ·obtain ⟨bv, o, lv, E, f, hix, hbv, hfit, hblt, hbk, hsub, hget⟩ := RowsAt.ixR (P := Tryz.prog) (t := 22) Tryz.underlying22 Tryz.sizeOf28 hv2 (k := k) (r := wC L[k]) (by simp [hkl])
   have hc0 : lv[o]? = some (.int .u32 (L[k] : Nat)) := hget (o + 0) 0 rfl (by omega)
   have hi0 := fun w => hix w .i64 k rfl
   have hW : L[k] < 4294967296 := hL _ (List.getElem_mem hkl)
   have hgd : L.getD k 0 = L[k] := by simp [hkl]
   have hneq : ¬ ((k : Nat) : Int) = (L.length : Nat) := by omega
   have hone : listK L (k + 1) = listK L k ++ markL L k ++ (lineW L[k] k L.length ++ [10]) := by
    rw [listK_succ, oneK, hgd, List.append_assoc]
   have hlw := lineW_len L[k] k L.length
   have hXl : (listK L k ++ markL L k).length <= 20000 := by rw [List.length_append]; omega
   generalize hX : listK L k ++ markL L k = X at *
   simp (disch := first | exact qD9 | fail) only [qG7, Nat.reduceAdd, Nat.reduceLeDiff, Int.reduceToNat, Int.reduceAdd, Int.reduceSub, Int.reduceLT, Int.reduceLE, Nat.reduceSub, Nat.reduceMul, Nat.reduceEqDiff, hlv, hneq, hi0, hbv, hc0, List.getD_cons_zero]
   refine rDecode_spec hW fun w3 hx3 => ?_
   have hx23 := hx2.trans hx3 (by simp)
   have hop := dcd_op hW
   have hsm := dcd_small hW
   obtain ⟨hok, him⟩ := dcd_ok hW
   have hG : goF L[k] k L.length = ((targetF (dcdF L[k]).1 k L.length).1, (dcdF L[k]).2 && (targetF (dcdF L[k]).1 k L.length).2) := rfl
   have hLn := line_word (W := L[k]) (k := k) (n := L.length)
   have hLt := line_text (W := L[k]) (k := k) (n := L.length)
   have hLg := line_go (W := L[k]) (k := k) (n := L.length) hW
   rw [hG] at hLt hLg
   have htl := textF_len (dcdF L[k]).1
   generalize lineW L[k] k L.length = LW at *
   have z1 := zI_over
   generalize hD : dcdF L[k] = D at *
   have hx4 : Ext [] w3 (w3.alloc (.cells (izC D.1).toArray 48)) := qX
   have g4 : (w3.alloc (.cells (izC D.1).toArray 48)).heap[w3.heap.size]? = some (.cells (izC D.1).toArray 48 (0, 0)) := alloc_at rfl
   have hx24 := hx23.trans hx4 (by simp)
   cases hd : D.2 with
   | false =>
    have g4b := (hx3.trans hx4 (by simp)).at hbv (by simp)
    have hA1 := addS (a := X) (b := wordT) (by simp [wordT]; omega)
    have hwt : (⟨#[35, 32, 119, 111, 114, 100, 32]⟩ : ByteArray) = ⟨wordT.toArray⟩ := rfl
    simp (disch := first | exact qD9 | fail) only [qG7, Nat.reduceAdd, Nat.reduceLeDiff, Int.reduceToNat, Int.reduceAdd, Int.reduceSub, Int.reduceLT, Int.reduceLE, Nat.reduceSub, Nat.reduceMul, Nat.reduceEqDiff, joinBR, z1, hwt, hA1, hi0, g4b, hc0]
    refine hex14_spec 8 L[k] hW (by omega) _ _ fun w5 hx5 => ?_
    have hhl := hexL_len 8 L[k]
    have hA2 := addS (a := X ++ wordT) (b := hexL 8 L[k]) (by simp [wordT]; omega)
    have hA3 := addS (a := X ++ wordT ++ hexL 8 L[k]) (b := [10]) (by simp [wordT]; omega)
    simp (disch := first | exact qD9 | fail) only [qG7, Nat.reduceAdd, Nat.reduceLeDiff, Int.reduceToNat, Int.reduceAdd, Int.reduceSub, Int.reduceLT, Int.reduceLE, Nat.reduceSub, Nat.reduceMul, Nat.reduceEqDiff, hA2, hA3]
    refine hnext hkl _ w5 ?_ (hx24.trans hx5 (by simp))
    rw [hone, hLn hd]
    simp
   | true =>
    simp (disch := first | exact qD9 | fail) only [qG7, Nat.reduceAdd, Nat.reduceLeDiff, Int.reduceToNat, Int.reduceAdd, Int.reduceSub, Int.reduceLT, Int.reduceLE, Nat.reduceSub, Nat.reduceMul, Nat.reduceEqDiff, joinBR, z1, g4, izC_sub]
    refine rText_spec hok (hop hd) (hsm hd) fun w5 hx5 => ?_
    have g5 := hx5.at g4 (by simp)
    have hx25 := hx24.trans hx5 (by simp)
    simp (disch := first | exact qD9 | fail) only [qG7, Nat.reduceAdd, Nat.reduceLeDiff, Int.reduceToNat, Int.reduceAdd, Int.reduceSub, Int.reduceLT, Int.reduceLE, Nat.reduceSub, Nat.reduceMul, Nat.reduceEqDiff, g5, izC_sub, hlv]
    refine rgoes_spec (a := k) (n := L.length) (hop hd) (by omega) (by omega) him fun w6 hx6 => ?_
    have hx26 := hx25.trans hx6 (by simp)
    generalize hT : targetF D.1 k L.length = T at *
    simp (disch := first | exact qD9 | fail) only [qG7, Nat.reduceAdd, Nat.reduceLeDiff, Int.reduceToNat, Int.reduceAdd, Int.reduceSub, Int.reduceLT, Int.reduceLE, Nat.reduceSub, Nat.reduceMul, Nat.reduceEqDiff]
    refine joinL.intro fun J6 hJ6 => ?_
    have hend : ∀ w7, Ext [] w w7 -> J6 [.string ⟨LW.toArray⟩] w7 := by
     intro w7 hx7
     apply hJ6
     intro _
     have hA1 := addS (a := X) (b := LW) (by omega)
     have hA2 := addS (a := X ++ LW) (b := [10]) (by simp; omega)
     simp (disch := first | exact qD9 | fail) only [qG7, Nat.reduceAdd, Nat.reduceLeDiff, Int.reduceToNat, Int.reduceAdd, Int.reduceSub, Int.reduceLT, Int.reduceLE, Nat.reduceSub, Nat.reduceMul, Nat.reduceEqDiff, hA1, hA2, List.getD_cons_zero]
     refine hnext hkl _ w7 ?_ hx7
     rw [hone]
     simp
    cases ht : T.2 with
    | false =>
     have e := hLt hd (by rw [hd, ht]; rfl)
     simp (disch := first | exact qD9 | fail) only [qG7, Nat.reduceAdd, Nat.reduceLeDiff, Int.reduceToNat, Int.reduceAdd, Int.reduceSub, Int.reduceLT, Int.reduceLE, Nat.reduceSub, Nat.reduceMul, Nat.reduceEqDiff, joinBR]
     rw [<- e]
     exact hend _ hx26
    | true =>
     obtain ⟨R, p, hp1, hp2, -, -, htx, hlw2⟩ := hLg (by rw [hd, ht]; rfl)
     have hnoD := dec_no (n := D.1.im) (c := 32) (by decide) (by decide)
     rw [htx] at htl
     rw [htx]
     generalize hH : nameR D.1 ++ 32 :: R = H at *
     generalize dec D.1.im = Q at *
     have hls := lenS (H ++ 32 :: Q)
     dsimp only at hp1
     simp (disch := first | exact qD9 | fail) only [qG7, Nat.reduceAdd, Nat.reduceLeDiff, Int.reduceToNat, Int.reduceAdd, Int.reduceSub, Int.reduceLT, Int.reduceLE, Nat.reduceSub, Nat.reduceMul, Nat.reduceEqDiff, joinBR, hls]
     refine loopT.intro (fun st w' => ∃ (j : Nat), H.length + 1 <= j /\ j <= (H ++ 32 :: Q).length /\ st = [.int .i64 (j : Nat)] /\ w' = w6)
      (fun st _ => match st with
       | [.int _ z] => z.toNat
       | _ => 0) ⟨(H ++ 32 :: Q).length, by simp, Nat.le_refl _, rfl, rfl⟩ ?_
     rintro st w7 ⟨j, hj1, hj2, rfl, rfl⟩ _
     have hjl : (H ++ 32 :: Q).length = H.length + Q.length + 1 := by simp; omega
     have hj0 : ((j : Nat) : Int) - 1 = ((j - 1 : Nat) : Int) := by omega
     by_cases hje : j = H.length + 1
     ·subst hje
      have hb : (H ++ 32 :: Q)[H.length + 1 - 1]? = some 32 := by simp
      have hixS := ixS hb
      have hcutB : ∀ w, (Instr.sliceAt 9 (.string ⟨(H ++ 32 :: Q).toArray⟩) none (some (.int .i64 ((H.length + 1 : Nat) : Int))) none).run Tryz.prog w = .ok (.string ⟨(H ++ [32]).toArray⟩) w := by
       intro w
       have hsz := size_mk (H ++ 32 :: Q)
       have hht := (head_told (P := H) (X := Q) hnoD).2.1
       rw [run_cutS Tryz.underlying9 ⟨(H ++ 32 :: Q).toArray⟩ _ _ (l := 0) (h := H.length + 1) (fun w => by rw [hsz]; exact (slR.2.1 _ _ _ _ _ _ (by omega)).trans (by rw [Int.toNat_natCast])), cut_mk]
       rw [List.drop_zero, Nat.sub_zero, hht]
      have hA1 := addS (a := H ++ [32]) (b := [109]) (by simp; omega)
      simp (disch := first | exact qD9 | fail) only [qG7, Nat.reduceAdd, Nat.reduceLeDiff, Int.reduceToNat, Int.reduceAdd, Int.reduceSub, Int.reduceLT, Int.reduceLE, Nat.reduceSub, Nat.reduceMul, Nat.reduceEqDiff, joinBR, hj0, hixS, hcutB, hA1, List.getD_cons_zero]
      refine callsS.of _ (rnumber_spec (n := T.1) (by rw [hp1]; omega) ⟨rfl, rfl⟩) ?_
      have hdl := dec_len (n := T.1)
      have hA2 := addS (a := H ++ [32] ++ [109]) (b := dec T.1) (by simp; omega)
      simp (disch := first | exact qD9 | fail) only [qG7, Nat.reduceAdd, Nat.reduceLeDiff, Int.reduceToNat, Int.reduceAdd, Int.reduceSub, Int.reduceLT, Int.reduceLE, Nat.reduceSub, Nat.reduceMul, Nat.reduceEqDiff, hA2]
      have e : H ++ [32] ++ [109] ++ dec T.1 = LW := by
       rw [hlw2, hp1]
       simp [markF]
      rw [e]
      exact hend _ hx26.drew
     ·obtain ⟨b, hb, hbne⟩ : ∃ b, (H ++ 32 :: Q)[j - 1]? = some b /\ b ≠ 32 := by
       have hlt : j - 1 < (H ++ 32 :: Q).length := by omega
       refine ⟨(H ++ 32 :: Q)[j - 1], List.getElem?_eq_getElem hlt, fun e => ?_⟩
       have h1 : (H ++ 32 :: Q)[j - 1]? = some 32 := by rw [List.getElem?_eq_getElem hlt, e]
       rw [List.getElem?_append_right (by omega)] at h1
       obtain ⟨d, hd2⟩ : ∃ d, j - 1 - H.length = d + 1 := ⟨j - 1 - H.length - 1, by omega⟩
       rw [hd2, List.getElem?_cons_succ] at h1
       exact hnoD (List.mem_of_getElem? h1)
      have hixS := ixS hb
      have hbn : ¬ ((b.toNat : Nat) : Int) = 32 := by
       intro e
       apply hbne
       have : b.toNat = 32 := by omega
       exact UInt8.toNat_inj.1 (by rw [this]; rfl)
      simp (disch := first | exact qD9 | fail) only [qG7, Nat.reduceAdd, Nat.reduceLeDiff, Int.reduceToNat, Int.reduceAdd, Int.reduceSub, Int.reduceLT, Int.reduceLE, Nat.reduceSub, Nat.reduceMul, Nat.reduceEqDiff, joinBR, hj0, hixS, hbn, List.getD_cons_zero]
      exact ⟨⟨j - 1, by omega, by omega, rfl, trivial⟩, by omega⟩
  ·obtain rfl : k = L.length := by omega
   simp (disch := first | exact qD9 | fail) only [qG7, Nat.reduceAdd, Nat.reduceLeDiff, Int.reduceToNat, Int.reduceAdd, Int.reduceSub, Int.reduceLT, Int.reduceLE, Nat.reduceSub, Nat.reduceMul, Nat.reduceEqDiff, joinBR, hlv, List.getD_cons_zero]
   have e : listK L L.length ++ markL L L.length = listF L := rfl
   rw [e]
   exact hK _ hx2
 refine rmarked_spec hv1 hL hn fun w2 hx2 => ?_
 have hx12 := hx1.trans hx2 (by simp)
 have hML : markL L k = if mkB L (k : Nat) then markF k ++ [58] ++ [10] else [] := rfl
 cases hb : mkB L (k : Nat) with
 | false =>
  rw [hb] at hML
  rw [hML] at hgo
  simp (disch := first | exact qD9 | fail) only [qG7, Nat.reduceAdd, Nat.reduceLeDiff, Int.reduceToNat, Int.reduceAdd, Int.reduceSub, Int.reduceLT, Int.reduceLE, Nat.reduceSub, Nat.reduceMul, Nat.reduceEqDiff, joinBR]
  have := hgo _ hx12
  simpa using this
 | true =>
  rw [hb, if_pos rfl] at hML
  have hA1 := addS (a := listK L k) (b := [109]) (by simp; omega)
  simp (disch := first | exact qD9 | fail) only [qG7, Nat.reduceAdd, Nat.reduceLeDiff, Int.reduceToNat, Int.reduceAdd, Int.reduceSub, Int.reduceLT, Int.reduceLE, Nat.reduceSub, Nat.reduceMul, Nat.reduceEqDiff, joinBR, hA1, List.getD_cons_zero, List.getD_cons_succ]
  refine rnumber_spec (by omega) ?_
  have hdl := dec_len (n := (k : Int))
  have hA2 := addS (a := listK L k ++ [109]) (b := dec (k : Nat)) (by simp; omega)
  have hA3 := addS (a := listK L k ++ [109] ++ dec (k : Nat)) (b := [58, 10]) (by simp; omega)
  simp (disch := first | exact qD9 | fail) only [qG7, Nat.reduceAdd, Nat.reduceLeDiff, Int.reduceToNat, Int.reduceAdd, Int.reduceSub, Int.reduceLT, Int.reduceLE, Nat.reduceSub, Nat.reduceMul, Nat.reduceEqDiff, hA2, hA3]
  have e : listK L k ++ [109] ++ dec (k : Nat) ++ [58, 10] = listK L k ++ markL L k := by
   rw [hML]
   simp [markF]
  rw [e]
  exact hgo _ hx12
open Go.Fx
set_option maxRecDepth 100000
theorem neqS (a b : List UInt8) (x y : Operand) (w : World) : (binV .neq 9 x y (.string ⟨a.toArray⟩) (.string ⟨b.toArray⟩)).run Tryz.prog w = .ok (.bool (decide (a ≠ b))) w := by
 rw [run_neqS]
 have : ((⟨a.toArray⟩ : ByteArray).toList == (⟨b.toArray⟩ : ByteArray).toList) = decide (a = b) := by
  by_cases h : a = b
  ·subst h
   rw [beq_self_eq_true, decide_eq_true rfl]
  ·rw [decide_eq_false h, beq_eq_false_iff_ne]
   simpa using h
 rw [this]
 simp
def allB (L : List Nat) : Bool := L.all fun x => (dcdF x).2
theorem tl_mem {ws : List Nat} {p : List UInt8 × Bool} (h : p ∈ tlA ws) (hf : p.2 = false) : ∃ k, k < ws.length /\ (dcdF (ws.getD k 0)).2 = true /\ p.1 = lineW (ws.getD k 0) k ws.length := by
 unfold tlA at h
 rw [List.mem_append, List.mem_flatMap] at h
 rcases h with ⟨k, hk, h⟩ | h
 ·unfold tlK at h
  rw [List.mem_append] at h
  rcases h with h | h
  ·split at h
   ·rw [List.mem_singleton] at h; rw [h] at hf; cases hf
   ·simp at h
  ·split at h
   ·rename_i hd
    rw [List.mem_singleton] at h
    exact ⟨k, List.mem_range.1 hk, hd, by rw [h]⟩
   ·simp at h
 ·unfold tlE at h
  split at h
  ·rw [List.mem_singleton] at h; rw [h] at hf; cases hf
  ·simp at h
theorem linesK_len (ws : List Nat) (k : Nat) : (linesK ws k).length <= 2 := by
 unfold linesK
 split <;> simp
theorem allLs_len (ws : List Nat) : (allLs ws).length <= 2 * ws.length + 1 := by
 have h : ∀ l : List Nat, (l.flatMap (linesK ws)).length <= 2 * l.length := by
  intro l
  induction l with
  | nil => simp
  | cons x l ih =>
   have := linesK_len ws x
   rw [List.flatMap_cons, List.length_append, List.length_cons]
   omega
 have h1 := h (List.range ws.length)
 rw [List.length_range] at h1
 unfold allLs
 rw [List.length_append]
 generalize ((List.range ws.length).flatMap (linesK ws)).length = F at *
 split
 ·rw [List.length_singleton]; omega
 ·rw [List.length_nil]; omega
theorem list_asm {w : World} {L : List Nat} (hg : Gm w) (hL : ∀ x ∈ L, x < 4294967296) (hn : L.length <= 60) {K : Value -> World -> Prop} (hK : ∀ v (a e : Int) w', Ext [] w w' -> (allB L = true -> a = 0 /\ e = 0 /\ RowsAt w' v 1 (L.map wC)) -> K (.tuple #[v, .int .i64 a, .int .i64 e]) w') : callsK Tryz.prog 7 #[.string ⟨(listF L).toArray⟩] w K := by
 have hsp : Lib.split (joinN (allLs L)) [10] = allLs L ++ [[]] := split_joinN _ (all_no hL)
 have hmap := lines_all hL
 have hmap2 : (linesFrom 0 (allLs L ++ [[]])).map tmL = ((tlA L).map lnOf).map tmL := by rw [hmap, lnOf_map]
 have hpos := linesFrom_n (allLs L ++ [[]]) 0
 have hlen := linesFrom_len (allLs L ++ [[]]) 0
 have hal := allLs_len L
 have hal2 : (allLs L ++ [[]]).length <= 122 := by rw [List.length_append, List.length_singleton]; omega
 have htl : (listF L).length <= 16384 := by
  have h1 := listK_len L L.length
  have h2 := markL_len L L.length
  unfold listF
  rw [List.length_append]
  omega
 have hcn := countF_n (st := selfL) (fun t => Nat.le_succ 1) (linesFrom 0 (allLs L ++ [[]]))
 rw [list_join] at htl ⊢
 refine Assemble_spec (st := selfL) (fun t => Nat.le_succ 1) hg htl ?_ ?_ ?_ ?_ ?_
 ·rw [hsp]
  intro x hx hm
  have hxm : tmL x ∈ tlA L := by rw [<- hmap]; exact List.mem_map_of_mem hx
  obtain ⟨k, hk, hd, he⟩ := tl_mem hxm hm
  have he' : x.t = lineW (L.getD k 0) k L.length := he
  have hlw := lineW_len (L.getD k 0) k L.length
  obtain ⟨-, h2, -⟩ := lineW_ok (k := k) (n := L.length) (ws_lt hL k)
  rw [he']
  exact ⟨stands_plain (by omega) (h2 hd).1, fun y hy => by simp only [selfL, List.mem_singleton] at hy; subst hy; omega⟩
 ·rw [hsp]
  omega
 ·rw [hsp]
  omega
 ·rw [hsp]
  intro x hx
  have := hpos x hx
  omega
 ·rw [hsp]
  cases hall : allB L with
  | true =>
   have hallk : ∀ k, k < L.length -> (dcdF (L.getD k 0)).2 = true := by
    intro k hk
    have h1 := List.all_eq_true.1 hall (L.getD k 0)
    refine h1 ?_
    rw [List.getD_eq_getElem?_getD, List.getElem?_eq_getElem hk]
    exact List.getElem_mem hk
   have hcnt : countF selfL (linesFrom 0 (allLs L ++ [[]])) = countF selfL ((tlA L).map lnOf) := count_same _ _ _ hmap2
   have hgo := go_same (linesFrom 0 (allLs L ++ [[]])) ((tlA L).map lnOf) (fun _ => false) [] _ hmap2 (go_list hL (by omega) hallk)
   rw [hcnt, count_all' hallk]
   dsimp only
   rw [hgo]
   exact fun v w' h1 h2 _ => hK v 0 0 w' h2 fun _ => ⟨rfl, rfl, h1⟩
  | false =>
   have hno : ∀ {P : Prop}, allB L = true -> P := fun h => by rw [hall] at h; cases h
   split
   ·exact fun v w' _ h2 _ => hK v 0 0 w' h2 hno
   ·exact fun w' h2 => hK _ _ 11 w' h2 hno
theorem one_list : listF [111] = [109, 48, 58, 10, 106, 97, 108, 32, 99, 48, 44, 32, 109, 48, 10] := by kernel_rfl
theorem allB_succ {L : List Nat} {k : Nat} (h : k < L.length) : allB (L.take (k + 1)) = (allB (L.take k) && (dcdF L[k]).2) := by
 unfold allB
 rw [List.take_add_one, List.getElem?_eq_getElem h, List.all_append]
 simp
set_option maxHeartbeats 1000000 in
theorem lists_spec {w : World} {v : Value} {L : List Nat} (hg : Gm w) (hv : RowsAt w v 1 (L.map wC)) (hL : ∀ x ∈ L, x < 4294967296) {K : Value -> World -> Prop} (hK : ∀ w', Ext [] w w' -> K (.bool true) w') : callsK Tryz.prog 3 #[v] w K := by
 apply F3_ok
 unfold F3
 refine joinL.intro fun J0 hJ0 => ?_
 have hgo : ∀ (v : Value) (L : List Nat), RowsAt w v 1 (L.map wC) -> L.length <= 60 -> (∀ x ∈ L, x < 4294967296) -> J0 [v] w := by
  intro v L hv h60 hL
  apply hJ0
  intro _
  have hlv := hv.lenR (ty := 3) Tryz.underlying22
  rw [List.length_map] at hlv
  simp (disch := first | exact qD9 | fail) only [qG7, Nat.reduceAdd, Nat.reduceLeDiff, Int.reduceToNat, Int.reduceAdd, Int.reduceSub, Int.reduceLT, Int.reduceLE, Nat.reduceSub, Nat.reduceMul, Nat.reduceEqDiff, List.getD_cons_zero]
  refine Listing_spec hv hL (by omega) fun w1 hx1 => ?_
  simp (disch := first | exact qD9 | fail) only [qG7, Nat.reduceAdd, Nat.reduceLeDiff, Int.reduceToNat, Int.reduceAdd, Int.reduceSub, Int.reduceLT, Int.reduceLE, Nat.reduceSub, Nat.reduceMul, Nat.reduceEqDiff, List.getD_cons_zero]
  refine rListing_spec (hv.ext hx1 (by simp)) hL (by omega) fun w2 hx2 => ?_
  have hx02 := hx1.trans hx2 (by simp)
  have hN := neqS (listF L) (listF L)
  have hd0 : decide (listF L ≠ listF L) = false := by simp
  simp (disch := first | exact qD9 | fail) only [qG7, Nat.reduceAdd, Nat.reduceLeDiff, Int.reduceToNat, Int.reduceAdd, Int.reduceSub, Int.reduceLT, Int.reduceLE, Nat.reduceSub, Nat.reduceMul, Nat.reduceEqDiff, joinBR, hN, hd0, List.getD_cons_zero]
  refine loopT.intro (fun st w' => ∃ (k : Nat), k <= L.length /\ st = [.bool (allB (L.take k)), .int .i64 (k : Nat)] /\ Ext [] w w')
   (fun st _ => match st with
    | [_, .int _ z] => L.length - z.toNat
    | _ => 0) ⟨0, Nat.zero_le _, rfl, hx02⟩ ?_
  rintro st w3 ⟨k, hk, rfl, hx3⟩ _
  have hv3 := hv.ext hx3 (by simp)
  by_cases hkl : k < L.length
  ·obtain ⟨bv, o, lv, E, f, hix, hbv, hfit, hblt, hbk, hsub, hget⟩ := RowsAt.ixR (P := Tryz.prog) (t := 22) Tryz.underlying22 Tryz.sizeOf28 hv3 (k := k) (r := wC L[k]) (by simp [hkl])
   have hc0 : lv[o]? = some (.int .u32 (L[k] : Nat)) := hget (o + 0) 0 rfl (by omega)
   have hi0 := fun w => hix w .i64 k rfl
   have hW : L[k] < 4294967296 := hL _ (List.getElem_mem hkl)
   have hsu := allB_succ hkl
   simp (disch := first | exact qD9 | fail) only [qG7, Nat.reduceAdd, Nat.reduceLeDiff, Int.reduceToNat, Int.reduceAdd, Int.reduceSub, Int.reduceLT, Int.reduceLE, Nat.reduceSub, Nat.reduceMul, Nat.reduceEqDiff, hlv, hi0, hbv, hc0, List.getD_cons_zero, List.getD_cons_succ]
   refine Decode_spec hW fun w4 hx4 => ?_
   have z1 := zI_over
   generalize dcdF L[k] = D at *
   have hx5 : Ext [] w4 (w4.alloc (.cells (izC D.1).toArray 25)) := qX
   have hx35 := (hx3.trans hx4 (by simp)).trans hx5 (by simp)
   generalize allB (L.take k) = A at *
   cases A <;> cases hd : D.2
   all_goals
    rw [hd] at hsu
    simp (disch := first | exact qD9 | fail) only [qG7, Nat.reduceAdd, Nat.reduceLeDiff, Int.reduceToNat, Int.reduceAdd, Int.reduceSub, Int.reduceLT, Int.reduceLE, Nat.reduceSub, Nat.reduceMul, Nat.reduceEqDiff, joinBR, z1, List.getD_cons_zero, List.getD_cons_succ]
    exact ⟨⟨k + 1, hkl, by rw [hsu]; rfl, hx35⟩, by omega⟩
  ·obtain rfl : k = L.length := by omega
   rw [List.take_length]
   simp (disch := first | exact qD9 | fail) only [qG7, Nat.reduceAdd, Nat.reduceLeDiff, Int.reduceToNat, Int.reduceAdd, Int.reduceSub, Int.reduceLT, Int.reduceLE, Nat.reduceSub, Nat.reduceMul, Nat.reduceEqDiff, hlv, List.getD_cons_zero, List.getD_cons_succ]
   refine list_asm (hg.ext hx3) hL h60 fun u a e w4 hx4 hall => ?_
   have hx34 := hx3.trans hx4 (by simp)
   have hv4 := hv.ext hx34 (by simp)
   have hone := one_list
   have hlast : ∀ w5, Ext [] w w5 -> ∀ w6, w6 = w5.alloc (.cells [.int .u32 111].toArray 28) -> Ext [] w w6 /\ RowsAt w6 (.slice (some ⟨w5.heap.size, 0, none⟩) 1 1) 1 ([111].map wC) := by
    intro w5 hx5 w6 h6
    subst h6
    exact ⟨Ext.alloc hx5 _ _, RowsAt.one (alloc_at rfl) rfl⟩
   cases hA : allB L with
   | false =>
    simp (disch := first | exact qD9 | fail) only [qG7, Nat.reduceAdd, Nat.reduceLeDiff, Int.reduceToNat, Int.reduceAdd, Int.reduceSub, Int.reduceLT, Int.reduceLE, Nat.reduceSub, Nat.reduceMul, Nat.reduceEqDiff, joinBR, List.getD_cons_zero]
    refine loopT.intro (fun st w' => st = [.int .i64 0] /\ w' = w4) (fun _ _ => 0) ⟨rfl, rfl⟩ ?_
    rintro st w5 ⟨rfl, rfl⟩ _
    simp (disch := first | exact qD9 | fail) only [qG7, Nat.reduceAdd, Nat.reduceLeDiff, Int.reduceToNat, Int.reduceAdd, Int.reduceSub, Int.reduceLT, Int.reduceLE, Nat.reduceSub, Nat.reduceMul, Nat.reduceEqDiff, joinBR, List.getD_cons_zero]
    obtain ⟨l1, l2⟩ := hlast _ hx34 _ rfl
    refine Listing_spec l2 (by simp) (by simp) fun w6 hx6 => ?_
    have hE := eqlS (listF [111]) [109, 48, 58, 10, 106, 97, 108, 32, 99, 48, 44, 32, 109, 48, 10]
    rw [decide_eq_true hone] at hE
    simp (disch := first | exact qD9 | fail) only [qG7, Nat.reduceAdd, Nat.reduceLeDiff, Int.reduceToNat, Int.reduceAdd, Int.reduceSub, Int.reduceLT, Int.reduceLE, Nat.reduceSub, Nat.reduceMul, Nat.reduceEqDiff, joinBR, hE]
    refine one_spec (hg.ext (l1.trans hx6 (by simp))) fun w7 hx7 => ?_
    simp (disch := first | exact qD9 | fail) only [qG7, Nat.reduceAdd, Nat.reduceLeDiff, Int.reduceToNat, Int.reduceAdd, Int.reduceSub, Int.reduceLT, Int.reduceLE, Nat.reduceSub, Nat.reduceMul, Nat.reduceEqDiff, joinBR]
    exact hK _ ((l1.trans hx6 (by simp)).trans hx7 (by simp))
   | true =>
    obtain ⟨rfl, rfl, hu⟩ := hall hA
    have hlu := hu.lenR (ty := 3) Tryz.underlying22
    rw [List.length_map] at hlu
    simp (disch := first | exact qD9 | fail) only [qG7, Nat.reduceAdd, Nat.reduceLeDiff, Int.reduceToNat, Int.reduceAdd, Int.reduceSub, Int.reduceLT, Int.reduceLE, Nat.reduceSub, Nat.reduceMul, Nat.reduceEqDiff, joinBR, List.getD_cons_zero, hlu, hlv]
    refine loopT.intro (fun st w' => ∃ k : Nat, k <= L.length /\ st = [.int .i64 (k : Nat)] /\ Ext [] w4 w') (fun st _ => match st with
     | [.int _ z] => L.length - z.toNat
     | _ => 0) ⟨0, Nat.zero_le _, rfl, Ext.refl⟩ ?_
    rintro st w5 ⟨k, hk, rfl, hx5⟩ _
    have hx05 := hx34.trans hx5 (by simp)
    by_cases hkl : k < L.length
    ·obtain ⟨bv, o, lv, E, f, hix, hbv, hfit, hblt, hbk, hsub, hget⟩ := RowsAt.ixR (P := Tryz.prog) (t := 22) Tryz.underlying22 Tryz.sizeOf28 (hv.ext hx05 (by simp)) (k := k) (r := wC L[k]) (by simp [hkl])
     obtain ⟨bv2, o2, lv2, E2, f2, hix2, hbv2, hfit2, hblt2, hbk2, hsub2, hget2⟩ := RowsAt.ixR (P := Tryz.prog) (t := 22) Tryz.underlying22 Tryz.sizeOf28 (hu.ext hx5 (by simp)) (k := k) (r := wC L[k]) (by simp [hkl])
     have hc0 : lv[o]? = some (.int .u32 (L[k] : Nat)) := hget (o + 0) 0 rfl (by omega)
     have hc2 : lv2[o2]? = some (.int .u32 (L[k] : Nat)) := hget2 (o2 + 0) 0 rfl (by omega)
     have hi0 := fun w => hix w .i64 k rfl
     have hi2 := fun w => hix2 w .i64 k rfl
     simp (disch := first | exact qD9 | fail) only [qG7, Nat.reduceAdd, Nat.reduceLeDiff, Int.reduceToNat, Int.reduceAdd, Int.reduceSub, Int.reduceLT, Int.reduceLE, Nat.reduceSub, Nat.reduceMul, Nat.reduceEqDiff, joinBR, List.getD_cons_zero, hlu, hlv, hi0, hbv, hc0, hi2, hbv2, hc2]
     exact ⟨⟨k + 1, hkl, by congr 3, qX⟩, by omega⟩
    ·obtain rfl : k = L.length := by omega
     simp (disch := first | exact qD9 | fail) only [qG7, Nat.reduceAdd, Nat.reduceLeDiff, Int.reduceToNat, Int.reduceAdd, Int.reduceSub, Int.reduceLT, Int.reduceLE, Nat.reduceSub, Nat.reduceMul, Nat.reduceEqDiff, joinBR, List.getD_cons_zero, hlu, hlv]
     obtain ⟨l1, l2⟩ := hlast _ hx05 _ rfl
     refine Listing_spec l2 (by simp) (by simp) fun w6 hx6 => ?_
     have hE := eqlS (listF [111]) [109, 48, 58, 10, 106, 97, 108, 32, 99, 48, 44, 32, 109, 48, 10]
     rw [decide_eq_true hone] at hE
     simp (disch := first | exact qD9 | fail) only [qG7, Nat.reduceAdd, Nat.reduceLeDiff, Int.reduceToNat, Int.reduceAdd, Int.reduceSub, Int.reduceLT, Int.reduceLE, Nat.reduceSub, Nat.reduceMul, Nat.reduceEqDiff, joinBR, hE]
     refine one_spec (hg.ext (l1.trans hx6 (by simp))) fun w7 hx7 => ?_
     simp (disch := first | exact qD9 | fail) only [qG7, Nat.reduceAdd, Nat.reduceLeDiff, Int.reduceToNat, Int.reduceAdd, Int.reduceSub, Int.reduceLT, Int.reduceLE, Nat.reduceSub, Nat.reduceMul, Nat.reduceEqDiff, joinBR]
     exact hK _ ((l1.trans hx6 (by simp)).trans hx7 (by simp))
 have hlv := hv.lenR (ty := 3) Tryz.underlying22
 rw [List.length_map] at hlv
 by_cases h60 : L.length <= 60
 ·simp (disch := first | exact qD9 | fail) only [qG7, Nat.reduceAdd, Nat.reduceLeDiff, Int.reduceToNat, Int.reduceAdd, Int.reduceSub, Int.reduceLT, Int.reduceLE, Nat.reduceSub, Nat.reduceMul, Nat.reduceEqDiff, hlv]
  exact hgo v L hv h60 hL
 ·obtain ⟨v', hc1, hc2, hc3⟩ := RowsAt.cut (P := Tryz.prog) (t := 22) Tryz.underlying22 Tryz.sizeOf28 hv (lo := none) (hi := some (.int .i64 60)) (l := 0) (h := 60) (by omega) (by simp; omega) (.inl ⟨rfl, rfl⟩) (.inr ⟨_, _, rfl, rfl⟩)
  have hr := hc2 w hv
  rw [List.drop_zero, <- List.map_take] at hr
  simp (disch := first | exact qD9 | fail) only [qG7, Nat.reduceAdd, Nat.reduceLeDiff, Int.reduceToNat, Int.reduceAdd, Int.reduceSub, Int.reduceLT, Int.reduceLE, Nat.reduceSub, Nat.reduceMul, Nat.reduceEqDiff, hlv, hc1]
  exact hgo v' (L.take 60) hr (by simp; omega) fun i hi => hL i (List.mem_of_mem_take hi)
end Go.Proofs.YtobkjnmdbkieeaaGreatDoor
namespace Go.Proofs.YtobkjnmdbkieeaaGreatDoor
open Go.Fx Go.ChangeShapes Go.WideShapes
set_option maxRecDepth 100000
/-- a call's contract, at the world's shape, where variables are listed. -/
theorem handed_shaped {H : Type} {enc : TypeId × Value -> H} {a : Assume} {C : Checked} {os : Os} {f : FuncId} {fn : Func} {s : ChangeSpec} {conds : List PathCond} {apart fresh handsOn again : Bool} {X : World -> Array Value -> Prop}
  (own : ownKnob C.prog.godebug = none) (started : os.Started) (noInit : C.prog.inits.idxOf? f = none) (hfn : C.prog.funcs[f]? = some fn)
  (witness : ∃ (w : World) (tape : Tape) (i : Input), w.os = os /\ (w.forCall tape i).Shaped C.prog /\ i.vars = [] /\ Input.okWide C.prog (w.forCall tape i) .any w.heap.size f i /\
   ((s.pre enc C.prog fn conds apart (w.forCall tape i).memory i.args /\ X (w.forCall tape i).memory i.args) /\ sizedMet enc C.prog fn (OpenSpec.ofChange s) apart (w.forCall tape i).memory i.args) /\ a.holds C.prog (lone (Frame.enter C.prog f i.args .normal) [] (w.forCall tape i)))
  (go : ∀ (W : World) (base : Nat) (args : Array Value) (ds gs : List (DataW H)) (before : List MemPlace),
   (∀ (j : Nat) t v, fn.params[j]? = some t -> args[j]? = some v -> Value.okWide C.prog W .any base t v) ->
   DataW.Whole enc C.prog fn.params.toList s.vars apart W args.toList ds gs before -> W.ShapedOpen C.prog ->
   Calls C.prog f args W fun e W' => ∃ v, e = .returned v /\ s.post enc C.prog fn apart fresh handsOn again W args v W') :
  ReturnsInHanded a C os f .any (fun w args => (s.pre enc C.prog fn conds apart w args /\ X w args) /\ sizedMet enc C.prog fn (OpenSpec.ofChange s) apart w args) (s.post enc C.prog fn apart fresh handsOn again) := by
 refine returnsInHanded_of_calls own started noInit witness ?_
 intro w tape i _ hsh _ hok hpre _
 obtain ⟨_, _, _, fn', hfn', _, _, _, _, hval⟩ := hok
 have e : fn' = fn := Option.some.inj (hfn'.symm.trans hfn)
 subst e
 obtain ⟨⟨⟨ds, gs, before, hw, -⟩, -⟩, -⟩ := hpre
 refine (go _ _ i.args ds gs before hval (DataW.Whole.of_heap (w' := w.forCall tape i) (by rfl) hw) hsh).mono fun e W' ⟨v, he, hp⟩ => ?_
 subst he
 exact ChangeSpec.post_blind hp
theorem gm_of {w : World} (h : w.ShapedOpen Tryz.prog) : Gm w := by
 obtain ⟨m, hm⟩ := cell_of_shapedOpen_int (g := 0) (t := 3) (zero := #[.int .i64 0]) (k := .i64) h (of_decide_eq_true (by kernel_rfl)) (by kernel_rfl) (by kernel_rfl) (by kernel_rfl) (by kernel_rfl) Tryz.underlying3
 refine ⟨?_, m, hm⟩
 rcases Nat.eq_zero_or_pos w.heap.size with h0 | h0
 ·rw [World.cell?, Array.getElem?_eq_none (by omega)] at hm
  cases hm
 ·exact h0
theorem cellsU32 : Tryz.prog.cellsOf 28 = 1 := by kernel_rfl
theorem wf_u32 {n : Int} (h : (Lit.int .u32 n).wf = true) : 0 <= n /\ n < 4294967296 := by
 have : 0 <= n /\ n <= 4294967295 := by simpa [Lit.wf, IntKind.min, IntKind.max, IntKind.signed, IntKind.bits] using h
 omega
theorem argWords {H : Type} {enc : TypeId × Value -> H} {w : World} {base b0 : Nat} {spare : Nat -> Bool} {held : Bool} {r : Reach} {v : Value} {d : DataW H} {ps : List MemPlace} (hval : Value.okWide Tryz.prog w r b0 22 v) (h : DataW.Trod enc Tryz.prog w base spare held 22 v d ps) :
  ∃ l : List Nat, RowsAt w v 1 (l.map wC) /\ ∀ x ∈ l, x < 4294967296 := by
 obtain ⟨fuel, x, hx⟩ := slice_trod Tryz.underlying22 hval h
 obtain ⟨v', rows, he, hr, hall⟩ := open_rows Tryz.underlying22 cellsU32 (by omega) hx
 have : ∃ l : List Nat, rows = l.map wC /\ ∀ x ∈ l, x < 4294967296 := by
  clear hr
  induction rows with
  | nil => exact ⟨[], rfl, by simp⟩
  | cons r rows ih =>
   obtain ⟨l, rfl, hl⟩ := ih fun r hr => hall r (List.mem_cons_of_mem _ hr)
   obtain ⟨m, y, hy⟩ := hall r (List.mem_cons_self ..)
   obtain ⟨z, e1, -, w1⟩ := DataW.trod_int Tryz.underlying28 hy
   obtain ⟨z0, z1⟩ := wf_u32 w1
   refine ⟨z.toNat :: l, ?_, fun d hd => (List.mem_cons.1 hd).elim (fun e => by subst e; omega) (hl d)⟩
   rw [e1, List.map_cons]
   show [Value.int .u32 z] :: _ = [Value.int .u32 ((z.toNat : Nat) : Int)] :: _
   rw [Int.toNat_of_nonneg z0]
 obtain ⟨l, rfl, hl⟩ := this
 cases he
 exact ⟨l, hr, hl⟩
end Go.Proofs.YtobkjnmdbkieeaaGreatDoor
