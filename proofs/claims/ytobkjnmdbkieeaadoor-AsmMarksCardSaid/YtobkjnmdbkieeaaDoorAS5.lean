/- An instruction's text; conditions: those of each theorem. -/
import Derived.Test.YtobkjnmdbkieeaaDoorAS4
import Derived.Laws.IdiomStrings
namespace Go.Proofs.YtobkjnmdbkieeaaDoor
open Go.Fx
set_option maxRecDepth 100000
set_option linter.unusedSimpArgs false
set_option linter.unusedVariables false
theorem bytes_of_text {l : List UInt8} (hl : l.length ≤ 1000000) {w : World} {K : Value → World → Prop} (hK : ∀ v w', RowsAt w' v 1 (l.map bC) → Ext [] w w' → (∀ b, blockOf v = some b → w.heap.size ≤ b) → K v w') : resV K ((convert 9 62 (.string ⟨l.toArray⟩)).run Tryd.prog w) := by
  have hrun := run_bytes_of_string (P := Tryd.prog) w 9 62 5 ⟨l.toArray⟩ Tryd.underlying9 Tryd.underlying62 Tryd.underlying5
  have hsz := size_mk l
  have hge := grownCap_ge w (⟨l.toArray⟩ : ByteArray).size 0 5
  have hcm := grownCap_le_maxLen w (⟨l.toArray⟩ : ByteArray).size 0 5 (by rw [hsz]; simp only [maxLen]; omega)
  generalize grownCap w (⟨l.toArray⟩ : ByteArray).size 0 5 = c at *
  rw [hsz] at hrun hge
  rw [hrun]
  show K _ _
  refine hK _ _ ⟨some ⟨w.heap.size, 0, none⟩, c, by rw [List.length_map], ⟨by simpa using hge, hcm⟩, .inr ⟨w.heap.size, 0, (bytesRow ⟨l.toArray⟩ c).toList, 5, _, rfl, (alloc_at rfl).trans (by rw [Array.toArray_toList]), by simp [bytesRow], fun i r hi => ?_⟩⟩ ?_ ?_
  · rw [List.getElem?_map] at hi
    obtain ⟨b, hb, rfl⟩ := Option.map_eq_some_iff.1 hi
    obtain ⟨hi2, rfl⟩ := List.getElem?_eq_some_iff.1 hb
    have hat := bytesRow_at ⟨l.toArray⟩ c i (by simpa using hi2)
    unfold Go.Fx.sub
    rw [Nat.zero_add, Nat.mul_one, List.take_one, List.head?_drop, Array.getElem?_toList, hat]
    rfl
  · exact ⟨rfl, rfl, rfl, by show w.heap.size ≤ (w.heap.push _).size; simp, fun k hk _ => (alloc_ne (by show k ≠ w.heap.size; omega)).trans rfl⟩
  · intro b hb
    have : w.heap.size = b := Option.some.inj hb
    omega
theorem Join_spec {w : World} {v : Value} {L : List (List UInt8)} {sep : List UInt8} (hv : RowsAt w v 1 (L.map sC)) (h0 : L ≠ []) (hn : L.length ≤ 1000) (hj : (Lib.join L sep).length ≤ 1000000) {K : Value → World → Prop}
    (hK : ∀ w', Ext [] w w' → K (.string ⟨(Lib.join L sep).toArray⟩) w') : callsK Tryd.prog 25 #[v, .string ⟨sep.toArray⟩] w K := by
  obtain ⟨a, cap, rfl, hc, hr⟩ := hv
  rcases hr with hr | ⟨b, o, l, E, f, rfl, hb, hfit, hsub⟩
  · exact absurd (by simpa using hr) h0
  · have e1 : (L.map fun x => (⟨x.toArray⟩ : ByteArray)).map (·.data.toList) = L := by
      rw [List.map_map]
      exact List.map_id L
    have := Tryd.strings_Join b o cap (L.map fun x => ⟨x.toArray⟩) ⟨sep.toArray⟩ w (fun j x hx => ?_) (lt_of_at hb) (by simp; omega) (by simpa using hc.1) (by rw [e1]; show (Lib.join L sep).length ≤ _; omega)
    · rw [List.length_map] at this
      rw [List.length_map]
      refine Calls.mono this ?_
      rintro e w' ⟨rfl, hbl⟩
      refine ⟨_, rfl, ?_⟩
      rw [e1]
      exact hK w' (ext_belowS Ext.refl hbl)
    · rw [List.getElem?_map] at hx
      obtain ⟨s, hs, rfl⟩ := Option.map_eq_some_iff.1 hx
      have h1 := hsub j (sC s) (by rw [List.getElem?_map, hs]; rfl)
      rw [cell_of_block hb]
      have h2 : (Go.Fx.sub l (o + j * 1) 1)[0]? = some (.string ⟨s.toArray⟩) := by rw [h1]; rfl
      unfold Go.Fx.sub at h2
      rw [List.getElem?_take_of_lt (by omega), List.getElem?_drop] at h2
      rw [Nat.mul_one, Nat.add_zero] at h2
      exact h2
def partF (i : IZ) (b : UInt8) : List UInt8 := if b = 100 then 99 :: dec i.rd else if b = 97 then 99 :: dec i.r1 else if b = 98 then 99 :: dec i.r2 else dec i.im
def nameR (i : IZ) : List UInt8 := (rowZ i.op).n
/-- an instruction's text. -/
def textF (i : IZ) : List UInt8 := if encOk i then (if orderS (rowZ i.op).s = [] then nameR i else nameR i ++ ([32] ++ Lib.join ((orderS (rowZ i.op).s).map (partF i)) [44, 32])) else []
theorem order_len (s : Nat) : (orderS s).length ≤ 3 := by
  unfold orderS
  repeat' split
  all_goals simp
theorem name_len (i : IZ) : (nameR i).length ≤ 20 := by
  unfold nameR rowZ
  split
  · rename_i h
    unfold okOp at h
    rw [decide_eq_true_eq] at h
    have hall : rowI.all (fun r => decide (r.n.length ≤ 20)) = true := by decide
    have := List.all_eq_true.1 hall _ (row_mem (k := (i.op - 1).toNat) (by omega))
    exact of_decide_eq_true this
  · exact Nat.zero_le _
theorem part_len (i : IZ) (b : UInt8) : (partF i b).length ≤ 22 := by
  have h1 := dec_len (n := i.rd)
  have h2 := dec_len (n := i.r1)
  have h3 := dec_len (n := i.r2)
  have h4 := dec_len (n := i.im)
  unfold partF
  repeat' split
  all_goals first | (simp; omega) | omega
theorem join_len (sep : List UInt8) : ∀ (L : List (List UInt8)), (∀ x ∈ L, x.length ≤ 22) → (Lib.join L sep).length ≤ L.length * (22 + sep.length)
  | [], _ => by simp [Lib.join_nil]
  | x :: L, h => by
    rw [Lib.join_cons]
    have h1 := h x (by simp)
    have h2 : ∀ (L : List (List UInt8)), (∀ x ∈ L, x.length ≤ 22) → (Lib.joinTail sep L).length ≤ L.length * (22 + sep.length) := by
      intro L
      induction L with
      | nil => intro _; simp [Lib.joinTail]
      | cons y L ih =>
        intro h
        have := ih fun z hz => h z (by simp [hz])
        have hy := h y (by simp)
        unfold Lib.joinTail at this ⊢
        rw [List.map_cons, List.flatten_cons, List.length_append, List.length_append, List.length_cons, Nat.add_mul]
        omega
    have := h2 L fun z hz => h z (by simp [hz])
    rw [List.length_append, List.length_cons, Nat.add_mul]
    omega
theorem textF_len (i : IZ) : (textF i).length ≤ 100 := by
  have hn := name_len i
  have ho := order_len (rowZ i.op).s
  have hj := join_len [44, 32] ((orderS (rowZ i.op).s).map (partF i)) (by intro x hx; obtain ⟨b, -, rfl⟩ := List.mem_map.1 hx; exact part_len i b)
  rw [List.length_map] at hj
  have : (orderS (rowZ i.op).s).length * (22 + [44, 32].length) ≤ 3 * 24 := Nat.mul_le_mul ho (by simp)
  unfold textF
  split
  · split
    · omega
    · rw [List.length_append, List.length_append]
      simp
      omega
  · simp
set_option maxHeartbeats 1000000 in
theorem Text_spec {w : World} {i : IZ} (hi : izOk i) {K : Value → World → Prop} (hK : ∀ w', Ext [] w w' → K (.string ⟨(textF i).toArray⟩) w') : callsK Tryd.prog 6 #[.agg (izC i).toArray] w K := by
  have hi' := hi
  obtain ⟨ho, hrd, hr1, hr2, him⟩ := hi'
  apply F6_ok
  unfold F6
  have i0 : (izC i)[0]? = some (.int .i64 i.op) := rfl
  have i1 : (izC i)[1]? = some (.int .i64 i.rd) := rfl
  have i2 : (izC i)[2]? = some (.int .i64 i.r1) := rfl
  have i3 : (izC i)[3]? = some (.int .i64 i.r2) := rfl
  have i4 : (izC i)[4]? = some (.int .i64 i.im) := rfl
  simp (disch := first | assumption | omega | (simp only [szR, izC_len, izC_all] <;> omega) | rfl | decide) only [gen0, gen1, gen2, rulesC, rulesX, rulesA, litR, bolR, Nat.reduceAdd, Nat.reduceLeDiff, numR, memR, valR, heapR, updR, intR, decR, extR, slR, segR, thenR, pnR, Int.reduceToNat, Int.reduceAdd, Int.reduceSub, Int.reduceLT, Int.reduceLE, Nat.reduceSub, Nat.reduceMul, Nat.reduceEqDiff, izC_sub]
  have g1 : (w.alloc (.cells (izC i).toArray 28)).heap[w.heap.size]? = some (.cells (izC i).toArray 28 (0, 0)) := alloc_at rfl
  have hx0 : Ext [] w (w.alloc (.cells (izC i).toArray 28)) := Ext.alloc Ext.refl _ _
  refine Encode_spec hi fun w1 hx1 => ?_
  have g1a := hx1.at g1 (by simp)
  replace hx0 := hx0.trans hx1 (by simp)
  clear g1 hx1
  have hT : textF i = if encOk i then (if orderS (rowZ i.op).s = [] then nameR i else nameR i ++ ([32] ++ Lib.join ((orderS (rowZ i.op).s).map (partF i)) [44, 32])) else [] := rfl
  cases he : encOk i with
  | false =>
    rw [he] at hT
    rw [hT] at hK
    simp (disch := first | assumption | omega | (simp only [szR, izC_len, izC_all] <;> omega) | rfl | decide) only [gen0, gen1, gen2, rulesC, rulesX, rulesA, litR, bolR, Nat.reduceAdd, Nat.reduceLeDiff, numR, memR, valR, heapR, updR, intR, decR, extR, slR, segR, thenR, pnR, Int.reduceToNat, Int.reduceAdd, Int.reduceSub, Int.reduceLT, Int.reduceLE, Nat.reduceSub, Nat.reduceMul, Nat.reduceEqDiff]
    exact hK _ hx0
  | true =>
    rw [he, if_pos rfl] at hT
    rw [hT] at hK
    clear hT
    have l1 := lt_of_at g1a
    simp (disch := first | assumption | omega | (simp only [szR, izC_len, izC_all] <;> omega) | rfl | decide) only [gen0, gen1, gen2, rulesC, rulesX, rulesA, litR, bolR, Nat.reduceAdd, Nat.reduceLeDiff, numR, memR, valR, heapR, updR, intR, decR, extR, slR, segR, thenR, pnR, Int.reduceToNat, Int.reduceAdd, Int.reduceSub, Int.reduceLT, Int.reduceLE, Nat.reduceSub, Nat.reduceMul, Nat.reduceEqDiff, i0]
    have hxb : Ext [] w1 (w1.alloc (.cells [.slice none 0 0].toArray 38)) := by (repeat first | assumption | exact Ext.refl | apply Ext.alloc | apply Ext.drew | (refine Ext.updN ?_ ?_; (focus first | omega | (simp only [szR] <;> omega))) | (refine Ext.updI ?_ ?_; (focus (simp; done))))
    have gb : (w1.alloc (.cells [.slice none 0 0].toArray 38)).heap[w1.heap.size]? = some (.cells [.slice none 0 0].toArray 38 (0, 0)) := alloc_at rfl
    have g1b := hxb.at g1a (by simp)
    obtain ⟨w2, hw2⟩ : ∃ w2, w2 = w1.alloc (.cells [.slice none 0 0].toArray 38) := ⟨_, rfl⟩
    have gb2 : w2.heap[w1.heap.size]? = some (.cells [.slice none 0 0].toArray 38 (0, 0)) := hw2 ▸ gb
    have hxb2 : Ext [] w1 w2 := hw2 ▸ hxb
    rw [← hw2] at g1b
    simp (disch := first | assumption | omega | (simp only [szR, izC_len, izC_all] <;> omega) | rfl | decide) only [gen0, gen1, gen2, rulesC, rulesX, rulesA, litR, bolR, Nat.reduceAdd, Nat.reduceLeDiff, numR, memR, valR, heapR, updR, intR, decR, extR, slR, segR, thenR, pnR, Int.reduceToNat, Int.reduceAdd, Int.reduceSub, Int.reduceLT, Int.reduceLE, Nat.reduceSub, Nat.reduceMul, Nat.reduceEqDiff, g1a, i0]
    rw [← hw2]
    refine Shape_spec ho fun w3 hx3 => ?_
    refine order_spec (rowZ_sh i.op) ?_
    have hol := order_len (rowZ i.op).s
    have hpj := join_len [44, 32] ((orderS (rowZ i.op).s).map (partF i)) (by intro x hx; obtain ⟨b, -, rfl⟩ := List.mem_map.1 hx; exact part_len i b)
    rw [List.length_map] at hpj
    have hpj2 : (orderS (rowZ i.op).s).length * (22 + [44, 32].length) ≤ 3 * 24 := Nat.mul_le_mul hol (by simp)
    generalize orderS (rowZ i.op).s = o at *
    simp (disch := first | assumption | omega | (simp only [szR, izC_len, izC_all] <;> omega) | rfl | decide) only [gen0, gen1, gen2, rulesC, rulesX, rulesA, litR, bolR, Nat.reduceAdd, Nat.reduceLeDiff, numR, memR, valR, heapR, updR, intR, decR, extR, slR, segR, thenR, pnR, Int.reduceToNat, Int.reduceAdd, Int.reduceSub, Int.reduceLT, Int.reduceLE, Nat.reduceSub, Nat.reduceMul, Nat.reduceEqDiff]
    refine bytes_of_text (by omega) fun vb w4 hvb hx4 hvbb => ?_
    have hlb := hvb.lenR (ty := 3) Tryd.underlying62
    rw [List.length_map] at hlb
    have hx34 := hx3.trans hx4 (by simp)
    have gb4 := hx34.at gb2 (by simp)
    have hacc4 : Acc w1 w4 w4 w1.heap.size (.slice none 0 0) [] := ⟨gb4, OwnR.nil, Nat.le_refl _, lt_of_at gb4, hxb2.trans hx34 (by simp), Ext.refl⟩
    simp (disch := first | assumption | omega | (simp only [szR, izC_len, izC_all] <;> omega) | rfl | decide) only [gen0, gen1, gen2, rulesC, rulesX, rulesA, litR, bolR, Nat.reduceAdd, Nat.reduceLeDiff, numR, memR, valR, heapR, updR, intR, decR, extR, slR, segR, thenR, pnR, Int.reduceToNat, Int.reduceAdd, Int.reduceSub, Int.reduceLT, Int.reduceLE, Nat.reduceSub, Nat.reduceMul, Nat.reduceEqDiff, hlb]
    refine loopT.intro (fun st w' => ∃ (k : Nat) (v : Value), k ≤ o.length ∧ st = [.int .i64 (k : Nat)] ∧ Acc w1 w4 w' w1.heap.size v ((o.take k).map (partF i)))
      (fun st _ => match st with
        | [.int _ z] => o.length - z.toNat
        | _ => 0) ⟨0, _, Nat.zero_le _, rfl, hacc4⟩ ?_
    rintro st w5 ⟨k, v, hk, rfl, hacc⟩ _
    have g5 := hacc.ext.at g1a (by simp)
    have l5 := lt_of_at g5
    have hbx := hacc.box
    have lbx := lt_of_at hbx
    by_cases h4 : k < o.length
    · obtain ⟨b, hb⟩ : ∃ b, o[k]? = some b := ⟨_, List.getElem?_eq_getElem h4⟩
      have hrow : (o.map bC)[k]? = some (bC b) := by rw [List.getElem?_map, hb]; rfl
      obtain ⟨b0, o0, lb, E0, f0, hix, hb0, hfit, hblt, hbk, hsub, hget⟩ := RowsAt.ixR (P := Tryd.prog) (t := 62) Tryd.underlying62 Tryd.sizeOf5 hvb hrow
      have hne0 : b0 ≠ w1.heap.size := by
        have q1 := hvbb b0 hbk
        have q2 := lt_of_at (hx3.at gb2 (by simp))
        omega
      have hb5 := hacc.ext4.at hb0 (by simpa using hne0)
      have hcell := hget (o0 + 0) 0 rfl (by omega)
      have hc0 : lb[o0]? = some (.int .u8 (b.toNat : Nat)) := by simpa [bC] using hcell
      have hnx : (o.take (k + 1)).map (partF i) = (o.take k).map (partF i) ++ [partF i b] := by
        rw [List.take_add_one, hb, List.map_append]
        rfl
      have hlk : ((o.take k).map (partF i)).length ≤ 1000 := by simp; omega
      simp (disch := first | assumption | omega | (simp only [szR, izC_len, izC_all] <;> omega) | rfl | decide) only [gen0, gen1, gen2, rulesC, rulesX, rulesA, litR, bolR, Nat.reduceAdd, Nat.reduceLeDiff, numR, memR, valR, heapR, updR, intR, decR, extR, slR, segR, thenR, pnR, Int.reduceToNat, Int.reduceAdd, Int.reduceSub, Int.reduceLT, Int.reduceLE, Nat.reduceSub, Nat.reduceMul, Nat.reduceEqDiff, List.getD_cons_zero]
      refine joinL.intro fun J2 hJ2 => ?_
      have hgo : ∀ v' w6, Acc w1 w4 w6 w1.heap.size v' ((o.take k).map (partF i) ++ [partF i b]) → J2 [] w6 := by
        intro v' w6 ha
        apply hJ2
        intro _
        simp (disch := first | assumption | omega | (simp only [szR, izC_len, izC_all] <;> omega) | rfl | decide) only [gen0, gen1, gen2, rulesC, rulesX, rulesA, litR, bolR, Nat.reduceAdd, Nat.reduceLeDiff, numR, memR, valR, heapR, updR, intR, decR, extR, slR, segR, thenR, pnR, Int.reduceToNat, Int.reduceAdd, Int.reduceSub, Int.reduceLT, Int.reduceLE, Nat.reduceSub, Nat.reduceMul, Nat.reduceEqDiff, List.getD_cons_zero]
        exact ⟨⟨k + 1, v', by omega, rfl, by rw [hnx]; exact ha⟩, by first | omega | (simp <;> omega)⟩
      have hbl := b.toNat_lt
      have hbe : ∀ c : UInt8, (((b.toNat : Nat) : Int) = (c.toNat : Nat)) ↔ b = c := fun c => ⟨fun h => UInt8.toNat_inj.1 (by omega), fun h => by rw [h]⟩
      by_cases c1 : b = 100
      · have e : ((b.toNat : Nat) : Int) = 100 := (hbe 100).2 c1
        have hp : partF i b = 99 :: dec i.rd := by rw [partF, if_pos c1]
        simp (disch := first | assumption | omega | (simp only [szR, izC_len, izC_all] <;> omega) | rfl | decide) only [gen0, gen1, gen2, rulesC, rulesX, rulesA, litR, bolR, Nat.reduceAdd, Nat.reduceLeDiff, numR, memR, valR, heapR, updR, intR, decR, extR, slR, segR, thenR, pnR, Int.reduceToNat, Int.reduceAdd, Int.reduceSub, Int.reduceLT, Int.reduceLE, Nat.reduceSub, Nat.reduceMul, Nat.reduceEqDiff, hix, hb5, hc0, e, g5, i1]
        exact reg_spec hrd hacc hlk fun v' w6 ha => hgo v' w6 (by rw [hp]; exact ha)
      have e1 : ¬ ((b.toNat : Nat) : Int) = 100 := fun h => c1 ((hbe 100).1 h)
      by_cases c2 : b = 97
      · have e : ((b.toNat : Nat) : Int) = 97 := (hbe 97).2 c2
        have hp : partF i b = 99 :: dec i.r1 := by rw [partF, if_neg c1, if_pos c2]
        simp (disch := first | assumption | omega | (simp only [szR, izC_len, izC_all] <;> omega) | rfl | decide) only [gen0, gen1, gen2, rulesC, rulesX, rulesA, litR, bolR, Nat.reduceAdd, Nat.reduceLeDiff, numR, memR, valR, heapR, updR, intR, decR, extR, slR, segR, thenR, pnR, Int.reduceToNat, Int.reduceAdd, Int.reduceSub, Int.reduceLT, Int.reduceLE, Nat.reduceSub, Nat.reduceMul, Nat.reduceEqDiff, hix, hb5, hc0, e, g5, i2]
        exact reg_spec hr1 hacc hlk fun v' w6 ha => hgo v' w6 (by rw [hp]; exact ha)
      have e2 : ¬ ((b.toNat : Nat) : Int) = 97 := fun h => c2 ((hbe 97).1 h)
      by_cases c3 : b = 98
      · have e : ((b.toNat : Nat) : Int) = 98 := (hbe 98).2 c3
        have hp : partF i b = 99 :: dec i.r2 := by rw [partF, if_neg c1, if_neg c2, if_pos c3]
        simp (disch := first | assumption | omega | (simp only [szR, izC_len, izC_all] <;> omega) | rfl | decide) only [gen0, gen1, gen2, rulesC, rulesX, rulesA, litR, bolR, Nat.reduceAdd, Nat.reduceLeDiff, numR, memR, valR, heapR, updR, intR, decR, extR, slR, segR, thenR, pnR, Int.reduceToNat, Int.reduceAdd, Int.reduceSub, Int.reduceLT, Int.reduceLE, Nat.reduceSub, Nat.reduceMul, Nat.reduceEqDiff, hix, hb5, hc0, e, g5, i3]
        exact reg_spec hr2 hacc hlk fun v' w6 ha => hgo v' w6 (by rw [hp]; exact ha)
      have e3 : ¬ ((b.toNat : Nat) : Int) = 98 := fun h => c3 ((hbe 98).1 h)
      have hp : partF i b = dec i.im := by rw [partF, if_neg c1, if_neg c2, if_neg c3]
      have hdl := dec_len (n := i.im)
      simp (disch := first | assumption | omega | (simp only [szR, izC_len, izC_all] <;> omega) | rfl | decide) only [gen0, gen1, gen2, rulesC, rulesX, rulesA, litR, bolR, Nat.reduceAdd, Nat.reduceLeDiff, numR, memR, valR, heapR, updR, intR, decR, extR, slR, segR, thenR, pnR, Int.reduceToNat, Int.reduceAdd, Int.reduceSub, Int.reduceLT, Int.reduceLE, Nat.reduceSub, Nat.reduceMul, Nat.reduceEqDiff, hix, hb5, hc0, e1, e2, e3, g5, i4, hbx]
      refine ⟨?_, ?_, ?_⟩
      · refine digits_spec him fun w6 hx6 => ?_
        have h2 := hacc.stay (Ext.trans (S := []) (by (repeat first | assumption | exact Ext.refl | apply Ext.alloc | apply Ext.drew | (refine Ext.updN ?_ ?_; (focus first | omega | (simp only [szR] <;> omega))) | (refine Ext.updI ?_ ?_; (focus (simp; done))))) hx6 (by simp))
        have h3 : Acc w1 w4 (w6.alloc (.cells [.string ⟨(dec i.im).toArray⟩].toArray 9)) w1.heap.size v ((o.take k).map (partF i)) := h2.stay (by (repeat first | assumption | exact Ext.refl | apply Ext.alloc | apply Ext.drew | (refine Ext.updN ?_ ?_; (focus first | omega | (simp only [szR] <;> omega))) | (refine Ext.updI ?_ ?_; (focus (simp; done)))))
        have b2 := h2.box
        have b3 := h3.box
        have l3 := lt_of_at b3
        simp (disch := first | assumption | omega | (simp only [szR, izC_len, izC_all] <;> omega) | rfl | decide) only [gen0, gen1, gen2, rulesC, rulesX, rulesA, litR, bolR, Nat.reduceAdd, Nat.reduceLeDiff, numR, memR, valR, heapR, updR, intR, decR, extR, slR, segR, thenR, pnR, Int.reduceToNat, Int.reduceAdd, Int.reduceSub, Int.reduceLT, Int.reduceLE, Nat.reduceSub, Nat.reduceMul, Nat.reduceEqDiff, b2, b3, and_self]
        refine appT h3.own (rows2 := [sC (dec i.im)]) (OwnR.fresh (base := 0) rfl rfl (Nat.zero_le _)).rows (by intro r hr; simp at hr; subst hr; rfl) (by simp; omega) (by have := h3.ext4.size; omega) fun v8 w7 ho ha => ?_
        rw [show ((o.take k).map (partF i)).map sC ++ [sC (dec i.im)] = ((o.take k).map (partF i) ++ [dec i.im]).map sC by simp] at ho
        obtain ⟨a8, c8, hv8⟩ := ho.rows.len
        generalize (((o.take k).map (partF i) ++ [dec i.im]).map sC).length = n8 at hv8
        subst hv8
        have hP := h3.push ho ha
        have hb4 : w7.heap[w1.heap.size]? = some (.cells [v].toArray 38 (0, 0)) := (ha.kept _ l3 (fun e => by have := h3.own.block _ e; have := h3.lt; omega)).trans b3
        have l4 := lt_of_at hb4
        simp (disch := first | assumption | omega | (simp only [szR, izC_len, izC_all] <;> omega) | rfl | decide) only [gen0, gen1, gen2, rulesC, rulesX, rulesA, litR, bolR, Nat.reduceAdd, Nat.reduceLeDiff, numR, memR, valR, heapR, updR, intR, decR, extR, slR, segR, thenR, pnR, Int.reduceToNat, Int.reduceAdd, Int.reduceSub, Int.reduceLT, Int.reduceLE, Nat.reduceSub, Nat.reduceMul, Nat.reduceEqDiff, hb4, List.set_cons_zero]
        exact hgo _ _ (by rw [hp]; exact hP)
      · refine digits_spec him fun w6 hx6 => ?_
        have h2 := hacc.stay (Ext.trans (S := []) (by (repeat first | assumption | exact Ext.refl | apply Ext.alloc | apply Ext.drew | (refine Ext.updN ?_ ?_; (focus first | omega | (simp only [szR] <;> omega))) | (refine Ext.updI ?_ ?_; (focus (simp; done))))) hx6 (by simp))
        have h3 : Acc w1 w4 (w6.alloc (.cells [.string ⟨(dec i.im).toArray⟩].toArray 9)) w1.heap.size v ((o.take k).map (partF i)) := h2.stay (by (repeat first | assumption | exact Ext.refl | apply Ext.alloc | apply Ext.drew | (refine Ext.updN ?_ ?_; (focus first | omega | (simp only [szR] <;> omega))) | (refine Ext.updI ?_ ?_; (focus (simp; done)))))
        have b2 := h2.box
        have b3 := h3.box
        have l3 := lt_of_at b3
        simp (disch := first | assumption | omega | (simp only [szR, izC_len, izC_all] <;> omega) | rfl | decide) only [gen0, gen1, gen2, rulesC, rulesX, rulesA, litR, bolR, Nat.reduceAdd, Nat.reduceLeDiff, numR, memR, valR, heapR, updR, intR, decR, extR, slR, segR, thenR, pnR, Int.reduceToNat, Int.reduceAdd, Int.reduceSub, Int.reduceLT, Int.reduceLE, Nat.reduceSub, Nat.reduceMul, Nat.reduceEqDiff, b2, b3, and_self]
        refine appT h3.own (rows2 := [sC (dec i.im)]) (OwnR.fresh (base := 0) rfl rfl (Nat.zero_le _)).rows (by intro r hr; simp at hr; subst hr; rfl) (by simp; omega) (by have := h3.ext4.size; omega) fun v8 w7 ho ha => ?_
        rw [show ((o.take k).map (partF i)).map sC ++ [sC (dec i.im)] = ((o.take k).map (partF i) ++ [dec i.im]).map sC by simp] at ho
        obtain ⟨a8, c8, hv8⟩ := ho.rows.len
        generalize (((o.take k).map (partF i) ++ [dec i.im]).map sC).length = n8 at hv8
        subst hv8
        have hP := h3.push ho ha
        have hb4 : w7.heap[w1.heap.size]? = some (.cells [v].toArray 38 (0, 0)) := (ha.kept _ l3 (fun e => by have := h3.own.block _ e; have := h3.lt; omega)).trans b3
        have l4 := lt_of_at hb4
        simp (disch := first | assumption | omega | (simp only [szR, izC_len, izC_all] <;> omega) | rfl | decide) only [gen0, gen1, gen2, rulesC, rulesX, rulesA, litR, bolR, Nat.reduceAdd, Nat.reduceLeDiff, numR, memR, valR, heapR, updR, intR, decR, extR, slR, segR, thenR, pnR, Int.reduceToNat, Int.reduceAdd, Int.reduceSub, Int.reduceLT, Int.reduceLE, Nat.reduceSub, Nat.reduceMul, Nat.reduceEqDiff, hb4, List.set_cons_zero]
        exact hgo _ _ (by rw [hp]; exact hP)
      · refine digits_spec him fun w6 hx6 => ?_
        have h2 := hacc.stay (Ext.trans (S := []) (by (repeat first | assumption | exact Ext.refl | apply Ext.alloc | apply Ext.drew | (refine Ext.updN ?_ ?_; (focus first | omega | (simp only [szR] <;> omega))) | (refine Ext.updI ?_ ?_; (focus (simp; done))))) hx6 (by simp))
        have h3 : Acc w1 w4 (w6.alloc (.cells [.string ⟨(dec i.im).toArray⟩].toArray 9)) w1.heap.size v ((o.take k).map (partF i)) := h2.stay (by (repeat first | assumption | exact Ext.refl | apply Ext.alloc | apply Ext.drew | (refine Ext.updN ?_ ?_; (focus first | omega | (simp only [szR] <;> omega))) | (refine Ext.updI ?_ ?_; (focus (simp; done)))))
        have b2 := h2.box
        have b3 := h3.box
        have l3 := lt_of_at b3
        simp (disch := first | assumption | omega | (simp only [szR, izC_len, izC_all] <;> omega) | rfl | decide) only [gen0, gen1, gen2, rulesC, rulesX, rulesA, litR, bolR, Nat.reduceAdd, Nat.reduceLeDiff, numR, memR, valR, heapR, updR, intR, decR, extR, slR, segR, thenR, pnR, Int.reduceToNat, Int.reduceAdd, Int.reduceSub, Int.reduceLT, Int.reduceLE, Nat.reduceSub, Nat.reduceMul, Nat.reduceEqDiff, b2, b3, and_self]
        refine appT h3.own (rows2 := [sC (dec i.im)]) (OwnR.fresh (base := 0) rfl rfl (Nat.zero_le _)).rows (by intro r hr; simp at hr; subst hr; rfl) (by simp; omega) (by have := h3.ext4.size; omega) fun v8 w7 ho ha => ?_
        rw [show ((o.take k).map (partF i)).map sC ++ [sC (dec i.im)] = ((o.take k).map (partF i) ++ [dec i.im]).map sC by simp] at ho
        obtain ⟨a8, c8, hv8⟩ := ho.rows.len
        generalize (((o.take k).map (partF i) ++ [dec i.im]).map sC).length = n8 at hv8
        subst hv8
        have hP := h3.push ho ha
        have hb4 : w7.heap[w1.heap.size]? = some (.cells [v].toArray 38 (0, 0)) := (ha.kept _ l3 (fun e => by have := h3.own.block _ e; have := h3.lt; omega)).trans b3
        have l4 := lt_of_at hb4
        simp (disch := first | assumption | omega | (simp only [szR, izC_len, izC_all] <;> omega) | rfl | decide) only [gen0, gen1, gen2, rulesC, rulesX, rulesA, litR, bolR, Nat.reduceAdd, Nat.reduceLeDiff, numR, memR, valR, heapR, updR, intR, decR, extR, slR, segR, thenR, pnR, Int.reduceToNat, Int.reduceAdd, Int.reduceSub, Int.reduceLT, Int.reduceLE, Nat.reduceSub, Nat.reduceMul, Nat.reduceEqDiff, hb4, List.set_cons_zero]
        exact hgo _ _ (by rw [hp]; exact hP)
    · obtain rfl : k = o.length := by omega
      rw [List.take_length] at hacc
      have hrows := hacc.own.rows
      have hlr := hrows.lenR (ty := 3) Tryd.underlying38
      rw [List.length_map, List.length_map] at hlr
      have hbx := hacc.box
      by_cases h0 : o = []
      · subst h0
        rw [if_pos rfl] at hK
        simp (disch := first | assumption | omega | (simp only [szR, izC_len, izC_all] <;> omega) | rfl | decide) only [gen0, gen1, gen2, rulesC, rulesX, rulesA, litR, bolR, Nat.reduceAdd, Nat.reduceLeDiff, numR, memR, valR, heapR, updR, intR, decR, extR, slR, segR, thenR, pnR, Int.reduceToNat, Int.reduceAdd, Int.reduceSub, Int.reduceLT, Int.reduceLE, Nat.reduceSub, Nat.reduceMul, Nat.reduceEqDiff, hbx, hlr, g5, i0]
        exact Name_spec ho fun w6 hx6 => hK _ ((hx0.trans hacc.ext (by simp)).trans hx6 (by simp))
      · rw [if_neg h0] at hK
        have hol0 : ¬ ((o.length : Nat) : Int) = 0 := by
          have := List.length_pos_iff.2 h0
          omega
        have hnl := name_len i
        have hadd1 : ∀ (x y : Operand) (w : World), (binV .add 9 x y (.string ⟨(nameR i).toArray⟩) (.string ⟨#[32]⟩)).run Tryd.prog w = .ok (.string ⟨(nameR i ++ [32]).toArray⟩) w := addS (a := nameR i) (b := [32]) (by simp; omega)
        have hadd2 := addS (a := nameR i ++ [32]) (b := Lib.join (o.map (partF i)) [44, 32]) (by simp; omega)
        have hjn : ∀ (w6 : World) (K : Value → World → Prop), Ext [] w5 w6 → (∀ w7, Ext [] w6 w7 → K (.string ⟨(Lib.join (o.map (partF i)) [44, 32]).toArray⟩) w7) → callsK Tryd.prog 25 #[v, .string ⟨#[44, 32]⟩] w6 K := fun w6 K hx h => Join_spec (sep := [44, 32]) (hrows.ext hx (by simp)) (by simpa using h0) (by simp; omega) (by omega) h
        have hnm : ∀ (w6 : World) (K : Value → World → Prop), (∀ w7, Ext [] w6 w7 → K (.string ⟨(nameR i).toArray⟩) w7) → callsK Tryd.prog 24 #[.int .i64 i.op] w6 K := fun w6 K h => Name_spec ho h
        have hx5 := hx0.trans hacc.ext (by simp)
        have hxd : Ext [] w5 w5.drew := by (repeat first | assumption | exact Ext.refl | apply Ext.alloc | apply Ext.drew | (refine Ext.updN ?_ ?_; (focus first | omega | (simp only [szR] <;> omega))) | (refine Ext.updI ?_ ?_; (focus (simp; done))))
        have hcon : (nameR i ++ [32]) ++ Lib.join (o.map (partF i)) [44, 32] = nameR i ++ ([32] ++ Lib.join (o.map (partF i)) [44, 32]) := by simp
        rw [hcon] at hadd2
        simp (disch := first | assumption | omega | (simp only [szR, izC_len, izC_all] <;> omega) | rfl | decide) only [gen0, gen1, gen2, rulesC, rulesX, rulesA, litR, bolR, Nat.reduceAdd, Nat.reduceLeDiff, numR, memR, valR, heapR, updR, intR, decR, extR, slR, segR, thenR, pnR, Int.reduceToNat, Int.reduceAdd, Int.reduceSub, Int.reduceLT, Int.reduceLE, Nat.reduceSub, Nat.reduceMul, Nat.reduceEqDiff, hbx, hlr, g5, i0]
        refine ⟨⟨?_, ?_⟩, ?_⟩
        all_goals
          refine hnm _ _ fun w7 hx7 => ?_
          have hx57 := hxd.trans hx7 (by simp)
          have hbx7 := hx57.at hbx (by simp)
          simp (disch := first | assumption | omega | (simp only [szR, izC_len, izC_all] <;> omega) | rfl | decide) only [gen0, gen1, gen2, rulesC, rulesX, rulesA, litR, bolR, Nat.reduceAdd, Nat.reduceLeDiff, numR, memR, valR, heapR, updR, intR, decR, extR, slR, segR, thenR, pnR, Int.reduceToNat, Int.reduceAdd, Int.reduceSub, Int.reduceLT, Int.reduceLE, Nat.reduceSub, Nat.reduceMul, Nat.reduceEqDiff, hadd1, hbx7]
          refine hjn _ _ hx57 fun w8 hx8 => ?_
          simp (disch := first | assumption | omega | (simp only [szR, izC_len, izC_all] <;> omega) | rfl | decide) only [gen0, gen1, gen2, rulesC, rulesX, rulesA, litR, bolR, Nat.reduceAdd, Nat.reduceLeDiff, numR, memR, valR, heapR, updR, intR, decR, extR, slR, segR, thenR, pnR, Int.reduceToNat, Int.reduceAdd, Int.reduceSub, Int.reduceLT, Int.reduceLE, Nat.reduceSub, Nat.reduceMul, Nat.reduceEqDiff, hadd2]
          exact hK _ ((hx5.trans hx57 (by simp)).trans hx8 (by simp))
end Go.Proofs.YtobkjnmdbkieeaaDoor
