/- A branch to a mark: the walk; conditions: those of each theorem. -/
import Derived.Test.YtobkjnmdbkieeaaDoorAM3
namespace Go.Proofs.YtobkjnmdbkieeaaDoor
open Go.Fx
set_option maxRecDepth 100000
set_option linter.unusedSimpArgs false
set_option linter.unusedVariables false
theorem lineF_n {k : Nat} {l : List UInt8} {x : Ln} (h : lineF k l = some x) : x.n = k := by
  unfold lineF at h
  dsimp only at h
  split at h
  · cases h
  · split at h
    · cases h; rfl
    · cases h; rfl
theorem linesFrom_n : ∀ (a : List (List UInt8)) (k : Nat) (x : Ln), x ∈ linesFrom k a → k < x.n ∧ x.n ≤ k + a.length
  | [], k, x, h => by simp [linesFrom] at h
  | l :: a, k, x, h => by
    rw [linesFrom, List.mem_append] at h
    rw [List.length_cons]
    rcases h with h | h
    · rw [Option.mem_toList] at h
      have := lineF_n h
      omega
    · have := linesFrom_n a (k + 1) x h
      omega
theorem mark_plain : Plain addT ∧ Plain beqT ∧ Plain jalT := by
  have c1 : Lib.cut addT [32] = ([97, 100, 100, 105], [99, 49, 44, 32, 99, 49, 44, 32, 49], true) := cut_at (c := 32) (t := []) (x := [97, 100, 100, 105]) (r := [99, 49, 44, 32, 99, 49, 44, 32, 49]) (by decide)
  have c2 : Lib.cut beqT [32] = ([98, 101, 113], [99, 49, 44, 32, 99, 50, 44, 32, 98], true) := cut_at (c := 32) (t := []) (x := [98, 101, 113]) (r := [99, 49, 44, 32, 99, 50, 44, 32, 98]) (by decide)
  have c3 : Lib.cut jalT [32] = ([106, 97, 108], [99, 51, 44, 32, 97], true) := cut_at (c := 32) (t := []) (x := [106, 97, 108]) (r := [99, 51, 44, 32, 97]) (by decide)
  unfold Plain
  rw [c1, c2, c3]
  decide
theorem layL_len (bl : List Int) : ∀ n, (layL bl n).length ≤ 2 * n
  | 0 => Nat.le_refl _
  | n + 1 => by
    have e : layL bl (n + 1) = layL bl n ++ (addT :: sepL bl n) := by
      unfold layL
      rw [List.range_succ, List.flatMap_append]
      simp
    have ih := layL_len bl n
    have h : (sepL bl n).length ≤ 1 := by
      unfold sepL
      split
      · simp
      · repeat' split
        all_goals simp
    rw [e, List.length_append, List.length_cons]
    omega
theorem marks_asm {w : World} {bl : List Int} {a b : Nat} (ha : a < 64) (hb : b < 64) (hg : Gm w) {K : Value → World → Prop} (hK : ∀ v w', RowsAt w' v 1 ((List.replicate a (encR addI) ++ (encR (beqI b) :: encR (jalI a) :: List.replicate b (encR addI))).map wC) → Ext [] w w' → K (.tuple #[v, .int .i64 0, .int .i64 0]) w') : callsK Tryd.prog 8 #[.string ⟨(joinN (allL bl a b)).toArray⟩] w K := by
  have hsp : Lib.split (joinN (allL bl a b)) [10] = allL bl a b ++ [[]] := by
    refine split_joinN _ fun x hx => ?_
    unfold allL at hx
    simp only [List.mem_append, List.mem_cons, List.mem_nil_iff, or_false] at hx
    rcases hx with (((rfl | hx) | rfl | rfl) | hx) | rfl
    · decide
    · rcases layL_mem hx with rfl | rfl | rfl | rfl <;> decide
    · decide
    · decide
    · rcases layL_mem hx with rfl | rfl | rfl | rfl <;> decide
    · decide
  have hmap := all_lines bl a b
  have hn := linesFrom_n (allL bl a b ++ [[]]) 0
  have hlen := linesFrom_len (allL bl a b ++ [[]]) 0
  have hl1 := layL_len bl a
  have hl2 := layL_len bl b
  have hal : (allL bl a b ++ [[]]).length ≤ 300 := by
    unfold allL
    simp
    omega
  have htl : (joinN (allL bl a b)).length ≤ 16384 := by
    have j1 := layT_len bl a
    have j2 := layT_len bl b
    unfold allL
    simp only [joinN_app, lay_join, List.length_append]
    have q1 : (joinN [[97, 58]]).length = 3 := rfl
    have q2 : (joinN [beqT, jalT]).length = 24 := rfl
    have q3 : (joinN [[98, 58]]).length = 3 := rfl
    omega
  have hcnt : countF selfL (linesFrom 0 (allL bl a b ++ [[]])) = countF selfL (allM a b) := count_same _ _ _ hmap
  obtain ⟨c1, c2, c3⟩ := count_all a b
  have hgo := go_same (linesFrom 0 (allL bl a b ++ [[]])) (allM a b) (fun _ => false) [] _ hmap (go_all ha hb)
  refine Assemble_spec (st := selfL) (fun t => Nat.le_succ 1) hg htl ?_ ?_ ?_ ?_ ?_
  · rw [hsp]
    intro x hx hm
    have hp := mark_plain
    have hxm : tmL x ∈ (allM a b).map tmL := by rw [← hmap]; exact List.mem_map_of_mem hx
    obtain ⟨y, hy, he⟩ := List.mem_map.1 hxm
    unfold tmL at he
    rw [Prod.mk.injEq] at he
    unfold allM at hy
    simp only [List.mem_append, List.mem_cons, List.mem_replicate, List.mem_nil_iff, or_false] at hy
    have key : ∀ t : List UInt8, t.length ≤ 100 → Plain t → x.t = t → StandsOK x.t (selfL x.t) ∧ ∀ y ∈ selfL x.t, y.length ≤ 1000000 := by
      intro t h1 h2 h3
      rw [h3]
      exact ⟨stands_plain (by omega) h2, fun y hy => by simp [selfL] at hy; subst hy; omega⟩
    rcases hy with rfl | ⟨-, rfl⟩ | rfl | rfl | ⟨-, rfl⟩ | rfl
    · rw [hm] at he; cases he.2
    · exact key addT (by decide) hp.1 he.1.symm
    · exact key beqT (by decide) hp.2.1 he.1.symm
    · exact key jalT (by decide) hp.2.2 he.1.symm
    · exact key addT (by decide) hp.1 he.1.symm
    · rw [hm] at he; cases he.2
  · rw [hsp, hcnt, c3]
    omega
  · rw [hsp]
    omega
  · rw [hsp]
    intro x hx
    have := hn x hx
    omega
  · rw [hsp, hcnt, c1, c2, hgo]
    dsimp only
    exact fun v w' h1 h2 _ => hK v w' h1 h2
set_option maxHeartbeats 2000000 in
theorem marks_spec {w : World} {v : Value} {bl : List Int} {x y : Int} (hg : Gm w) (hv : RowsAt w v 1 (bl.map iC)) {K : Value → World → Prop} (hK : ∀ w', Ext [] w w' → K (.bool true) w') : callsK Tryd.prog 4 #[.int .i64 x, .int .i64 y, v] w K := by
  apply F4_ok
  unfold F4
  have hax : bitI .and .i64 x 63 = x % 64 := by
    have := and_mask (k := .i64) (a := x) (n := 6) (by decide)
    simpa using this
  have hay : bitI .and .i64 y 63 = y % 64 := by
    have := and_mask (k := .i64) (a := y) (n := 6) (by decide)
    simpa using this
  obtain ⟨a, haN⟩ : ∃ a : Nat, x % 64 = a := ⟨(x % 64).toNat, by omega⟩
  obtain ⟨b, hbN⟩ : ∃ b : Nat, y % 64 = b := ⟨(y % 64).toNat, by omega⟩
  have ha : a < 64 := by omega
  have hb : b < 64 := by omega
  rw [haN] at hax
  rw [hbN] at hay
  obtain ⟨va, vc, rfl⟩ := hv.len
  simp (disch := first | assumption | omega | (simp only [szR, izC_len, izC_all] <;> omega) | rfl | decide) only [gen0, gen1, gen2, rulesC, rulesX, rulesA, rulesL, rulesK, litR, bolR, Nat.reduceAdd, Nat.reduceLeDiff, numR, memR, valR, heapR, updR, intR, decR, extR, slR, segR, thenR, pnR, Int.reduceToNat, Int.reduceAdd, Int.reduceSub, Int.reduceLT, Int.reduceLE, Nat.reduceSub, Nat.reduceMul, Nat.reduceEqDiff, hax, hay, kUm_eq]
  have hx1 : Ext [] w ((w.alloc (.cells [.slice va (bl.map iC).length vc].toArray 37)).alloc (.cells [.string ⟨#[97, 58, 10]⟩].toArray 9)) := by (repeat first | assumption | exact Ext.refl | apply Ext.alloc | apply Ext.drew | (refine Ext.updN ?_ ?_; (focus first | omega | (simp only [szR] <;> omega))) | (refine Ext.updI ?_ ?_; (focus (simp; done))))
  have g0 : ((w.alloc (.cells [.slice va (bl.map iC).length vc].toArray 37)).alloc (.cells [.string ⟨#[97, 58, 10]⟩].toArray 9)).heap[w.heap.size]? = some (.cells [.slice va (bl.map iC).length vc].toArray 37 (0, 0)) := (by first | with_reducible rfl | assumption | (simp (disch := first | assumption | omega | (simp only [szR, izC_len, izC_all] <;> omega) | rfl | decide) only [gen0, gen1, gen2, rulesC, rulesX, rulesA, rulesL, rulesK, litR, bolR, Nat.reduceAdd, Nat.reduceLeDiff, numR, memR, valR, heapR, updR, intR, decR, extR, slR, segR, thenR, pnR, Int.reduceToNat, Int.reduceAdd, Int.reduceSub, Int.reduceLT, Int.reduceLE, Nat.reduceSub, Nat.reduceMul, Nat.reduceEqDiff] <;> rfl))
  have g1 : ((w.alloc (.cells [.slice va (bl.map iC).length vc].toArray 37)).alloc (.cells [.string ⟨#[97, 58, 10]⟩].toArray 9)).heap[w.heap.size + 1]? = some (.cells [.string ⟨([97, 58, 10] : List UInt8).toArray⟩].toArray 9 (0, 0)) := (by first | with_reducible rfl | assumption | (simp (disch := first | assumption | omega | (simp only [szR, izC_len, izC_all] <;> omega) | rfl | decide) only [gen0, gen1, gen2, rulesC, rulesX, rulesA, rulesL, rulesK, litR, bolR, Nat.reduceAdd, Nat.reduceLeDiff, numR, memR, valR, heapR, updR, intR, decR, extR, slR, segR, thenR, pnR, Int.reduceToNat, Int.reduceAdd, Int.reduceSub, Int.reduceLT, Int.reduceLE, Nat.reduceSub, Nat.reduceMul, Nat.reduceEqDiff] <;> rfl))
  have hvb : ∀ c, blockOf (.slice va (bl.map iC).length vc) = some c → (bl.map iC ≠ [] → c < w.heap.size) := fun c hc h => hv.blt h c hc
  have hv1 := hv.ext hx1 (by simp)
  generalize ((w.alloc (.cells [.slice va (bl.map iC).length vc].toArray 37)).alloc (.cells [.string ⟨#[97, 58, 10]⟩].toArray 9)) = w1 at *
  have hne : w.heap.size + 1 ≠ w.heap.size := by omega
  have hvc : bl.map iC ≠ [] → ∀ c, blockOf (.slice va (bl.map iC).length vc) = some c → c ≠ w.heap.size + 1 := by
    intro h c hc
    have := hvb c hc h
    omega
  obtain ⟨b7, hb7⟩ : ∃ b7, b7 = w.heap.size + 1 := ⟨_, rfl⟩
  obtain ⟨b5, hb5⟩ : ∃ b5, b5 = w.heap.size := ⟨_, rfl⟩
  rw [← hb7] at g1 hvc hne ⊢
  rw [← hb5] at g0 hne ⊢
  generalize hsv : Value.slice va (bl.map iC).length vc = sv at *
  have j1 := layT_len bl a
  have j2 := layT_len bl b
  have hA1 := addS (a := [97, 58, 10] ++ layT bl a) (b := [98, 101, 113, 32, 99, 49, 44, 32, 99, 50, 44, 32, 98, 10, 106, 97, 108, 32, 99, 51, 44, 32, 97, 10]) (by simp; omega)
  refine lay_spec (w0 := w) ha (by simp) g1 g0 hne hv1 hvc fun w2 m1 hx2 => ?_
  have m0 := hx2.at g0 (by simpa using Ne.symm hne)
  have l1 := lt_of_at m1
  simp (disch := first | assumption | omega | (simp only [szR, izC_len, izC_all] <;> omega) | rfl | decide) only [gen0, gen1, gen2, rulesC, rulesX, rulesA, rulesL, rulesK, litR, bolR, Nat.reduceAdd, Nat.reduceLeDiff, numR, memR, valR, heapR, updR, intR, decR, extR, slR, segR, thenR, pnR, Int.reduceToNat, Int.reduceAdd, Int.reduceSub, Int.reduceLT, Int.reduceLE, Nat.reduceSub, Nat.reduceMul, Nat.reduceEqDiff, m1, hA1, List.set_cons_zero]
  obtain ⟨T2, hT2⟩ : ∃ T2, T2 = [97, 58, 10] ++ layT bl a ++ [98, 101, 113, 32, 99, 49, 44, 32, 99, 50, 44, 32, 98, 10, 106, 97, 108, 32, 99, 51, 44, 32, 97, 10] := ⟨_, rfl⟩
  rw [← hT2]
  have u1 : (World.upd w2 b7 [.string ⟨T2.toArray⟩]).heap[b7]? = some (.cells [.string ⟨T2.toArray⟩].toArray 9 (0, 0)) := upd_at m1
  have u0 : (World.upd w2 b7 [.string ⟨T2.toArray⟩]).heap[b5]? = some (.cells [sv].toArray 37 (0, 0)) := (upd_ne (Ne.symm hne)).trans m0
  have hxu : Ext [b7] w1 (World.upd w2 b7 [.string ⟨T2.toArray⟩]) := hx2.trans (Ext.updI (S := [b7]) (by simp) Ext.refl) (fun k hk => .inl hk)
  have hvu := hv1.at' hxu (fun h0 c hc => by have := hvc h0 c hc; simpa using this)
  have hT2l : T2.length ≤ 3000 := by
    rw [hT2]
    simp
    omega
  generalize (World.upd w2 b7 [.string ⟨T2.toArray⟩]) = w3 at *
  refine lay_spec (w0 := w) hb (by omega) u1 u0 hne hvu hvc fun w4 n1 hx4 => ?_
  have hA2 := addS (a := T2 ++ layT bl b) (b := [98, 58, 10]) (by simp; omega)
  have l4 := lt_of_at n1
  have hTf : T2 ++ layT bl b ++ [98, 58, 10] = joinN (allL bl a b) := by
    rw [hT2]
    unfold allL
    simp only [joinN_app, lay_join]
    rfl
  rw [hTf] at hA2
  simp (disch := first | assumption | omega | (simp only [szR, izC_len, izC_all] <;> omega) | rfl | decide) only [gen0, gen1, gen2, rulesC, rulesX, rulesA, rulesL, rulesK, litR, bolR, Nat.reduceAdd, Nat.reduceLeDiff, numR, memR, valR, heapR, updR, intR, decR, extR, slR, segR, thenR, pnR, Int.reduceToNat, Int.reduceAdd, Int.reduceSub, Int.reduceLT, Int.reduceLE, Nat.reduceSub, Nat.reduceMul, Nat.reduceEqDiff, n1, hA2, List.set_cons_zero]
  have o1 : (World.upd w4 b7 [.string ⟨(joinN (allL bl a b)).toArray⟩]).heap[b7]? = some (.cells [.string ⟨(joinN (allL bl a b)).toArray⟩].toArray 9 (0, 0)) := upd_at n1
  have hx5 : Ext [b7] w1 (World.upd w4 b7 [.string ⟨(joinN (allL bl a b)).toArray⟩]) := (hxu.trans hx4 (fun k hk => .inl hk)).trans (Ext.updI (S := [b7]) (by simp) Ext.refl) (fun k hk => .inl hk)
  have hx05 : Ext [] w (World.upd w4 b7 [.string ⟨(joinN (allL bl a b)).toArray⟩]) := hx1.trans hx5 (by intro k hk; simp at hk; omega)
  have l5 := lt_of_at o1
  generalize (World.upd w4 b7 [.string ⟨(joinN (allL bl a b)).toArray⟩]) = w5 at *
  refine marks_asm ha hb (hg.ext hx05) fun u w6 hu hx6 => ?_
  have hlu := hu.lenR (ty := 3) Tryd.underlying23
  rw [List.length_map] at hlu
  have hlen : (List.replicate a (encR addI) ++ (encR (beqI b) :: encR (jalI a) :: List.replicate b (encR addI))).length = a + b + 2 := by simp; omega
  rw [hlen] at hlu
  have hr1 : ((List.replicate a (encR addI) ++ (encR (beqI b) :: encR (jalI a) :: List.replicate b (encR addI))).map wC)[a]? = some (wC (encR (beqI b))) := by
    rw [List.getElem?_map, List.getElem?_append_right (by simp)]
    simp
  have hr2 : ((List.replicate a (encR addI) ++ (encR (beqI b) :: encR (jalI a) :: List.replicate b (encR addI))).map wC)[a + 1]? = some (wC (encR (jalI a))) := by
    rw [List.getElem?_map, List.getElem?_append_right (by simp)]
    simp
  obtain ⟨ba, oa, la, Ea, fa, hixa, hba, hfa, -, -, -, hgeta⟩ := RowsAt.ixR (P := Tryd.prog) (t := 23) Tryd.underlying23 Tryd.sizeOf24 hu hr1
  obtain ⟨bb, ob, lb, Eb, fb, hixb, hbb, hfb, -, -, -, hgetb⟩ := RowsAt.ixR (P := Tryd.prog) (t := 23) Tryd.underlying23 Tryd.sizeOf24 hu hr2
  obtain ⟨q1, q2, q3⟩ := beq_ok hb
  obtain ⟨p1, p2, p3⟩ := jal_ok ha
  have hca : la[oa]? = some (.int .u32 (encR (beqI b) : Nat)) := by simpa [wC] using hgeta (oa + 0) 0 rfl (by omega)
  have hcb : lb[ob]? = some (.int .u32 (encR (jalI a) : Nat)) := by simpa [wC] using hgetb (ob + 0) 0 rfl (by omega)
  have hsum : (a : Int) + b + 2 = ((a + b + 2 : Nat) : Int) := by omega
  simp (disch := first | assumption | omega | (simp only [szR, izC_len, izC_all] <;> omega) | rfl | decide) only [gen0, gen1, gen2, rulesC, rulesX, rulesA, rulesL, rulesK, litR, bolR, Nat.reduceAdd, Nat.reduceLeDiff, numR, memR, valR, heapR, updR, intR, decR, extR, slR, segR, thenR, pnR, Int.reduceToNat, Int.reduceAdd, Int.reduceSub, Int.reduceLT, Int.reduceLE, Nat.reduceSub, Nat.reduceMul, Nat.reduceEqDiff, joinBR, hlu, hsum, hixa, hba, hca]
  refine Decode_spec q3 fun w7 hx7 => ?_
  rw [q2]
  dsimp only
  have zz1 := iz_over
  have zz2 := iz_put
  rw [show izC izZ = [.int .i64 0, .int .i64 0, .int .i64 0, .int .i64 0, .int .i64 0] from rfl] at zz1 zz2
  have hxa : Ext [] w7 (w7.alloc (.cells (izC (beqI b)).toArray 28)) := Ext.alloc Ext.refl _ _
  have ga : (w7.alloc (.cells (izC (beqI b)).toArray 28)).heap[w7.heap.size]? = some (.cells (izC (beqI b)).toArray 28 (0, 0)) := alloc_at rfl
  have hbb7 := (hx7.trans hxa (by simp)).at hbb (by simp)
  have ha1 : (a : Int) + 1 = ((a + 1 : Nat) : Int) := by omega
  simp (disch := first | assumption | omega | (simp only [szR, izC_len, izC_all] <;> omega) | rfl | decide) only [gen0, gen1, gen2, rulesC, rulesX, rulesA, rulesL, rulesK, litR, bolR, Nat.reduceAdd, Nat.reduceLeDiff, numR, memR, valR, heapR, updR, intR, decR, extR, slR, segR, thenR, pnR, Int.reduceToNat, Int.reduceAdd, Int.reduceSub, Int.reduceLT, Int.reduceLE, Nat.reduceSub, Nat.reduceMul, Nat.reduceEqDiff, joinBR, zz1, zz2, ha1, hixb, hbb7, hcb]
  refine Decode_spec p3 fun w8 hx8 => ?_
  rw [p2]
  dsimp only
  have gb8 := hx8.at ga (by simp)
  have lb8 := lt_of_at gb8
  have hxb : Ext [] w8 (w8.alloc (.cells (izC (jalI a)).toArray 28)) := Ext.alloc Ext.refl _ _
  have hxx := ((((hx05.trans hx6 (by simp)).trans hx7 (by simp)).trans hxa (by simp)).trans hx8 (by simp)).trans hxb (by simp)
  have hqb : izC (beqI b) = [.int .i64 5, .int .i64 0, .int .i64 1, .int .i64 2, .int .i64 (4 * ((b : Int) + 2))] := rfl
  have hqj : izC (jalI a) = [.int .i64 3, .int .i64 3, .int .i64 0, .int .i64 0, .int .i64 (-4 * ((a : Int) + 1))] := rfl
  have gj : (w8.alloc (.cells (izC (jalI a)).toArray 28)).heap[w8.heap.size]? = some (.cells (izC (jalI a)).toArray 28 (0, 0)) := alloc_at rfl
  rw [hqb] at gb8
  simp (disch := first | assumption | omega | (simp only [szR, izC_len, izC_all] <;> omega) | rfl | decide) only [gen0, gen1, gen2, rulesC, rulesX, rulesA, rulesL, rulesK, litR, bolR, Nat.reduceAdd, Nat.reduceLeDiff, numR, memR, valR, heapR, updR, intR, decR, extR, slR, segR, thenR, pnR, Int.reduceToNat, Int.reduceAdd, Int.reduceSub, Int.reduceLT, Int.reduceLE, Nat.reduceSub, Nat.reduceMul, Nat.reduceEqDiff, joinBR, zz1, zz2, gb8, izC_sub, Int.reduceNegSucc, hqb]
  rw [hqj] at hxx ⊢
  simp (disch := first | assumption | omega | (simp only [szR, izC_len, izC_all] <;> omega) | rfl | decide) only [gen0, gen1, gen2, rulesC, rulesX, rulesA, rulesL, rulesK, litR, bolR, Nat.reduceAdd, Nat.reduceLeDiff, numR, memR, valR, heapR, updR, intR, decR, extR, slR, segR, thenR, pnR, Int.reduceToNat, Int.reduceAdd, Int.reduceSub, Int.reduceLT, Int.reduceLE, Nat.reduceSub, Nat.reduceMul, Nat.reduceEqDiff, joinBR]
  refine one_spec (hg.ext hxx) fun w9 hx9 => ?_
  simp (disch := first | assumption | omega | (simp only [szR, izC_len, izC_all] <;> omega) | rfl | decide) only [gen0, gen1, gen2, rulesC, rulesX, rulesA, rulesL, rulesK, litR, bolR, Nat.reduceAdd, Nat.reduceLeDiff, numR, memR, valR, heapR, updR, intR, decR, extR, slR, segR, thenR, pnR, Int.reduceToNat, Int.reduceAdd, Int.reduceSub, Int.reduceLT, Int.reduceLE, Nat.reduceSub, Nat.reduceMul, Nat.reduceEqDiff, joinBR]
  exact hK _ (hxx.trans hx9 (by simp))
end Go.Proofs.YtobkjnmdbkieeaaDoor
