/- Texts' numbers, and names; conditions: those of each theorem. -/
import Derived.Test.YtobkjnmdbkieeaaDoorAS1
namespace Go.Proofs.YtobkjnmdbkieeaaDoor
open Go.Fx
set_option maxRecDepth 100000
set_option linter.unusedSimpArgs false
set_option linter.unusedVariables false
theorem CutPrefix_spec {w : World} {s p : List UInt8} {K : Value → World → Prop} (hK : K (.tuple #[.string ⟨(Lib.trimPrefix s p).toArray⟩, .bool (Lib.hasPrefix s p)]) w) : callsK Tryd.prog 30 #[.string ⟨s.toArray⟩, .string ⟨p.toArray⟩] w K := by
  refine Calls.mono (Tryd.strings_CutPrefix ⟨s.toArray⟩ ⟨p.toArray⟩ w) ?_
  rintro e w' ⟨rfl, rfl⟩
  exact ⟨_, rfl, hK⟩
theorem CutSuffix_spec {w : World} {s p : List UInt8} (h : s.length ≤ 9223372036854775807) {K : Value → World → Prop} (hK : K (.tuple #[.string ⟨(Lib.trimSuffix s p).toArray⟩, .bool (Lib.hasSuffix s p)]) w) : callsK Tryd.prog 51 #[.string ⟨s.toArray⟩, .string ⟨p.toArray⟩] w K := by
  refine Calls.mono (Tryd.strings_CutSuffix ⟨s.toArray⟩ ⟨p.toArray⟩ w (by rw [size_mk]; exact h)) ?_
  rintro e w' ⟨rfl, rfl⟩
  exact ⟨_, rfl, hK⟩
theorem HasPrefix_spec {w : World} {s p : List UInt8} {K : Value → World → Prop} (hK : K (.bool (Lib.hasPrefix s p)) w) : callsK Tryd.prog 50 #[.string ⟨s.toArray⟩, .string ⟨p.toArray⟩] w K := by
  refine Calls.mono (Tryd.strings_HasPrefix ⟨s.toArray⟩ ⟨p.toArray⟩ w) ?_
  rintro e w' ⟨rfl, rfl⟩
  exact ⟨_, rfl, hK⟩
theorem TrimLeft_spec {w : World} {s : List UInt8} {c : UInt8} (hc : c.toNat < 128) {K : Value → World → Prop} (hK : K (.string ⟨(Lib.trimLeftB s c).toArray⟩) w) : callsK Tryd.prog 49 #[.string ⟨s.toArray⟩, .string ⟨#[c]⟩] w K := by
  refine Calls.mono (Tryd.strings_TrimLeft_one ⟨s.toArray⟩ c hc w) ?_
  rintro e w' ⟨rfl, rfl⟩
  exact ⟨_, rfl, hK⟩
theorem LastIndex_spec {w : World} {s p : List UInt8} (h : s.length < 4611686018427387904) {K : Value → World → Prop} (hK : K (.int .i64 (Lib.lastIndex s p)) w) : callsK Tryd.prog 54 #[.string ⟨s.toArray⟩, .string ⟨p.toArray⟩] w K := by
  refine Calls.mono (Tryd.strings_LastIndex ⟨s.toArray⟩ ⟨p.toArray⟩ (by rw [size_mk]; exact h) w) ?_
  rintro e w' ⟨rfl, rfl⟩
  exact ⟨_, rfl, hK⟩
/-- where Go's library keeps how long a text it looks for may be. -/
def Gm (w : World) : Prop := 0 < w.heap.size ∧ ∃ m : Int, w.cell? ⟨0, 0, none⟩ = some (.int .i64 m)
theorem Gm.ext {w w' : World} (h : Gm w) (hx : Ext [] w w') : Gm w' := by
  obtain ⟨h0, m, hm⟩ := h
  have hk := hx.kept 0 h0 (by simp)
  have hs := hx.size
  refine ⟨by omega, m, ?_⟩
  rw [← hm]
  unfold World.cell?
  rw [hk]
theorem drewN_ext (w : World) (n : Nat) : Ext [] w (w.drewN n) := ⟨rfl, rfl, rfl, Nat.le_refl _, fun _ _ _ => rfl⟩
theorem Cut_spec {w : World} {s p : List UInt8} (hg : Gm w) (h : s.length < 4294967281) {K : Value → World → Prop} (hK : ∀ w', Ext [] w w' → K (.tuple #[.string ⟨(Lib.cut s p).1.toArray⟩, .string ⟨(Lib.cut s p).2.1.toArray⟩, .bool (Lib.cut s p).2.2]) w') : callsK Tryd.prog 26 #[.string ⟨s.toArray⟩, .string ⟨p.toArray⟩] w K := by
  obtain ⟨h0, m, hm⟩ := hg
  refine Calls.mono (Tryd.strings_Cut ⟨s.toArray⟩ ⟨p.toArray⟩ m w (by rw [size_mk]; exact h) hm) ?_
  rintro e w' ⟨rfl, n, rfl⟩
  exact ⟨_, rfl, hK _ (drewN_ext w n)⟩
/-- a text's cell. -/
def sC (l : List UInt8) : List Value := [.string ⟨l.toArray⟩]
theorem sC_all (l : List (List UInt8)) : ∀ r ∈ l.map sC, r.all (fun v => v.oneCell') = true := by
  intro r hr
  obtain ⟨l, -, rfl⟩ := List.mem_map.1 hr
  rfl
theorem Split_spec {w : World} {s p : List UInt8} (hg : Gm w) (h : s.length < 4294967281) (h1 : p ≠ []) {K : Value → World → Prop} (hK : ∀ v w', RowsAt w' v 1 ((Lib.split s p).map sC) → Ext [] w w' → (∀ b, blockOf v = some b → w.heap.size ≤ b) → K v w') : callsK Tryd.prog 28 #[.string ⟨s.toArray⟩, .string ⟨p.toArray⟩] w K := by
  obtain ⟨h0, m, hm⟩ := hg
  have hp1 : 1 ≤ (⟨p.toArray⟩ : ByteArray).size := by
    rw [size_mk]
    exact List.length_pos_iff.2 h1
  have hd := Lib.splitB_data ⟨p.toArray⟩ 0 (Lib.countB ⟨s.toArray⟩ ⟨p.toArray⟩) ⟨s.toArray⟩
  have hlen := Lib.splitB_all ⟨p.toArray⟩ hp1 0 (Lib.countB ⟨s.toArray⟩ ⟨p.toArray⟩) ⟨s.toArray⟩ rfl
  refine Calls.mono (Tryd.strings_Split ⟨s.toArray⟩ ⟨p.toArray⟩ m w (by rw [size_mk]; exact h) hm hp1) ?_
  rintro e w' ⟨rfl, rfl⟩
  refine ⟨_, rfl, ?_⟩
  have hcells : (Lib.splitB ⟨p.toArray⟩ 0 (Lib.countB ⟨s.toArray⟩ ⟨p.toArray⟩) ⟨s.toArray⟩).map Value.string = (Lib.split s p).map fun l => .string ⟨l.toArray⟩ := by
    have e2 : Lib.split s p = (Lib.splitB ⟨p.toArray⟩ 0 (Lib.countB ⟨s.toArray⟩ ⟨p.toArray⟩) ⟨s.toArray⟩).map (·.data.toList) := by rw [hd]; rfl
    rw [e2, List.map_map]
    apply List.map_congr_left
    intro x _
    rfl
  have hlen2 : (Lib.split s p).length = Lib.countB ⟨s.toArray⟩ ⟨p.toArray⟩ + 1 := by
    rw [← hlen]
    simpa using (congrArg List.length hcells).symm
  rw [hcells, ← hlen2]
  have hcount : (Lib.split s p).length ≤ maxLen := by
    have := Lib.countB_le ⟨p.toArray⟩ hp1 s.length ⟨s.toArray⟩ (by rw [size_mk]; exact Nat.le_refl _)
    rw [size_mk] at this
    simp only [maxLen]
    omega
  refine hK _ _ ⟨_, (Lib.split s p).length, by rw [List.length_map], ⟨by simp, hcount⟩, .inr ⟨w.heap.size, 0, _, _, _, rfl, alloc_at rfl, by simp, fun i r hi => ?_⟩⟩ (by (repeat first | assumption | exact Ext.refl | apply Ext.alloc | apply Ext.drew | (refine Ext.updN ?_ ?_; (focus first | omega | (simp only [szR] <;> omega))) | (refine Ext.updI ?_ ?_; (focus (simp; done))))) (fun b hb => Nat.le_of_eq (Option.some.inj hb))
  rw [List.getElem?_map] at hi
  obtain ⟨l, hl, rfl⟩ := Option.map_eq_some_iff.1 hi
  obtain ⟨hi2, rfl⟩ := List.getElem?_eq_some_iff.1 hl
  unfold Go.Fx.sub
  rw [Nat.zero_add, Nat.mul_one, List.take_one, List.head?_drop, List.getElem?_map, hl]
  rfl
/-- a decimal digit. -/
def digB (b : UInt8) : Bool := decide (48 ≤ b.toNat ∧ b.toNat ≤ 57)
def valL (l : List UInt8) : Nat := l.foldl (fun n b => n * 10 + (b.toNat - 48)) 0
theorem valL_lt : ∀ (l : List UInt8), l.all digB = true → valL l < 10 ^ l.length := by
  intro l
  unfold valL
  suffices h : ∀ (l : List UInt8) (n k : Nat), n < 10 ^ k → l.all digB = true → l.foldl (fun n b => n * 10 + (b.toNat - 48)) n < 10 ^ (k + l.length) by
    intro ha
    have := h l 0 0 (by decide) ha
    rwa [Nat.zero_add] at this
  intro l
  induction l with
  | nil => intro n k h _; exact h
  | cons b l ih =>
    intro n k h ha
    rw [List.all_cons, Bool.and_eq_true] at ha
    obtain ⟨hb, ha⟩ := ha
    unfold digB at hb
    rw [decide_eq_true_eq] at hb
    rw [List.foldl_cons, List.length_cons]
    have := ih (n * 10 + (b.toNat - 48)) (k + 1) (by rw [Nat.pow_succ]; omega) ha
    rwa [show k + (l.length + 1) = k + 1 + l.length by omega]
/-- a text's number; false: it is none. -/
def numberF (s : List UInt8) : Int × Bool :=
  if Lib.trimPrefix s [45] = [] ∨ 10 < (Lib.trimPrefix s [45]).length ∨ (1 < (Lib.trimPrefix s [45]).length ∧ (Lib.trimPrefix s [45])[0]? = some 48) ∨ (Lib.hasPrefix s [45] = true ∧ Lib.trimPrefix s [45] = [48]) then (0, false)
  else if (Lib.trimPrefix s [45]).all digB then (if Lib.hasPrefix s [45] then 0 - ((valL (Lib.trimPrefix s [45]) : Nat) : Int) else ((valL (Lib.trimPrefix s [45]) : Nat) : Int), true) else (0, false)
theorem number_spec {w : World} {s : List UInt8} (hs : s.length < 4294967281) {K : Value → World → Prop} (hK : K (.tuple #[.int .i64 (numberF s).1, .bool (numberF s).2]) w) : callsK Tryd.prog 31 #[.string ⟨s.toArray⟩] w K := by
  apply F31_ok
  unfold F31
  refine CutPrefix_spec (s := s) (p := [45]) ?_
  have hlr : (Lib.trimPrefix s [45]).length ≤ s.length := by
    unfold Lib.trimPrefix
    split
    · simp
    · exact Nat.le_refl _
  unfold numberF at hK
  generalize Lib.trimPrefix s [45] = r at *
  generalize Lib.hasPrefix s [45] = ng at *
  have hE := eqlS r []
  have hE2 := eqlS r [48]
  have hL := lenS r
  by_cases h0 : r = []
  · rw [if_pos (.inl h0)] at hK
    simp (disch := first | assumption | omega | (simp only [szR] <;> omega) | rfl | decide) only [gen0, gen1, gen2, rulesC, rulesX, rulesA, litR, bolR, Nat.reduceAdd, Nat.reduceLeDiff, numR, memR, valR, heapR, updR, intR, decR, extR, slR, segR, thenR, pnR, Int.reduceToNat, Int.reduceAdd, Int.reduceSub, Int.reduceLT, Int.reduceLE, Nat.reduceSub, Nat.reduceMul, Nat.reduceEqDiff, joinBR, hE, decide_eq_true h0]
    exact hK
  have hd0 := decide_eq_false h0
  by_cases h1 : 10 < r.length
  · rw [if_pos (.inr (.inl h1))] at hK
    simp (disch := first | assumption | omega | (simp only [szR] <;> omega) | rfl | decide) only [gen0, gen1, gen2, rulesC, rulesX, rulesA, litR, bolR, Nat.reduceAdd, Nat.reduceLeDiff, numR, memR, valR, heapR, updR, intR, decR, extR, slR, segR, thenR, pnR, Int.reduceToNat, Int.reduceAdd, Int.reduceSub, Int.reduceLT, Int.reduceLE, Nat.reduceSub, Nat.reduceMul, Nat.reduceEqDiff, joinBR, hE, hd0, hL]
    exact hK
  obtain ⟨b0, hb0⟩ : ∃ b, r[0]? = some b := by
    cases r with
    | nil => exact absurd rfl h0
    | cons b r => exact ⟨b, rfl⟩
  have hix0 := ixS hb0
  have hix0' : ∀ w, (Instr.index 9 (.string ⟨r.toArray⟩) (.int .i64 0)).run Tryd.prog w = .ok (.int .u8 (b0.toNat : Nat)) w := hix0
  have hb48 : (((b0.toNat : Nat) : Int) = 48) ↔ b0 = 48 := by
    constructor
    · intro h
      apply UInt8.toNat_inj.1
      have : (48 : UInt8).toNat = 48 := rfl
      omega
    · rintro rfl; rfl
  by_cases h2 : 1 < r.length ∧ r[0]? = some 48
  · rw [if_pos (.inr (.inr (.inl h2)))] at hK
    have hb : ((b0.toNat : Nat) : Int) = 48 := hb48.2 (by rw [hb0] at h2; exact Option.some.inj h2.2)
    obtain ⟨h2a, h2b⟩ := h2
    simp (disch := first | assumption | omega | (simp only [szR] <;> omega) | rfl | decide) only [gen0, gen1, gen2, rulesC, rulesX, rulesA, litR, bolR, Nat.reduceAdd, Nat.reduceLeDiff, numR, memR, valR, heapR, updR, intR, decR, extR, slR, segR, thenR, pnR, Int.reduceToNat, Int.reduceAdd, Int.reduceSub, Int.reduceLT, Int.reduceLE, Nat.reduceSub, Nat.reduceMul, Nat.reduceEqDiff, joinBR, hE, hd0, hL, hix0', hb]
    exact hK
  by_cases h3 : ng = true ∧ r = [48]
  · rw [if_pos (.inr (.inr (.inr h3)))] at hK
    obtain ⟨h3a, h3b⟩ := h3
    subst h3b
    subst h3a
    simp (disch := first | assumption | omega | (simp only [szR] <;> omega) | rfl | decide) only [gen0, gen1, gen2, rulesC, rulesX, rulesA, litR, bolR, Nat.reduceAdd, Nat.reduceLeDiff, numR, memR, valR, heapR, updR, intR, decR, extR, slR, segR, thenR, pnR, Int.reduceToNat, Int.reduceAdd, Int.reduceSub, Int.reduceLT, Int.reduceLE, Nat.reduceSub, Nat.reduceMul, Nat.reduceEqDiff, joinBR, hE, hd0, hL, hE2, decide_eq_true]
    exact hK
  rw [if_neg (by rintro (h | h | h | h) <;> contradiction)] at hK
  have hn10 : r.length ≤ 10 := by omega
  have hc1 : (1 < r.length ∧ ((b0.toNat : Nat) : Int) ≠ 48) ∨ ¬ 1 < r.length := by
    by_cases h : 1 < r.length
    · exact .inl ⟨h, fun h5 => h2 ⟨h, by rw [hb0, hb48.1 h5]⟩⟩
    · exact .inr h
  have hc2 : (ng = true ∧ decide (r = [48]) = false) ∨ ng = false := by
    cases ng with
    | false => exact .inr rfl
    | true => exact .inl ⟨rfl, decide_eq_false fun h => h3 ⟨rfl, h⟩⟩
  rcases hc1 with ⟨c1, c2⟩ | c1 <;> rcases hc2 with ⟨rfl, d2⟩ | rfl
  · simp (disch := first | assumption | omega | (simp only [szR] <;> omega) | rfl | decide) only [gen0, gen1, gen2, rulesC, rulesX, rulesA, litR, bolR, Nat.reduceAdd, Nat.reduceLeDiff, numR, memR, valR, heapR, updR, intR, decR, extR, slR, segR, thenR, pnR, Int.reduceToNat, Int.reduceAdd, Int.reduceSub, Int.reduceLT, Int.reduceLE, Nat.reduceSub, Nat.reduceMul, Nat.reduceEqDiff, joinBR, hE, hd0, hL, hix0', hE2, d2]
    refine loopT.intro (fun st w' => ∃ (k : Nat), k ≤ r.length ∧ st = [.int .i64 (valL (r.take k) : Nat), .int .i64 (k : Nat)] ∧ (r.take k).all digB = true ∧ w' = w)
      (fun st _ => match st with
        | [_, .int _ z] => r.length - z.toNat
        | _ => 0) ⟨0, Nat.zero_le _, rfl, rfl, rfl⟩ ?_
    rintro st w' ⟨k, hk, rfl, hall, rfl⟩ _
    have hv := valL_lt _ hall
    have hv2 : valL (r.take k) < 10 ^ 10 := Nat.lt_of_lt_of_le hv (Nat.pow_le_pow_right (by decide) (by simp; omega))
    by_cases h4 : k < r.length
    · obtain ⟨b, hb⟩ : ∃ b, r[k]? = some b := ⟨_, List.getElem?_eq_getElem h4⟩
      have hix := ixS hb
      have hnv : valL (r.take (k + 1)) = valL (r.take k) * 10 + (b.toNat - 48) := by
        unfold valL
        rw [List.take_add_one, hb, List.foldl_append]
        rfl
      have hna : (r.take (k + 1)).all digB = digB b := by
        rw [List.take_add_one, hb, List.all_append, hall]
        simp
      generalize valL (r.take k) = n at *
      have hbl := b.toNat_lt
      by_cases h5 : 48 ≤ b.toNat ∧ b.toNat ≤ 57
      · have hdb : digB b = true := decide_eq_true h5
        have e1 : ((b.toNat : Nat) : Int) - 48 = ((b.toNat - 48 : Nat) : Int) := by omega
        simp (disch := first | assumption | omega | (simp only [szR] <;> omega) | rfl | decide) only [gen0, gen1, gen2, rulesC, rulesX, rulesA, litR, bolR, Nat.reduceAdd, Nat.reduceLeDiff, numR, memR, valR, heapR, updR, intR, decR, extR, slR, segR, thenR, pnR, Int.reduceToNat, Int.reduceAdd, Int.reduceSub, Int.reduceLT, Int.reduceLE, Nat.reduceSub, Nat.reduceMul, Nat.reduceEqDiff, joinBR, hix, List.getD_cons_zero, List.getD_cons_succ, e1]
        refine ⟨⟨k + 1, by omega, by rw [hnv]; simp, hna.trans hdb, trivial⟩, by first | omega | (simp <;> omega)⟩
      · have hdb : r.all digB = false := by
          rw [List.all_eq_false]
          exact ⟨b, List.mem_of_getElem? hb, by unfold digB; simpa using h5⟩
        rw [hdb] at hK
        by_cases h6 : b.toNat < 48
        · simp (disch := first | assumption | omega | (simp only [szR] <;> omega) | rfl | decide) only [gen0, gen1, gen2, rulesC, rulesX, rulesA, litR, bolR, Nat.reduceAdd, Nat.reduceLeDiff, numR, memR, valR, heapR, updR, intR, decR, extR, slR, segR, thenR, pnR, Int.reduceToNat, Int.reduceAdd, Int.reduceSub, Int.reduceLT, Int.reduceLE, Nat.reduceSub, Nat.reduceMul, Nat.reduceEqDiff, joinBR, hix, List.getD_cons_zero, List.getD_cons_succ]
          exact hK
        · simp (disch := first | assumption | omega | (simp only [szR] <;> omega) | rfl | decide) only [gen0, gen1, gen2, rulesC, rulesX, rulesA, litR, bolR, Nat.reduceAdd, Nat.reduceLeDiff, numR, memR, valR, heapR, updR, intR, decR, extR, slR, segR, thenR, pnR, Int.reduceToNat, Int.reduceAdd, Int.reduceSub, Int.reduceLT, Int.reduceLE, Nat.reduceSub, Nat.reduceMul, Nat.reduceEqDiff, joinBR, hix, List.getD_cons_zero, List.getD_cons_succ]
          exact hK
    · obtain rfl : k = r.length := by omega
      rw [List.take_length] at hall hv2 ⊢
      rw [hall] at hK
      generalize valL r = n at *
      simp (disch := first | assumption | omega | (simp only [szR] <;> omega) | rfl | decide) only [gen0, gen1, gen2, rulesC, rulesX, rulesA, litR, bolR, Nat.reduceAdd, Nat.reduceLeDiff, numR, memR, valR, heapR, updR, intR, decR, extR, slR, segR, thenR, pnR, Int.reduceToNat, Int.reduceAdd, Int.reduceSub, Int.reduceLT, Int.reduceLE, Nat.reduceSub, Nat.reduceMul, Nat.reduceEqDiff, joinR, List.getD_cons_zero, List.getD_cons_succ]
      first | exact hK | exact fun _ => hK
  · simp (disch := first | assumption | omega | (simp only [szR] <;> omega) | rfl | decide) only [gen0, gen1, gen2, rulesC, rulesX, rulesA, litR, bolR, Nat.reduceAdd, Nat.reduceLeDiff, numR, memR, valR, heapR, updR, intR, decR, extR, slR, segR, thenR, pnR, Int.reduceToNat, Int.reduceAdd, Int.reduceSub, Int.reduceLT, Int.reduceLE, Nat.reduceSub, Nat.reduceMul, Nat.reduceEqDiff, joinBR, hE, hd0, hL, hix0', hE2]
    refine loopT.intro (fun st w' => ∃ (k : Nat), k ≤ r.length ∧ st = [.int .i64 (valL (r.take k) : Nat), .int .i64 (k : Nat)] ∧ (r.take k).all digB = true ∧ w' = w)
      (fun st _ => match st with
        | [_, .int _ z] => r.length - z.toNat
        | _ => 0) ⟨0, Nat.zero_le _, rfl, rfl, rfl⟩ ?_
    rintro st w' ⟨k, hk, rfl, hall, rfl⟩ _
    have hv := valL_lt _ hall
    have hv2 : valL (r.take k) < 10 ^ 10 := Nat.lt_of_lt_of_le hv (Nat.pow_le_pow_right (by decide) (by simp; omega))
    by_cases h4 : k < r.length
    · obtain ⟨b, hb⟩ : ∃ b, r[k]? = some b := ⟨_, List.getElem?_eq_getElem h4⟩
      have hix := ixS hb
      have hnv : valL (r.take (k + 1)) = valL (r.take k) * 10 + (b.toNat - 48) := by
        unfold valL
        rw [List.take_add_one, hb, List.foldl_append]
        rfl
      have hna : (r.take (k + 1)).all digB = digB b := by
        rw [List.take_add_one, hb, List.all_append, hall]
        simp
      generalize valL (r.take k) = n at *
      have hbl := b.toNat_lt
      by_cases h5 : 48 ≤ b.toNat ∧ b.toNat ≤ 57
      · have hdb : digB b = true := decide_eq_true h5
        have e1 : ((b.toNat : Nat) : Int) - 48 = ((b.toNat - 48 : Nat) : Int) := by omega
        simp (disch := first | assumption | omega | (simp only [szR] <;> omega) | rfl | decide) only [gen0, gen1, gen2, rulesC, rulesX, rulesA, litR, bolR, Nat.reduceAdd, Nat.reduceLeDiff, numR, memR, valR, heapR, updR, intR, decR, extR, slR, segR, thenR, pnR, Int.reduceToNat, Int.reduceAdd, Int.reduceSub, Int.reduceLT, Int.reduceLE, Nat.reduceSub, Nat.reduceMul, Nat.reduceEqDiff, joinBR, hix, List.getD_cons_zero, List.getD_cons_succ, e1]
        refine ⟨⟨k + 1, by omega, by rw [hnv]; simp, hna.trans hdb, trivial⟩, by first | omega | (simp <;> omega)⟩
      · have hdb : r.all digB = false := by
          rw [List.all_eq_false]
          exact ⟨b, List.mem_of_getElem? hb, by unfold digB; simpa using h5⟩
        rw [hdb] at hK
        by_cases h6 : b.toNat < 48
        · simp (disch := first | assumption | omega | (simp only [szR] <;> omega) | rfl | decide) only [gen0, gen1, gen2, rulesC, rulesX, rulesA, litR, bolR, Nat.reduceAdd, Nat.reduceLeDiff, numR, memR, valR, heapR, updR, intR, decR, extR, slR, segR, thenR, pnR, Int.reduceToNat, Int.reduceAdd, Int.reduceSub, Int.reduceLT, Int.reduceLE, Nat.reduceSub, Nat.reduceMul, Nat.reduceEqDiff, joinBR, hix, List.getD_cons_zero, List.getD_cons_succ]
          exact hK
        · simp (disch := first | assumption | omega | (simp only [szR] <;> omega) | rfl | decide) only [gen0, gen1, gen2, rulesC, rulesX, rulesA, litR, bolR, Nat.reduceAdd, Nat.reduceLeDiff, numR, memR, valR, heapR, updR, intR, decR, extR, slR, segR, thenR, pnR, Int.reduceToNat, Int.reduceAdd, Int.reduceSub, Int.reduceLT, Int.reduceLE, Nat.reduceSub, Nat.reduceMul, Nat.reduceEqDiff, joinBR, hix, List.getD_cons_zero, List.getD_cons_succ]
          exact hK
    · obtain rfl : k = r.length := by omega
      rw [List.take_length] at hall hv2 ⊢
      rw [hall] at hK
      generalize valL r = n at *
      simp (disch := first | assumption | omega | (simp only [szR] <;> omega) | rfl | decide) only [gen0, gen1, gen2, rulesC, rulesX, rulesA, litR, bolR, Nat.reduceAdd, Nat.reduceLeDiff, numR, memR, valR, heapR, updR, intR, decR, extR, slR, segR, thenR, pnR, Int.reduceToNat, Int.reduceAdd, Int.reduceSub, Int.reduceLT, Int.reduceLE, Nat.reduceSub, Nat.reduceMul, Nat.reduceEqDiff, joinR, List.getD_cons_zero, List.getD_cons_succ]
      first | exact hK | exact fun _ => hK
  · simp (disch := first | assumption | omega | (simp only [szR] <;> omega) | rfl | decide) only [gen0, gen1, gen2, rulesC, rulesX, rulesA, litR, bolR, Nat.reduceAdd, Nat.reduceLeDiff, numR, memR, valR, heapR, updR, intR, decR, extR, slR, segR, thenR, pnR, Int.reduceToNat, Int.reduceAdd, Int.reduceSub, Int.reduceLT, Int.reduceLE, Nat.reduceSub, Nat.reduceMul, Nat.reduceEqDiff, joinBR, hE, hd0, hL, hix0', hE2, d2]
    refine loopT.intro (fun st w' => ∃ (k : Nat), k ≤ r.length ∧ st = [.int .i64 (valL (r.take k) : Nat), .int .i64 (k : Nat)] ∧ (r.take k).all digB = true ∧ w' = w)
      (fun st _ => match st with
        | [_, .int _ z] => r.length - z.toNat
        | _ => 0) ⟨0, Nat.zero_le _, rfl, rfl, rfl⟩ ?_
    rintro st w' ⟨k, hk, rfl, hall, rfl⟩ _
    have hv := valL_lt _ hall
    have hv2 : valL (r.take k) < 10 ^ 10 := Nat.lt_of_lt_of_le hv (Nat.pow_le_pow_right (by decide) (by simp; omega))
    by_cases h4 : k < r.length
    · obtain ⟨b, hb⟩ : ∃ b, r[k]? = some b := ⟨_, List.getElem?_eq_getElem h4⟩
      have hix := ixS hb
      have hnv : valL (r.take (k + 1)) = valL (r.take k) * 10 + (b.toNat - 48) := by
        unfold valL
        rw [List.take_add_one, hb, List.foldl_append]
        rfl
      have hna : (r.take (k + 1)).all digB = digB b := by
        rw [List.take_add_one, hb, List.all_append, hall]
        simp
      generalize valL (r.take k) = n at *
      have hbl := b.toNat_lt
      by_cases h5 : 48 ≤ b.toNat ∧ b.toNat ≤ 57
      · have hdb : digB b = true := decide_eq_true h5
        have e1 : ((b.toNat : Nat) : Int) - 48 = ((b.toNat - 48 : Nat) : Int) := by omega
        simp (disch := first | assumption | omega | (simp only [szR] <;> omega) | rfl | decide) only [gen0, gen1, gen2, rulesC, rulesX, rulesA, litR, bolR, Nat.reduceAdd, Nat.reduceLeDiff, numR, memR, valR, heapR, updR, intR, decR, extR, slR, segR, thenR, pnR, Int.reduceToNat, Int.reduceAdd, Int.reduceSub, Int.reduceLT, Int.reduceLE, Nat.reduceSub, Nat.reduceMul, Nat.reduceEqDiff, joinBR, hix, List.getD_cons_zero, List.getD_cons_succ, e1]
        refine ⟨⟨k + 1, by omega, by rw [hnv]; simp, hna.trans hdb, trivial⟩, by first | omega | (simp <;> omega)⟩
      · have hdb : r.all digB = false := by
          rw [List.all_eq_false]
          exact ⟨b, List.mem_of_getElem? hb, by unfold digB; simpa using h5⟩
        rw [hdb] at hK
        by_cases h6 : b.toNat < 48
        · simp (disch := first | assumption | omega | (simp only [szR] <;> omega) | rfl | decide) only [gen0, gen1, gen2, rulesC, rulesX, rulesA, litR, bolR, Nat.reduceAdd, Nat.reduceLeDiff, numR, memR, valR, heapR, updR, intR, decR, extR, slR, segR, thenR, pnR, Int.reduceToNat, Int.reduceAdd, Int.reduceSub, Int.reduceLT, Int.reduceLE, Nat.reduceSub, Nat.reduceMul, Nat.reduceEqDiff, joinBR, hix, List.getD_cons_zero, List.getD_cons_succ]
          exact hK
        · simp (disch := first | assumption | omega | (simp only [szR] <;> omega) | rfl | decide) only [gen0, gen1, gen2, rulesC, rulesX, rulesA, litR, bolR, Nat.reduceAdd, Nat.reduceLeDiff, numR, memR, valR, heapR, updR, intR, decR, extR, slR, segR, thenR, pnR, Int.reduceToNat, Int.reduceAdd, Int.reduceSub, Int.reduceLT, Int.reduceLE, Nat.reduceSub, Nat.reduceMul, Nat.reduceEqDiff, joinBR, hix, List.getD_cons_zero, List.getD_cons_succ]
          exact hK
    · obtain rfl : k = r.length := by omega
      rw [List.take_length] at hall hv2 ⊢
      rw [hall] at hK
      generalize valL r = n at *
      simp (disch := first | assumption | omega | (simp only [szR] <;> omega) | rfl | decide) only [gen0, gen1, gen2, rulesC, rulesX, rulesA, litR, bolR, Nat.reduceAdd, Nat.reduceLeDiff, numR, memR, valR, heapR, updR, intR, decR, extR, slR, segR, thenR, pnR, Int.reduceToNat, Int.reduceAdd, Int.reduceSub, Int.reduceLT, Int.reduceLE, Nat.reduceSub, Nat.reduceMul, Nat.reduceEqDiff, joinR, List.getD_cons_zero, List.getD_cons_succ]
      first | exact hK | exact fun _ => hK
  · simp (disch := first | assumption | omega | (simp only [szR] <;> omega) | rfl | decide) only [gen0, gen1, gen2, rulesC, rulesX, rulesA, litR, bolR, Nat.reduceAdd, Nat.reduceLeDiff, numR, memR, valR, heapR, updR, intR, decR, extR, slR, segR, thenR, pnR, Int.reduceToNat, Int.reduceAdd, Int.reduceSub, Int.reduceLT, Int.reduceLE, Nat.reduceSub, Nat.reduceMul, Nat.reduceEqDiff, joinBR, hE, hd0, hL, hix0', hE2]
    refine loopT.intro (fun st w' => ∃ (k : Nat), k ≤ r.length ∧ st = [.int .i64 (valL (r.take k) : Nat), .int .i64 (k : Nat)] ∧ (r.take k).all digB = true ∧ w' = w)
      (fun st _ => match st with
        | [_, .int _ z] => r.length - z.toNat
        | _ => 0) ⟨0, Nat.zero_le _, rfl, rfl, rfl⟩ ?_
    rintro st w' ⟨k, hk, rfl, hall, rfl⟩ _
    have hv := valL_lt _ hall
    have hv2 : valL (r.take k) < 10 ^ 10 := Nat.lt_of_lt_of_le hv (Nat.pow_le_pow_right (by decide) (by simp; omega))
    by_cases h4 : k < r.length
    · obtain ⟨b, hb⟩ : ∃ b, r[k]? = some b := ⟨_, List.getElem?_eq_getElem h4⟩
      have hix := ixS hb
      have hnv : valL (r.take (k + 1)) = valL (r.take k) * 10 + (b.toNat - 48) := by
        unfold valL
        rw [List.take_add_one, hb, List.foldl_append]
        rfl
      have hna : (r.take (k + 1)).all digB = digB b := by
        rw [List.take_add_one, hb, List.all_append, hall]
        simp
      generalize valL (r.take k) = n at *
      have hbl := b.toNat_lt
      by_cases h5 : 48 ≤ b.toNat ∧ b.toNat ≤ 57
      · have hdb : digB b = true := decide_eq_true h5
        have e1 : ((b.toNat : Nat) : Int) - 48 = ((b.toNat - 48 : Nat) : Int) := by omega
        simp (disch := first | assumption | omega | (simp only [szR] <;> omega) | rfl | decide) only [gen0, gen1, gen2, rulesC, rulesX, rulesA, litR, bolR, Nat.reduceAdd, Nat.reduceLeDiff, numR, memR, valR, heapR, updR, intR, decR, extR, slR, segR, thenR, pnR, Int.reduceToNat, Int.reduceAdd, Int.reduceSub, Int.reduceLT, Int.reduceLE, Nat.reduceSub, Nat.reduceMul, Nat.reduceEqDiff, joinBR, hix, List.getD_cons_zero, List.getD_cons_succ, e1]
        refine ⟨⟨k + 1, by omega, by rw [hnv]; simp, hna.trans hdb, trivial⟩, by first | omega | (simp <;> omega)⟩
      · have hdb : r.all digB = false := by
          rw [List.all_eq_false]
          exact ⟨b, List.mem_of_getElem? hb, by unfold digB; simpa using h5⟩
        rw [hdb] at hK
        by_cases h6 : b.toNat < 48
        · simp (disch := first | assumption | omega | (simp only [szR] <;> omega) | rfl | decide) only [gen0, gen1, gen2, rulesC, rulesX, rulesA, litR, bolR, Nat.reduceAdd, Nat.reduceLeDiff, numR, memR, valR, heapR, updR, intR, decR, extR, slR, segR, thenR, pnR, Int.reduceToNat, Int.reduceAdd, Int.reduceSub, Int.reduceLT, Int.reduceLE, Nat.reduceSub, Nat.reduceMul, Nat.reduceEqDiff, joinBR, hix, List.getD_cons_zero, List.getD_cons_succ]
          exact hK
        · simp (disch := first | assumption | omega | (simp only [szR] <;> omega) | rfl | decide) only [gen0, gen1, gen2, rulesC, rulesX, rulesA, litR, bolR, Nat.reduceAdd, Nat.reduceLeDiff, numR, memR, valR, heapR, updR, intR, decR, extR, slR, segR, thenR, pnR, Int.reduceToNat, Int.reduceAdd, Int.reduceSub, Int.reduceLT, Int.reduceLE, Nat.reduceSub, Nat.reduceMul, Nat.reduceEqDiff, joinBR, hix, List.getD_cons_zero, List.getD_cons_succ]
          exact hK
    · obtain rfl : k = r.length := by omega
      rw [List.take_length] at hall hv2 ⊢
      rw [hall] at hK
      generalize valL r = n at *
      simp (disch := first | assumption | omega | (simp only [szR] <;> omega) | rfl | decide) only [gen0, gen1, gen2, rulesC, rulesX, rulesA, litR, bolR, Nat.reduceAdd, Nat.reduceLeDiff, numR, memR, valR, heapR, updR, intR, decR, extR, slR, segR, thenR, pnR, Int.reduceToNat, Int.reduceAdd, Int.reduceSub, Int.reduceLT, Int.reduceLE, Nat.reduceSub, Nat.reduceMul, Nat.reduceEqDiff, joinR, List.getD_cons_zero, List.getD_cons_succ]
      first | exact hK | exact fun _ => hK
end Go.Proofs.YtobkjnmdbkieeaaDoor
