/- Part 5 of what the law ExecLays stands on: formulas of the functions that it reaches, and what each of them does; conditions: those of each theorem. -/
import Derived.Test.YtldkfbelnndaoaaGreatDoorP4
set_option linter.unusedVariables false
set_option linter.unusedSimpArgs false
namespace Go.Proofs.YtldkfbelnndaoaaGreatDoor
open Go.Fx
set_option maxRecDepth 100000
theorem CutPrefix_spec {w : World} {s p : List UInt8} {K : Value -> World -> Prop} (hK : K (.tuple #[.string ⟨(Lib.trimPrefix s p).toArray⟩, .bool (Lib.hasPrefix s p)]) w) : callsK Tryz.prog 41 #[.string ⟨s.toArray⟩, .string ⟨p.toArray⟩] w K := by
 refine Calls.mono (Tryz.strings_CutPrefix ⟨s.toArray⟩ ⟨p.toArray⟩ w) ?_
 rintro e w' ⟨rfl, rfl⟩
 exact ⟨_, rfl, hK⟩
theorem CutSuffix_spec {w : World} {s p : List UInt8} (h : s.length <= 9223372036854775807) {K : Value -> World -> Prop} (hK : K (.tuple #[.string ⟨(Lib.trimSuffix s p).toArray⟩, .bool (Lib.hasSuffix s p)]) w) : callsK Tryz.prog 33 #[.string ⟨s.toArray⟩, .string ⟨p.toArray⟩] w K := by
 refine Calls.mono (Tryz.strings_CutSuffix ⟨s.toArray⟩ ⟨p.toArray⟩ w (by rw [size_mk]; exact h)) ?_
 rintro e w' ⟨rfl, rfl⟩
 exact ⟨_, rfl, hK⟩
theorem HasPrefix_spec {w : World} {s p : List UInt8} {K : Value -> World -> Prop} (hK : K (.bool (Lib.hasPrefix s p)) w) : callsK Tryz.prog 32 #[.string ⟨s.toArray⟩, .string ⟨p.toArray⟩] w K := by
 refine Calls.mono (Tryz.strings_HasPrefix ⟨s.toArray⟩ ⟨p.toArray⟩ w) ?_
 rintro e w' ⟨rfl, rfl⟩
 exact ⟨_, rfl, hK⟩
theorem TrimLeft_spec {w : World} {s : List UInt8} {c : UInt8} (hc : c.toNat < 128) {K : Value -> World -> Prop} (hK : K (.string ⟨(Lib.trimLeftB s c).toArray⟩) w) : callsK Tryz.prog 31 #[.string ⟨s.toArray⟩, .string ⟨#[c]⟩] w K := by
 refine Calls.mono (Tryz.strings_TrimLeft_one ⟨s.toArray⟩ c hc w) ?_
 rintro e w' ⟨rfl, rfl⟩
 exact ⟨_, rfl, hK⟩
theorem LastIndex_spec {w : World} {s p : List UInt8} (h : s.length < 4611686018427387904) {K : Value -> World -> Prop} (hK : K (.int .i64 (Lib.lastIndex s p)) w) : callsK Tryz.prog 43 #[.string ⟨s.toArray⟩, .string ⟨p.toArray⟩] w K := by
 refine Calls.mono (Tryz.strings_LastIndex ⟨s.toArray⟩ ⟨p.toArray⟩ (by rw [size_mk]; exact h) w) ?_
 rintro e w' ⟨rfl, rfl⟩
 exact ⟨_, rfl, hK⟩
/-- where Go's library keeps how long a text it looks for may be. -/
def Gm (w : World) : Prop := 0 < w.heap.size /\ ∃ m : Int, w.cell? ⟨0, 0, none⟩ = some (.int .i64 m)
theorem Gm.ext {w w' : World} (h : Gm w) (hx : Ext [] w w') : Gm w' := by
 obtain ⟨h0, m, hm⟩ := h
 have hk := hx.kept 0 h0 (by simp)
 have hs := hx.size
 refine ⟨by omega, m, ?_⟩
 rw [<- hm]
 unfold World.cell?
 rw [hk]
theorem drewN_ext (w : World) (n : Nat) : Ext [] w (w.drewN n) := ⟨rfl, rfl, rfl, Nat.le_refl _, fun _ _ _ => rfl⟩
theorem Cut_spec {w : World} {s p : List UInt8} (hg : Gm w) (h : s.length < 4294967281) {K : Value -> World -> Prop} (hK : ∀ w', Ext [] w w' -> K (.tuple #[.string ⟨(Lib.cut s p).1.toArray⟩, .string ⟨(Lib.cut s p).2.1.toArray⟩, .bool (Lib.cut s p).2.2]) w') : callsK Tryz.prog 35 #[.string ⟨s.toArray⟩, .string ⟨p.toArray⟩] w K := by
 obtain ⟨h0, m, hm⟩ := hg
 refine Calls.mono (Tryz.strings_Cut ⟨s.toArray⟩ ⟨p.toArray⟩ m w (by rw [size_mk]; exact h) hm) ?_
 rintro e w' ⟨rfl, n, rfl⟩
 exact ⟨_, rfl, hK _ (drewN_ext w n)⟩
/-- a text's cell. -/
def sC (l : List UInt8) : List Value := [.string ⟨l.toArray⟩]
theorem Split_spec {w : World} {s p : List UInt8} (hg : Gm w) (h : s.length < 4294967281) (h1 : p ≠ []) {K : Value -> World -> Prop} (hK : ∀ v w', RowsAt w' v 1 ((Lib.split s p).map sC) -> Ext [] w w' -> (∀ b, blockOf v = some b -> w.heap.size <= b) -> K v w') : callsK Tryz.prog 30 #[.string ⟨s.toArray⟩, .string ⟨p.toArray⟩] w K := by
 obtain ⟨h0, m, hm⟩ := hg
 have hp1 : 1 <= (⟨p.toArray⟩ : ByteArray).size := by
  rw [size_mk]
  exact List.length_pos_iff.2 h1
 have hd := Lib.splitB_data ⟨p.toArray⟩ 0 (Lib.countB ⟨s.toArray⟩ ⟨p.toArray⟩) ⟨s.toArray⟩
 have hlen := Lib.splitB_all ⟨p.toArray⟩ hp1 0 (Lib.countB ⟨s.toArray⟩ ⟨p.toArray⟩) ⟨s.toArray⟩ rfl
 refine Calls.mono (Tryz.strings_Split ⟨s.toArray⟩ ⟨p.toArray⟩ m w (by rw [size_mk]; exact h) hm hp1) ?_
 rintro e w' ⟨rfl, rfl⟩
 refine ⟨_, rfl, ?_⟩
 have hcells : (Lib.splitB ⟨p.toArray⟩ 0 (Lib.countB ⟨s.toArray⟩ ⟨p.toArray⟩) ⟨s.toArray⟩).map Value.string = (Lib.split s p).map fun l => .string ⟨l.toArray⟩ := by
  have e2 : Lib.split s p = (Lib.splitB ⟨p.toArray⟩ 0 (Lib.countB ⟨s.toArray⟩ ⟨p.toArray⟩) ⟨s.toArray⟩).map (·.data.toList) := by rw [hd]; rfl
  rw [e2, List.map_map]
  apply List.map_congr_left
  intro x _
  rfl
 have hlen2 : (Lib.split s p).length = Lib.countB ⟨s.toArray⟩ ⟨p.toArray⟩ + 1 := by
  rw [<- hlen]
  simpa using (congrArg List.length hcells).symm
 rw [hcells, <- hlen2]
 have hcount : (Lib.split s p).length <= maxLen := by
  have := Lib.countB_le ⟨p.toArray⟩ hp1 s.length ⟨s.toArray⟩ (by rw [size_mk]; exact Nat.le_refl _)
  rw [size_mk] at this
  simp only [maxLen]
  omega
 refine hK _ _ ⟨_, (Lib.split s p).length, by rw [List.length_map], ⟨by simp, hcount⟩, .inr ⟨w.heap.size, 0, _, _, _, rfl, alloc_at rfl, by simp, fun i r hi => ?_⟩⟩ qX (fun b hb => Nat.le_of_eq (Option.some.inj hb))
 rw [List.getElem?_map] at hi
 obtain ⟨l, hl, rfl⟩ := Option.map_eq_some_iff.1 hi
 obtain ⟨hi2, rfl⟩ := List.getElem?_eq_some_iff.1 hl
 unfold Go.Fx.sub
 rw [Nat.zero_add, Nat.mul_one, List.take_one, List.head?_drop, List.getElem?_map, hl]
 rfl
/-- a decimal digit. -/
def digB (b : UInt8) : Bool := decide (48 <= b.toNat /\ b.toNat <= 57)
def valL (l : List UInt8) : Nat := l.foldl (fun n b => n * 10 + (b.toNat - 48)) 0
theorem valL_lt : ∀ (l : List UInt8), l.all digB = true -> valL l < 10 ^ l.length := by
 intro l
 unfold valL
 suffices h : ∀ (l : List UInt8) (n k : Nat), n < 10 ^ k -> l.all digB = true -> l.foldl (fun n b => n * 10 + (b.toNat - 48)) n < 10 ^ (k + l.length) by
  intro ha
  have := h l 0 0 (by decide) ha
  rwa [Nat.zero_add] at this
 intro l
 induction l with
 | nil => intro n k h _; exact h
 | cons b l ih =>
  intro n k h ha
  rw [List.all_cons, Bool.and_eq_true] at ha
  obtain ⟨hb, ha⟩ := ha
  unfold digB at hb
  rw [decide_eq_true_eq] at hb
  rw [List.foldl_cons, List.length_cons]
  have := ih (n * 10 + (b.toNat - 48)) (k + 1) (by rw [Nat.pow_succ]; omega) ha
  rwa [show k + (l.length + 1) = k + 1 + l.length by omega]
/-- a text's number; false: it is none. -/
def numberF (s : List UInt8) : Int × Bool :=
 if Lib.trimPrefix s [45] = [] ∨ 10 < (Lib.trimPrefix s [45]).length ∨ (1 < (Lib.trimPrefix s [45]).length /\ (Lib.trimPrefix s [45])[0]? = some 48) ∨ (Lib.hasPrefix s [45] = true /\ Lib.trimPrefix s [45] = [48]) then (0, false)
 else if (Lib.trimPrefix s [45]).all digB then (if Lib.hasPrefix s [45] then 0 - ((valL (Lib.trimPrefix s [45]) : Nat) : Int) else ((valL (Lib.trimPrefix s [45]) : Nat) : Int), true) else (0, false)
theorem number_specA {w : World} {s : List UInt8} (hs : s.length < 4294967281) {K : Value -> World -> Prop} (hK : K (.tuple #[.int .i64 (numberF s).1, .bool (numberF s).2]) w) : callsK Tryz.prog 42 #[.string ⟨s.toArray⟩] w K := by
 apply F42_ok
 unfold F42
 refine CutPrefix_spec (s := s) (p := [45]) ?_
 have hlr : (Lib.trimPrefix s [45]).length <= s.length := by
  unfold Lib.trimPrefix
  split
  ·simp
  ·exact Nat.le_refl _
 unfold numberF at hK
 generalize Lib.trimPrefix s [45] = r at *
 generalize Lib.hasPrefix s [45] = ng at *
 have hE := eqlS r []
 have hE2 := eqlS r [48]
 have hL := lenS r
 by_cases h0 : r = []
 ·rw [if_pos (.inl h0)] at hK
  simp (disch := first | exact qDR | fail) only [qG2, Nat.reduceAdd, Nat.reduceLeDiff, Int.reduceToNat, Int.reduceAdd, Int.reduceSub, Int.reduceLT, Int.reduceLE, Nat.reduceSub, Nat.reduceMul, Nat.reduceEqDiff, joinBR, hE, decide_eq_true h0]
  exact hK
 have hd0 := decide_eq_false h0
 by_cases h1 : 10 < r.length
 ·rw [if_pos (.inr (.inl h1))] at hK
  simp (disch := first | exact qDR | fail) only [qG2, Nat.reduceAdd, Nat.reduceLeDiff, Int.reduceToNat, Int.reduceAdd, Int.reduceSub, Int.reduceLT, Int.reduceLE, Nat.reduceSub, Nat.reduceMul, Nat.reduceEqDiff, joinBR, hE, hd0, hL]
  exact hK
 obtain ⟨b0, hb0⟩ : ∃ b, r[0]? = some b := by
  cases r with
  | nil => exact absurd rfl h0
  | cons b r => exact ⟨b, rfl⟩
 have hix0 := ixS hb0
 have hix0' : ∀ w, (Instr.index 9 (.string ⟨r.toArray⟩) (.int .i64 0)).run Tryz.prog w = .ok (.int .u8 (b0.toNat : Nat)) w := hix0
 have hb48 : (((b0.toNat : Nat) : Int) = 48) ↔ b0 = 48 := by
  constructor
  ·intro h
   apply UInt8.toNat_inj.1
   have : (48 : UInt8).toNat = 48 := rfl
   omega
  ·rintro rfl; rfl
 by_cases h2 : 1 < r.length /\ r[0]? = some 48
 ·rw [if_pos (.inr (.inr (.inl h2)))] at hK
  have hb : ((b0.toNat : Nat) : Int) = 48 := hb48.2 (by rw [hb0] at h2; exact Option.some.inj h2.2)
  obtain ⟨h2a, h2b⟩ := h2
  simp (disch := first | exact qDR | fail) only [qG2, Nat.reduceAdd, Nat.reduceLeDiff, Int.reduceToNat, Int.reduceAdd, Int.reduceSub, Int.reduceLT, Int.reduceLE, Nat.reduceSub, Nat.reduceMul, Nat.reduceEqDiff, joinBR, hE, hd0, hL, hix0', hb]
  exact hK
 by_cases h3 : ng = true /\ r = [48]
 ·rw [if_pos (.inr (.inr (.inr h3)))] at hK
  obtain ⟨h3a, h3b⟩ := h3
  subst h3b
  subst h3a
  simp (disch := first | exact qDR | fail) only [qG2, Nat.reduceAdd, Nat.reduceLeDiff, Int.reduceToNat, Int.reduceAdd, Int.reduceSub, Int.reduceLT, Int.reduceLE, Nat.reduceSub, Nat.reduceMul, Nat.reduceEqDiff, joinBR, hE, hd0, hL, hE2, decide_eq_true]
  exact hK
 rw [if_neg (by rintro (h | h | h | h) <;> contradiction)] at hK
 have hn10 : r.length <= 10 := by omega
 have hc1 : (1 < r.length /\ ((b0.toNat : Nat) : Int) ≠ 48) ∨ ¬ 1 < r.length := by
  by_cases h : 1 < r.length
  ·exact .inl ⟨h, fun h5 => h2 ⟨h, by rw [hb0, hb48.1 h5]⟩⟩
  ·exact .inr h
 have hc2 : (ng = true /\ decide (r = [48]) = false) ∨ ng = false := by
  cases ng with
  | false => exact .inr rfl
  | true => exact .inl ⟨rfl, decide_eq_false fun h => h3 ⟨rfl, h⟩⟩
 rcases hc1 with ⟨c1, c2⟩ | c1 <;> rcases hc2 with ⟨rfl, d2⟩ | rfl
 ·simp (disch := first | exact qDR | fail) only [qG2, Nat.reduceAdd, Nat.reduceLeDiff, Int.reduceToNat, Int.reduceAdd, Int.reduceSub, Int.reduceLT, Int.reduceLE, Nat.reduceSub, Nat.reduceMul, Nat.reduceEqDiff, joinBR, hE, hd0, hL, hix0', hE2, d2]
  refine loopT.intro (fun st w' => ∃ (k : Nat), k <= r.length /\ st = [.int .i64 (valL (r.take k) : Nat), .int .i64 (k : Nat)] /\ (r.take k).all digB = true /\ w' = w)
   (fun st _ => match st with
    | [_, .int _ z] => r.length - z.toNat
    | _ => 0) ⟨0, Nat.zero_le _, rfl, rfl, rfl⟩ ?_
  rintro st w' ⟨k, hk, rfl, hall, rfl⟩ _
  have hv := valL_lt _ hall
  have hv2 : valL (r.take k) < 10 ^ 10 := Nat.lt_of_lt_of_le hv (Nat.pow_le_pow_right (by decide) (by simp; omega))
  by_cases h4 : k < r.length
  ·obtain ⟨b, hb⟩ : ∃ b, r[k]? = some b := ⟨_, List.getElem?_eq_getElem h4⟩
   have hix := ixS hb
   have hnv : valL (r.take (k + 1)) = valL (r.take k) * 10 + (b.toNat - 48) := by
    unfold valL
    rw [List.take_add_one, hb, List.foldl_append]
    rfl
   have hna : (r.take (k + 1)).all digB = digB b := by
    rw [List.take_add_one, hb, List.all_append, hall]
    simp
   generalize valL (r.take k) = n at *
   have hbl := b.toNat_lt
   by_cases h5 : 48 <= b.toNat /\ b.toNat <= 57
   ·have hdb : digB b = true := decide_eq_true h5
    have e1 : ((b.toNat : Nat) : Int) - 48 = ((b.toNat - 48 : Nat) : Int) := by omega
    simp (disch := first | exact qDR | fail) only [qG2, Nat.reduceAdd, Nat.reduceLeDiff, Int.reduceToNat, Int.reduceAdd, Int.reduceSub, Int.reduceLT, Int.reduceLE, Nat.reduceSub, Nat.reduceMul, Nat.reduceEqDiff, joinBR, hix, List.getD_cons_zero, List.getD_cons_succ, e1]
    refine ⟨⟨k + 1, by omega, by rw [hnv]; simp, hna.trans hdb, trivial⟩, by first | omega | (simp <;> omega)⟩
   ·have hdb : r.all digB = false := by
     rw [List.all_eq_false]
     exact ⟨b, List.mem_of_getElem? hb, by unfold digB; simpa using h5⟩
    rw [hdb] at hK
    by_cases h6 : b.toNat < 48
    ·simp (disch := first | exact qDR | fail) only [qG2, Nat.reduceAdd, Nat.reduceLeDiff, Int.reduceToNat, Int.reduceAdd, Int.reduceSub, Int.reduceLT, Int.reduceLE, Nat.reduceSub, Nat.reduceMul, Nat.reduceEqDiff, joinBR, hix, List.getD_cons_zero, List.getD_cons_succ]
     exact hK
    ·simp (disch := first | exact qDR | fail) only [qG2, Nat.reduceAdd, Nat.reduceLeDiff, Int.reduceToNat, Int.reduceAdd, Int.reduceSub, Int.reduceLT, Int.reduceLE, Nat.reduceSub, Nat.reduceMul, Nat.reduceEqDiff, joinBR, hix, List.getD_cons_zero, List.getD_cons_succ]
     exact hK
  ·obtain rfl : k = r.length := by omega
   rw [List.take_length] at hall hv2 ⊢
   rw [hall] at hK
   generalize valL r = n at *
   simp (disch := first | exact qDR | fail) only [qG2, Nat.reduceAdd, Nat.reduceLeDiff, Int.reduceToNat, Int.reduceAdd, Int.reduceSub, Int.reduceLT, Int.reduceLE, Nat.reduceSub, Nat.reduceMul, Nat.reduceEqDiff, joinR, List.getD_cons_zero, List.getD_cons_succ]
   first | exact hK | exact fun _ => hK
 ·simp (disch := first | exact qDR | fail) only [qG2, Nat.reduceAdd, Nat.reduceLeDiff, Int.reduceToNat, Int.reduceAdd, Int.reduceSub, Int.reduceLT, Int.reduceLE, Nat.reduceSub, Nat.reduceMul, Nat.reduceEqDiff, joinBR, hE, hd0, hL, hix0', hE2]
  refine loopT.intro (fun st w' => ∃ (k : Nat), k <= r.length /\ st = [.int .i64 (valL (r.take k) : Nat), .int .i64 (k : Nat)] /\ (r.take k).all digB = true /\ w' = w)
   (fun st _ => match st with
    | [_, .int _ z] => r.length - z.toNat
    | _ => 0) ⟨0, Nat.zero_le _, rfl, rfl, rfl⟩ ?_
  rintro st w' ⟨k, hk, rfl, hall, rfl⟩ _
  have hv := valL_lt _ hall
  have hv2 : valL (r.take k) < 10 ^ 10 := Nat.lt_of_lt_of_le hv (Nat.pow_le_pow_right (by decide) (by simp; omega))
  by_cases h4 : k < r.length
  ·obtain ⟨b, hb⟩ : ∃ b, r[k]? = some b := ⟨_, List.getElem?_eq_getElem h4⟩
   have hix := ixS hb
   have hnv : valL (r.take (k + 1)) = valL (r.take k) * 10 + (b.toNat - 48) := by
    unfold valL
    rw [List.take_add_one, hb, List.foldl_append]
    rfl
   have hna : (r.take (k + 1)).all digB = digB b := by
    rw [List.take_add_one, hb, List.all_append, hall]
    simp
   generalize valL (r.take k) = n at *
   have hbl := b.toNat_lt
   by_cases h5 : 48 <= b.toNat /\ b.toNat <= 57
   ·have hdb : digB b = true := decide_eq_true h5
    have e1 : ((b.toNat : Nat) : Int) - 48 = ((b.toNat - 48 : Nat) : Int) := by omega
    simp (disch := first | exact qDR | fail) only [qG2, Nat.reduceAdd, Nat.reduceLeDiff, Int.reduceToNat, Int.reduceAdd, Int.reduceSub, Int.reduceLT, Int.reduceLE, Nat.reduceSub, Nat.reduceMul, Nat.reduceEqDiff, joinBR, hix, List.getD_cons_zero, List.getD_cons_succ, e1]
    refine ⟨⟨k + 1, by omega, by rw [hnv]; simp, hna.trans hdb, trivial⟩, by first | omega | (simp <;> omega)⟩
   ·have hdb : r.all digB = false := by
     rw [List.all_eq_false]
     exact ⟨b, List.mem_of_getElem? hb, by unfold digB; simpa using h5⟩
    rw [hdb] at hK
    by_cases h6 : b.toNat < 48
    ·simp (disch := first | exact qDR | fail) only [qG2, Nat.reduceAdd, Nat.reduceLeDiff, Int.reduceToNat, Int.reduceAdd, Int.reduceSub, Int.reduceLT, Int.reduceLE, Nat.reduceSub, Nat.reduceMul, Nat.reduceEqDiff, joinBR, hix, List.getD_cons_zero, List.getD_cons_succ]
     exact hK
    ·simp (disch := first | exact qDR | fail) only [qG2, Nat.reduceAdd, Nat.reduceLeDiff, Int.reduceToNat, Int.reduceAdd, Int.reduceSub, Int.reduceLT, Int.reduceLE, Nat.reduceSub, Nat.reduceMul, Nat.reduceEqDiff, joinBR, hix, List.getD_cons_zero, List.getD_cons_succ]
     exact hK
  ·obtain rfl : k = r.length := by omega
   rw [List.take_length] at hall hv2 ⊢
   rw [hall] at hK
   generalize valL r = n at *
   simp (disch := first | exact qDR | fail) only [qG2, Nat.reduceAdd, Nat.reduceLeDiff, Int.reduceToNat, Int.reduceAdd, Int.reduceSub, Int.reduceLT, Int.reduceLE, Nat.reduceSub, Nat.reduceMul, Nat.reduceEqDiff, joinR, List.getD_cons_zero, List.getD_cons_succ]
   first | exact hK | exact fun _ => hK
 ·simp (disch := first | exact qDR | fail) only [qG2, Nat.reduceAdd, Nat.reduceLeDiff, Int.reduceToNat, Int.reduceAdd, Int.reduceSub, Int.reduceLT, Int.reduceLE, Nat.reduceSub, Nat.reduceMul, Nat.reduceEqDiff, joinBR, hE, hd0, hL, hix0', hE2, d2]
  refine loopT.intro (fun st w' => ∃ (k : Nat), k <= r.length /\ st = [.int .i64 (valL (r.take k) : Nat), .int .i64 (k : Nat)] /\ (r.take k).all digB = true /\ w' = w)
   (fun st _ => match st with
    | [_, .int _ z] => r.length - z.toNat
    | _ => 0) ⟨0, Nat.zero_le _, rfl, rfl, rfl⟩ ?_
  rintro st w' ⟨k, hk, rfl, hall, rfl⟩ _
  have hv := valL_lt _ hall
  have hv2 : valL (r.take k) < 10 ^ 10 := Nat.lt_of_lt_of_le hv (Nat.pow_le_pow_right (by decide) (by simp; omega))
  by_cases h4 : k < r.length
  ·obtain ⟨b, hb⟩ : ∃ b, r[k]? = some b := ⟨_, List.getElem?_eq_getElem h4⟩
   have hix := ixS hb
   have hnv : valL (r.take (k + 1)) = valL (r.take k) * 10 + (b.toNat - 48) := by
    unfold valL
    rw [List.take_add_one, hb, List.foldl_append]
    rfl
   have hna : (r.take (k + 1)).all digB = digB b := by
    rw [List.take_add_one, hb, List.all_append, hall]
    simp
   generalize valL (r.take k) = n at *
   have hbl := b.toNat_lt
   by_cases h5 : 48 <= b.toNat /\ b.toNat <= 57
   ·have hdb : digB b = true := decide_eq_true h5
    have e1 : ((b.toNat : Nat) : Int) - 48 = ((b.toNat - 48 : Nat) : Int) := by omega
    simp (disch := first | exact qDR | fail) only [qG2, Nat.reduceAdd, Nat.reduceLeDiff, Int.reduceToNat, Int.reduceAdd, Int.reduceSub, Int.reduceLT, Int.reduceLE, Nat.reduceSub, Nat.reduceMul, Nat.reduceEqDiff, joinBR, hix, List.getD_cons_zero, List.getD_cons_succ, e1]
    refine ⟨⟨k + 1, by omega, by rw [hnv]; simp, hna.trans hdb, trivial⟩, by first | omega | (simp <;> omega)⟩
   ·have hdb : r.all digB = false := by
     rw [List.all_eq_false]
     exact ⟨b, List.mem_of_getElem? hb, by unfold digB; simpa using h5⟩
    rw [hdb] at hK
    by_cases h6 : b.toNat < 48
    ·simp (disch := first | exact qDR | fail) only [qG2, Nat.reduceAdd, Nat.reduceLeDiff, Int.reduceToNat, Int.reduceAdd, Int.reduceSub, Int.reduceLT, Int.reduceLE, Nat.reduceSub, Nat.reduceMul, Nat.reduceEqDiff, joinBR, hix, List.getD_cons_zero, List.getD_cons_succ]
     exact hK
    ·simp (disch := first | exact qDR | fail) only [qG2, Nat.reduceAdd, Nat.reduceLeDiff, Int.reduceToNat, Int.reduceAdd, Int.reduceSub, Int.reduceLT, Int.reduceLE, Nat.reduceSub, Nat.reduceMul, Nat.reduceEqDiff, joinBR, hix, List.getD_cons_zero, List.getD_cons_succ]
     exact hK
  ·obtain rfl : k = r.length := by omega
   rw [List.take_length] at hall hv2 ⊢
   rw [hall] at hK
   generalize valL r = n at *
   simp (disch := first | exact qDR | fail) only [qG2, Nat.reduceAdd, Nat.reduceLeDiff, Int.reduceToNat, Int.reduceAdd, Int.reduceSub, Int.reduceLT, Int.reduceLE, Nat.reduceSub, Nat.reduceMul, Nat.reduceEqDiff, joinR, List.getD_cons_zero, List.getD_cons_succ]
   first | exact hK | exact fun _ => hK
 ·simp (disch := first | exact qDR | fail) only [qG2, Nat.reduceAdd, Nat.reduceLeDiff, Int.reduceToNat, Int.reduceAdd, Int.reduceSub, Int.reduceLT, Int.reduceLE, Nat.reduceSub, Nat.reduceMul, Nat.reduceEqDiff, joinBR, hE, hd0, hL, hix0', hE2]
  refine loopT.intro (fun st w' => ∃ (k : Nat), k <= r.length /\ st = [.int .i64 (valL (r.take k) : Nat), .int .i64 (k : Nat)] /\ (r.take k).all digB = true /\ w' = w)
   (fun st _ => match st with
    | [_, .int _ z] => r.length - z.toNat
    | _ => 0) ⟨0, Nat.zero_le _, rfl, rfl, rfl⟩ ?_
  rintro st w' ⟨k, hk, rfl, hall, rfl⟩ _
  have hv := valL_lt _ hall
  have hv2 : valL (r.take k) < 10 ^ 10 := Nat.lt_of_lt_of_le hv (Nat.pow_le_pow_right (by decide) (by simp; omega))
  by_cases h4 : k < r.length
  ·obtain ⟨b, hb⟩ : ∃ b, r[k]? = some b := ⟨_, List.getElem?_eq_getElem h4⟩
   have hix := ixS hb
   have hnv : valL (r.take (k + 1)) = valL (r.take k) * 10 + (b.toNat - 48) := by
    unfold valL
    rw [List.take_add_one, hb, List.foldl_append]
    rfl
   have hna : (r.take (k + 1)).all digB = digB b := by
    rw [List.take_add_one, hb, List.all_append, hall]
    simp
   generalize valL (r.take k) = n at *
   have hbl := b.toNat_lt
   by_cases h5 : 48 <= b.toNat /\ b.toNat <= 57
   ·have hdb : digB b = true := decide_eq_true h5
    have e1 : ((b.toNat : Nat) : Int) - 48 = ((b.toNat - 48 : Nat) : Int) := by omega
    simp (disch := first | exact qDR | fail) only [qG2, Nat.reduceAdd, Nat.reduceLeDiff, Int.reduceToNat, Int.reduceAdd, Int.reduceSub, Int.reduceLT, Int.reduceLE, Nat.reduceSub, Nat.reduceMul, Nat.reduceEqDiff, joinBR, hix, List.getD_cons_zero, List.getD_cons_succ, e1]
    refine ⟨⟨k + 1, by omega, by rw [hnv]; simp, hna.trans hdb, trivial⟩, by first | omega | (simp <;> omega)⟩
   ·have hdb : r.all digB = false := by
     rw [List.all_eq_false]
     exact ⟨b, List.mem_of_getElem? hb, by unfold digB; simpa using h5⟩
    rw [hdb] at hK
    by_cases h6 : b.toNat < 48
    ·simp (disch := first | exact qDR | fail) only [qG2, Nat.reduceAdd, Nat.reduceLeDiff, Int.reduceToNat, Int.reduceAdd, Int.reduceSub, Int.reduceLT, Int.reduceLE, Nat.reduceSub, Nat.reduceMul, Nat.reduceEqDiff, joinBR, hix, List.getD_cons_zero, List.getD_cons_succ]
     exact hK
    ·simp (disch := first | exact qDR | fail) only [qG2, Nat.reduceAdd, Nat.reduceLeDiff, Int.reduceToNat, Int.reduceAdd, Int.reduceSub, Int.reduceLT, Int.reduceLE, Nat.reduceSub, Nat.reduceMul, Nat.reduceEqDiff, joinBR, hix, List.getD_cons_zero, List.getD_cons_succ]
     exact hK
  ·obtain rfl : k = r.length := by omega
   rw [List.take_length] at hall hv2 ⊢
   rw [hall] at hK
   generalize valL r = n at *
   simp (disch := first | exact qDR | fail) only [qG2, Nat.reduceAdd, Nat.reduceLeDiff, Int.reduceToNat, Int.reduceAdd, Int.reduceSub, Int.reduceLT, Int.reduceLE, Nat.reduceSub, Nat.reduceMul, Nat.reduceEqDiff, joinR, List.getD_cons_zero, List.getD_cons_succ]
   first | exact hK | exact fun _ => hK
open Go.Fx
set_option maxRecDepth 100000
/-- a sign of a mark's name. -/
def chB (b : UInt8) : Bool := decide ((97 <= b.toNat /\ b.toNat <= 122) ∨ (48 <= b.toNat /\ b.toNat <= 57) ∨ b.toNat = 95)
def headB : List UInt8 -> Bool
 | [] => false
 | b :: _ => decide (97 <= b.toNat /\ b.toNat <= 122)
def namedF (s : List UInt8) : Bool := decide (s.length <= 64) && headB s && s.all chB
theorem qZ5 : type_of% (And.intro @szR (And.intro @izC_len (@izC_all))) := ⟨@szR, @izC_len, @izC_all⟩
theorem qD5 {p : Prop} (h : p := by first | assumption | omega | (simp only [qZ5] <;> omega) | rfl | decide) : p := h
theorem named_spec {w : World} {s : List UInt8} (hs : s.length < 4294967281) {K : Value -> World -> Prop} (hK : K (.bool (namedF s)) w) : callsK Tryz.prog 34 #[.string ⟨s.toArray⟩] w K := by
 apply F34_ok
 unfold F34
 have hE := eqlS s []
 have hL := lenS s
 cases s with
 | nil =>
  have hf : namedF [] = false := rfl
  rw [hf] at hK
  simp (disch := first | exact qD5 | fail) only [qG2, Nat.reduceAdd, Nat.reduceLeDiff, Int.reduceToNat, Int.reduceAdd, Int.reduceSub, Int.reduceLT, Int.reduceLE, Nat.reduceSub, Nat.reduceMul, Nat.reduceEqDiff, joinBR, hE]
  exact hK
 | cons b0 s0 =>
  have hE' : ∀ x y w, (binV .eql 9 x y (.string ⟨(b0 :: s0).toArray⟩) (.string ⟨#[]⟩)).run Tryz.prog w = .ok (.bool false) w := fun x y w => (hE x y w).trans (by rw [decide_eq_false (by simp)])
  have hix0 : ∀ w, (Instr.index 9 (.string ⟨(b0 :: s0).toArray⟩) (.int .i64 0)).run Tryz.prog w = .ok (.int .u8 (b0.toNat : Nat)) w := ixS (l := b0 :: s0) (k := 0) (b := b0) rfl
  have hb0 := b0.toNat_lt
  obtain ⟨s, hse⟩ : ∃ s, s = b0 :: s0 := ⟨_, rfl⟩
  have hn : namedF s = (decide (s.length <= 64) && decide (97 <= b0.toNat /\ b0.toNat <= 122) && s.all chB) := by rw [hse]; rfl
  rw [<- hse] at hK hE' hix0 hL hs ⊢
  rw [hn] at hK
  clear hn hse hE
  by_cases h1 : s.length <= 64
  ·rw [decide_eq_true h1, Bool.true_and] at hK
   by_cases h2 : 97 <= b0.toNat /\ b0.toNat <= 122
   ·rw [decide_eq_true h2, Bool.true_and] at hK
    simp (disch := first | exact qD5 | fail) only [qG2, Nat.reduceAdd, Nat.reduceLeDiff, Int.reduceToNat, Int.reduceAdd, Int.reduceSub, Int.reduceLT, Int.reduceLE, Nat.reduceSub, Nat.reduceMul, Nat.reduceEqDiff, joinBR, hE', hL, hix0]
    refine loopT.intro (fun st w' => ∃ (k : Nat), k <= s.length /\ st = [.int .i64 (k : Nat)] /\ (s.take k).all chB = true /\ w' = w)
     (fun st _ => match st with
      | [.int _ z] => s.length - z.toNat
      | _ => 0) ⟨0, Nat.zero_le _, rfl, rfl, rfl⟩ ?_
    rintro st w' ⟨k, hk, rfl, hall, rfl⟩ _
    by_cases h4 : k < s.length
    ·obtain ⟨b, hb⟩ : ∃ b, s[k]? = some b := ⟨_, List.getElem?_eq_getElem h4⟩
     have hix := ixS hb
     have hna : (s.take (k + 1)).all chB = chB b := by
      rw [List.take_add_one, hb, List.all_append, hall]
      simp
     have hbl := b.toNat_lt
     have hyes : chB b = true -> ((∃ (k_1 : Nat), k_1 <= s.length /\ [Value.int .i64 (k + 1 : Int)] = [Value.int .i64 (k_1 : Nat)] /\ (s.take k_1).all chB = true /\ True) /\ s.length - (k + 1) < s.length - k) := fun h => ⟨⟨k + 1, by omega, rfl, hna.trans h, trivial⟩, by omega⟩
     have hno : chB b = false -> K (.bool false) w' := fun h => by
      have : s.all chB = false := List.all_eq_false.2 ⟨b, List.mem_of_getElem? hb, by rw [h]; decide⟩
      rwa [this] at hK
     clear hK
     unfold chB at hyes hno
     by_cases c1 : b.toNat < 97
     ·by_cases c2 : b.toNat < 48
      ·simp (disch := first | exact qD5 | fail) only [qG2, Nat.reduceAdd, Nat.reduceLeDiff, Int.reduceToNat, Int.reduceAdd, Int.reduceSub, Int.reduceLT, Int.reduceLE, Nat.reduceSub, Nat.reduceMul, Nat.reduceEqDiff, joinBR, hix, List.getD_cons_zero]
       exact hno (decide_eq_false (by omega))
      ·by_cases c3 : 57 < b.toNat
       ·by_cases c4 : b.toNat = 95
        ·simp (disch := first | exact qD5 | fail) only [qG2, Nat.reduceAdd, Nat.reduceLeDiff, Int.reduceToNat, Int.reduceAdd, Int.reduceSub, Int.reduceLT, Int.reduceLE, Nat.reduceSub, Nat.reduceMul, Nat.reduceEqDiff, joinBR, hix, List.getD_cons_zero]
         exact ⟨⟨k + 1, by omega, rfl, by rw [hna]; exact decide_eq_true (by omega), trivial⟩, by first | omega | (simp <;> omega)⟩
        ·simp (disch := first | exact qD5 | fail) only [qG2, Nat.reduceAdd, Nat.reduceLeDiff, Int.reduceToNat, Int.reduceAdd, Int.reduceSub, Int.reduceLT, Int.reduceLE, Nat.reduceSub, Nat.reduceMul, Nat.reduceEqDiff, joinBR, hix, List.getD_cons_zero]
         exact hno (decide_eq_false (by omega))
       ·simp (disch := first | exact qD5 | fail) only [qG2, Nat.reduceAdd, Nat.reduceLeDiff, Int.reduceToNat, Int.reduceAdd, Int.reduceSub, Int.reduceLT, Int.reduceLE, Nat.reduceSub, Nat.reduceMul, Nat.reduceEqDiff, joinBR, hix, List.getD_cons_zero]
        exact ⟨⟨k + 1, by omega, rfl, by rw [hna]; exact decide_eq_true (by omega), trivial⟩, by first | omega | (simp <;> omega)⟩
     ·by_cases c3 : 122 < b.toNat
      ·simp (disch := first | exact qD5 | fail) only [qG2, Nat.reduceAdd, Nat.reduceLeDiff, Int.reduceToNat, Int.reduceAdd, Int.reduceSub, Int.reduceLT, Int.reduceLE, Nat.reduceSub, Nat.reduceMul, Nat.reduceEqDiff, joinBR, hix, List.getD_cons_zero]
       exact hno (decide_eq_false (by omega))
      ·simp (disch := first | exact qD5 | fail) only [qG2, Nat.reduceAdd, Nat.reduceLeDiff, Int.reduceToNat, Int.reduceAdd, Int.reduceSub, Int.reduceLT, Int.reduceLE, Nat.reduceSub, Nat.reduceMul, Nat.reduceEqDiff, joinBR, hix, List.getD_cons_zero]
       exact ⟨⟨k + 1, by omega, rfl, by rw [hna]; exact decide_eq_true (by omega), trivial⟩, by first | omega | (simp <;> omega)⟩
    ·obtain rfl : k = s.length := by omega
     rw [List.take_length] at hall
     rw [hall] at hK
     simp (disch := first | exact qD5 | fail) only [qG2, Nat.reduceAdd, Nat.reduceLeDiff, Int.reduceToNat, Int.reduceAdd, Int.reduceSub, Int.reduceLT, Int.reduceLE, Nat.reduceSub, Nat.reduceMul, Nat.reduceEqDiff, joinBR, List.getD_cons_zero]
     exact hK
   ·rw [decide_eq_false h2] at hK
    by_cases h3 : b0.toNat < 97
    ·simp (disch := first | exact qD5 | fail) only [qG2, Nat.reduceAdd, Nat.reduceLeDiff, Int.reduceToNat, Int.reduceAdd, Int.reduceSub, Int.reduceLT, Int.reduceLE, Nat.reduceSub, Nat.reduceMul, Nat.reduceEqDiff, joinBR, hE', hL, hix0]
     exact hK
    ·simp (disch := first | exact qD5 | fail) only [qG2, Nat.reduceAdd, Nat.reduceLeDiff, Int.reduceToNat, Int.reduceAdd, Int.reduceSub, Int.reduceLT, Int.reduceLE, Nat.reduceSub, Nat.reduceMul, Nat.reduceEqDiff, joinBR, hE', hL, hix0]
     exact hK
  ·rw [decide_eq_false h1] at hK
   simp (disch := first | exact qD5 | fail) only [qG2, Nat.reduceAdd, Nat.reduceLeDiff, Int.reduceToNat, Int.reduceAdd, Int.reduceSub, Int.reduceLT, Int.reduceLE, Nat.reduceSub, Nat.reduceMul, Nat.reduceEqDiff, joinBR, hE', hL]
   exact hK
open Go.Fx
set_option maxRecDepth 100000
theorem dec_len {n : Int} : (dec n).length <= 21 := by
 unfold dec
 split
 ·have := decF_len 20 n.natAbs
  simp [decN]
  omega
 ·have := decF_len 20 n.natAbs
  simp [decN]
  omega
open Go.Fx
set_option maxRecDepth 100000
theorem Join_spec {w : World} {v : Value} {L : List (List UInt8)} {sep : List UInt8} (hv : RowsAt w v 1 (L.map sC)) (h0 : L ≠ []) (hn : L.length <= 1000) (hj : (Lib.join L sep).length <= 1000000) {K : Value -> World -> Prop}
  (hK : ∀ w', Ext [] w w' -> K (.string ⟨(Lib.join L sep).toArray⟩) w') : callsK Tryz.prog 134 #[v, .string ⟨sep.toArray⟩] w K := by
 obtain ⟨a, cap, rfl, hc, hr⟩ := hv
 rcases hr with hr | ⟨b, o, l, E, f, rfl, hb, hfit, hsub⟩
 ·exact absurd (by simpa using hr) h0
 ·have e1 : (L.map fun x => (⟨x.toArray⟩ : ByteArray)).map (·.data.toList) = L := by
   rw [List.map_map]
   exact List.map_id L
  have := Tryz.strings_Join b o cap (L.map fun x => ⟨x.toArray⟩) ⟨sep.toArray⟩ w (fun j x hx => ?_) (lt_of_at hb) (by simp; omega) (by simpa using hc.1) (by rw [e1]; show (Lib.join L sep).length <= _; omega)
  ·rw [List.length_map] at this
   rw [List.length_map]
   refine Calls.mono this ?_
   rintro e w' ⟨rfl, hbl⟩
   refine ⟨_, rfl, ?_⟩
   rw [e1]
   exact hK w' (ext_belowS Ext.refl hbl)
  ·rw [List.getElem?_map] at hx
   obtain ⟨s, hs, rfl⟩ := Option.map_eq_some_iff.1 hx
   have h1 := hsub j (sC s) (by rw [List.getElem?_map, hs]; rfl)
   rw [cell_of_block hb]
   have h2 : (Go.Fx.sub l (o + j * 1) 1)[0]? = some (.string ⟨s.toArray⟩) := by rw [h1]; rfl
   unfold Go.Fx.sub at h2
   rw [List.getElem?_take_of_lt (by omega), List.getElem?_drop] at h2
   rw [Nat.mul_one, Nat.add_zero] at h2
   exact h2
def partF (i : IZ) (b : UInt8) : List UInt8 := if b = 100 then 99 :: dec i.rd else if b = 97 then 99 :: dec i.r1 else if b = 98 then 99 :: dec i.r2 else dec i.im
def nameR (i : IZ) : List UInt8 := (rowZ i.op).n
/-- an instruction's text. -/
def textF (i : IZ) : List UInt8 := if encOk i then (if orderS (rowZ i.op).s = [] then nameR i else nameR i ++ ([32] ++ Lib.join ((orderS (rowZ i.op).s).map (partF i)) [44, 32])) else []
theorem order_len (s : Nat) : (orderS s).length <= 3 := by
 unfold orderS
 repeat' split
 all_goals simp
open Go.Fx
set_option maxRecDepth 100000
theorem numberF_in (s : List UInt8) : in64 (numberF s).1 := by
 have h0 : in64 0 := ⟨by decide, by decide⟩
 unfold numberF
 split
 ·exact h0
 ·rename_i hn
  split
  ·rename_i ha
   have h10 : (Lib.trimPrefix s [45]).length <= 10 := by
    refine Nat.le_of_not_lt fun h => hn (.inr (.inl h))
   have hv := Nat.lt_of_lt_of_le (valL_lt _ ha) (Nat.pow_le_pow_right (by decide) h10)
   have p10 : (10 : Nat) ^ 10 = 10000000000 := by decide
   rw [p10] at hv
   unfold in64
   split <;> omega
  ·exact h0
def regOK (s : List UInt8) : Bool := Lib.hasPrefix s [99] && (numberF (Lib.trimPrefix s [99])).2 && decide (0 <= (numberF (Lib.trimPrefix s [99])).1) && decide ((numberF (Lib.trimPrefix s [99])).1 <= 31)
def regN (s : List UInt8) : Int := (numberF (Lib.trimPrefix s [99])).1
theorem trim_len (s p : List UInt8) : (Lib.trimPrefix s p).length <= s.length := by
 unfold Lib.trimPrefix
 split
 ·simp
 ·exact Nat.le_refl _
theorem regP_spec {w : World} {bk : Nat} {ok : Bool} {s : List UInt8} (hs : s.length < 4294967281) (h : w.heap[bk]? = some (.cells [.bool ok].toArray 4 (0, 0))) {K : Value -> World -> Prop}
  (hK : K (.int .i64 (regN s)) (World.upd w bk [.bool (ok && regOK s)])) : callsK Tryz.prog 40 #[.string ⟨s.toArray⟩, .pointer (some ⟨bk, 0, none⟩)] w K := by
 apply F40_ok
 unfold F40
 refine CutPrefix_spec (s := s) (p := [99]) ?_
 simp (disch := first | exact qD5 | fail) only [qG2, Nat.reduceAdd, Nat.reduceLeDiff, Int.reduceToNat, Int.reduceAdd, Int.reduceSub, Int.reduceLT, Int.reduceLE, Nat.reduceSub, Nat.reduceMul, Nat.reduceEqDiff]
 have hin := numberF_in (Lib.trimPrefix s [99])
 refine number_specA (Nat.lt_of_le_of_lt (trim_len s [99]) hs) ?_
 unfold regOK regN at hK
 generalize numberF (Lib.trimPrefix s [99]) = nf at *
 obtain ⟨n, fine⟩ := nf
 generalize Lib.hasPrefix s [99] = hp at *
 simp only at hK hin
 obtain ⟨hn1, hn2⟩ := hin
 have l := lt_of_at h
 cases ok <;> cases hp <;> cases fine
 all_goals
  by_cases c1 : 0 <= n
  ·by_cases c2 : n <= 31
   ·simp only [decide_eq_true c1, decide_eq_true c2, Bool.and_true, Bool.and_false, Bool.true_and, Bool.false_and] at hK
    simp (disch := first | exact qD5 | fail) only [qG2, Nat.reduceAdd, Nat.reduceLeDiff, Int.reduceToNat, Int.reduceAdd, Int.reduceSub, Int.reduceLT, Int.reduceLE, Nat.reduceSub, Nat.reduceMul, Nat.reduceEqDiff, joinBR, h, List.set_cons_zero]
    exact hK
   ·simp only [decide_eq_true c1, decide_eq_false c2, Bool.and_true, Bool.and_false, Bool.true_and, Bool.false_and] at hK
    simp (disch := first | exact qD5 | fail) only [qG2, Nat.reduceAdd, Nat.reduceLeDiff, Int.reduceToNat, Int.reduceAdd, Int.reduceSub, Int.reduceLT, Int.reduceLE, Nat.reduceSub, Nat.reduceMul, Nat.reduceEqDiff, joinBR, h, List.set_cons_zero]
    exact hK
  ·simp only [decide_eq_false c1, Bool.and_true, Bool.and_false, Bool.true_and, Bool.false_and] at hK
   simp (disch := first | exact qD5 | fail) only [qG2, Nat.reduceAdd, Nat.reduceLeDiff, Int.reduceToNat, Int.reduceAdd, Int.reduceSub, Int.reduceLT, Int.reduceLE, Nat.reduceSub, Nat.reduceMul, Nat.reduceEqDiff, joinBR, h, List.set_cons_zero]
   exact hK
open Go.Fx
set_option maxRecDepth 100000
def stepP (p : IZ × Bool) (x : UInt8 × List UInt8) : IZ × Bool :=
 if x.1 = 100 then ({ p.1 with rd := regN x.2 }, p.2 && regOK x.2) else if x.1 = 97 then ({ p.1 with r1 := regN x.2 }, p.2 && regOK x.2) else if x.1 = 98 then ({ p.1 with r2 := regN x.2 }, p.2 && regOK x.2) else ({ p.1 with im := (numberF x.2).1 }, p.2 && (numberF x.2).2)
def izZ : IZ := ⟨0, 0, 0, 0, 0⟩
def parseOp (s : List UInt8) : Nat := findN (Lib.cut s [32]).1 69 0
def parseL (s : List UInt8) : List (List UInt8) := if (Lib.cut s [32]).2.2 then Lib.split (Lib.cut s [32]).2.1 [44, 32] else []
def parseP (s : List UInt8) : IZ × Bool := ((orderS (rowZ (parseOp s)).s).zip (parseL s)).foldl stepP (⟨parseOp s, 0, 0, 0, 0⟩, true)
/-- what a text is read as; false: it is none. -/
def parseF (s : List UInt8) : IZ × Bool :=
 if parseOp s = 0 ∨ (parseL s).length ≠ (orderS (rowZ (parseOp s)).s).length then (izZ, false) else if (parseP s).2 && encOk (parseP s).1 then ((parseP s).1, true) else (izZ, false)
theorem stepP_ok {p : IZ × Bool} {x : UInt8 × List UInt8} (h : izOk p.1) : izOk (stepP p x).1 := by
 obtain ⟨h1, h2, h3, h4, h5⟩ := h
 have hr := numberF_in (Lib.trimPrefix x.2 [99])
 have hn := numberF_in x.2
 unfold stepP
 repeat' split
 ·exact ⟨h1, hr, h3, h4, h5⟩
 ·exact ⟨h1, h2, hr, h4, h5⟩
 ·exact ⟨h1, h2, h3, hr, h5⟩
 ·exact ⟨h1, h2, h3, h4, hn⟩
theorem splitK_len (sep : List UInt8) (n : Nat) : ∀ (k : Nat) (s : List UInt8), s.length <= n -> ∀ x ∈ Lib.splitK sep 0 k s, x.length <= n
 | 0, s, h, x, hx => by
  unfold Lib.splitK at hx
  simp at hx
  subst hx
  exact h
 | k + 1, s, h, x, hx => by
  unfold Lib.splitK at hx
  split at hx
  ·simp at hx
   subst hx
   exact h
  ·rw [List.mem_cons] at hx
   rcases hx with rfl | hx
   ·rw [List.length_take]
    omega
   ·exact splitK_len sep n k _ (by rw [List.length_drop]; omega) x hx
theorem cut_len (s p : List UInt8) : (Lib.cut s p).1.length <= s.length /\ (Lib.cut s p).2.1.length <= s.length := by
 unfold Lib.cut
 split
 ·simp only [List.length_take, List.length_drop]
  omega
 ·simp
theorem parseL_len {s x : List UInt8} (hx : x ∈ parseL s) : x.length <= s.length := by
 unfold parseL at hx
 split at hx
 ·exact splitK_len _ _ _ _ (cut_len s [32]).2 x hx
 ·simp at hx
theorem iz_over (i : IZ) : splice (izC izZ) 0 (izC i) = izC i := rfl
theorem iz_put (i : IZ) : izC i ++ List.drop (izC i).length (izC izZ) = izC i := by simp [izC]
set_option maxHeartbeats 1000000 in
theorem Parse_spec {w : World} {s : List UInt8} (hg : Gm w) (hs : s.length < 4294967281) {K : Value -> World -> Prop} (hK : ∀ w', Ext [] w w' -> K (.tuple #[.agg (izC (parseF s).1).toArray, .bool (parseF s).2]) w') : callsK Tryz.prog 15 #[.string ⟨s.toArray⟩] w K := by
 apply F15_ok
 unfold F15
 have hz : izC izZ = [.int .i64 0, .int .i64 0, .int .i64 0, .int .i64 0, .int .i64 0] := rfl
 have z1 := iz_over
 have z2 := iz_put
 rw [hz] at z1 z2
 simp (disch := first | exact qD5 | fail) only [qG2, Nat.reduceAdd, Nat.reduceLeDiff, Int.reduceToNat, Int.reduceAdd, Int.reduceSub, Int.reduceLT, Int.reduceLE, Nat.reduceSub, Nat.reduceMul, Nat.reduceEqDiff]
 have hx0 : Ext [] w (w.alloc (.cells [.int .i64 0, .int .i64 0, .int .i64 0, .int .i64 0, .int .i64 0].toArray 46)) := qX
 have g2 : (w.alloc (.cells [.int .i64 0, .int .i64 0, .int .i64 0, .int .i64 0, .int .i64 0].toArray 46)).heap[w.heap.size]? = some (.cells [.int .i64 0, .int .i64 0, .int .i64 0, .int .i64 0, .int .i64 0].toArray 46 (0, 0)) := alloc_at rfl
 generalize (w.alloc (.cells [.int .i64 0, .int .i64 0, .int .i64 0, .int .i64 0, .int .i64 0].toArray 46)) = w1 at *
 refine Cut_spec (s := s) (p := [32]) (hg.ext hx0) hs fun w2 hx1 => ?_
 have hcl := cut_len s [32]
 have hop : findN (Lib.cut s [32]).1 69 0 = parseOp s := rfl
 have hpl : ∀ x ∈ parseL s, x.length <= s.length := fun x hx => parseL_len hx
 have hL : parseL s = if (Lib.cut s [32]).2.2 then Lib.split (Lib.cut s [32]).2.1 [44, 32] else [] := rfl
 have hPP : parseP s = ((orderS (rowZ (parseOp s)).s).zip (parseL s)).foldl stepP (⟨parseOp s, 0, 0, 0, 0⟩, true) := rfl
 have hPF : parseF s = if parseOp s = 0 ∨ (parseL s).length ≠ (orderS (rowZ (parseOp s)).s).length then (izZ, false) else if (parseP s).2 && encOk (parseP s).1 then ((parseP s).1, true) else (izZ, false) := rfl
 have hole := order_len (rowZ (parseOp s)).s
 have hsh := rowZ_sh (parseOp s)
 have hofl := findN_lt (Lib.cut s [32]).1 69 0 rfl
 rw [hop] at hofl
 simp (disch := first | exact qD5 | fail) only [qG2, Nat.reduceAdd, Nat.reduceLeDiff, Int.reduceToNat, Int.reduceAdd, Int.reduceSub, Int.reduceLT, Int.reduceLE, Nat.reduceSub, Nat.reduceMul, Nat.reduceEqDiff]
 refine Find_spec fun w3 hx2 => ?_
 rw [hop]
 generalize parseF s = pf at *
 generalize parseP s = pp at *
 generalize parseL s = L at *
 generalize parseOp s = op at *
 generalize Lib.cut s [32] = c at *
 have hb : ∀ (x : Int) (w : World), (Instr.build 46 #[(0, .int .i64 x)]).run Tryz.prog w = .ok (.agg [.int .i64 x, .int .i64 0, .int .i64 0, .int .i64 0, .int .i64 0].toArray) w := fun x w => run_build w 46 _ _ (by kernel_rfl)
 have hb2 : ∀ (w : World), (Instr.build 46 #[(0, .int .i64 ((op : Nat) : Int))]).run Tryz.prog w = .ok (.agg (izC ⟨op, 0, 0, 0, 0⟩).toArray) w := fun w => hb _ w
 have g2b := (hx1.trans hx2 (by simp)).at g2 (by simp)
 have hxa := (hx0.trans hx1 (by simp)).trans hx2 (by simp)
 have i0 : (izC ⟨op, 0, 0, 0, 0⟩)[0]? = some (.int .i64 (op : Nat)) := rfl
 have hxb : Ext [] w3 (w3.alloc (.cells (izC ⟨op, 0, 0, 0, 0⟩).toArray 46)) := Ext.alloc Ext.refl _ _
 have g7 : (w3.alloc (.cells (izC ⟨op, 0, 0, 0, 0⟩).toArray 46)).heap[w3.heap.size]? = some (.cells (izC ⟨op, 0, 0, 0, 0⟩).toArray 46 (0, 0)) := alloc_at rfl
 have g2c := hxb.at g2b (by simp)
 have l3 := lt_of_at g2b
 simp (disch := first | exact qD5 | fail) only [qG2, Nat.reduceAdd, Nat.reduceLeDiff, Int.reduceToNat, Int.reduceAdd, Int.reduceSub, Int.reduceLT, Int.reduceLE, Nat.reduceSub, Nat.reduceMul, Nat.reduceEqDiff, hb2, z1, z2, i0]
 replace hxa := hxa.trans hxb (by simp)
 generalize (w3.alloc (.cells (izC ⟨op, 0, 0, 0, 0⟩).toArray 46)) = w4 at *
 refine Shape_spec (n := (op : Nat)) (by omega) fun w5 hx5 => ?_
 refine order_spec hsh ?_
 generalize orderS (rowZ ((op : Nat) : Int)).s = o at *
 have g2d := hx5.at g2c (by simp)
 have g7d := hx5.at g7 (by simp)
 replace hxa := hxa.trans hx5 (by simp)
 refine joinL.intro fun J0 hJ0 => ?_
 obtain ⟨b7, hb7⟩ : ∃ b7, b7 = w3.heap.size := ⟨_, rfl⟩
 rw [<- hb7] at g7d hJ0 l3
 have hgo : ∀ v w6, RowsAt w6 v 1 (L.map sC) -> Ext [] w5 w6 -> (∀ b, blockOf v = some b -> w5.heap.size <= b) -> J0 [v] w6 := by
  intro v w6 hv hx6 hvb
  have g2e := hx6.at g2d (by simp)
  have g7e := hx6.at g7d (by simp)
  have hxc := hxa.trans hx6 (by simp)
  have l2 := lt_of_at g2e
  have l7 := lt_of_at g7e
  have l5 := lt_of_at g7d
  have l52 := lt_of_at g2d
  have hlv := hv.lenR (ty := 3) Tryz.underlying66
  rw [List.length_map] at hlv
  have hlo := lenS o
  have hw7 : w.heap.size < b7 := by omega
  apply hJ0
  intro _
  by_cases hbad : op = 0 ∨ L.length ≠ o.length
  ·rw [if_pos hbad] at hPF
   rw [hPF] at hK
   by_cases h0 : op = 0
   ·simp (disch := first | exact qD5 | fail) only [qG2, Nat.reduceAdd, Nat.reduceLeDiff, Int.reduceToNat, Int.reduceAdd, Int.reduceSub, Int.reduceLT, Int.reduceLE, Nat.reduceSub, Nat.reduceMul, Nat.reduceEqDiff, joinBR, List.getD_cons_zero, g7e, i0, g2e]
    exact hK _ qX
   ·have hne : ¬ ((L.length : Nat) : Int) = (o.length : Nat) := by omega
    simp (disch := first | exact qD5 | fail) only [qG2, Nat.reduceAdd, Nat.reduceLeDiff, Int.reduceToNat, Int.reduceAdd, Int.reduceSub, Int.reduceLT, Int.reduceLE, Nat.reduceSub, Nat.reduceMul, Nat.reduceEqDiff, joinBR, List.getD_cons_zero, g7e, i0, g2e, hlv, hlo]
    exact hK _ qX
  rw [if_neg hbad] at hPF
  have h0 : ¬ op = 0 := fun h => hbad (.inl h)
  have hlen : L.length = o.length := Classical.byContradiction fun h => hbad (.inr h)
  have hlenI : ((L.length : Nat) : Int) = (o.length : Nat) := by rw [hlen]
  have hopI : ¬ ((op : Nat) : Int) = 0 := by omega
  simp (disch := first | exact qD5 | fail) only [qG2, Nat.reduceAdd, Nat.reduceLeDiff, Int.reduceToNat, Int.reduceAdd, Int.reduceSub, Int.reduceLT, Int.reduceLE, Nat.reduceSub, Nat.reduceMul, Nat.reduceEqDiff, joinBR, List.getD_cons_zero, g7e, i0, hlv, hlo, hlenI]
  have gA : (w6.alloc (.cells [.bool true].toArray 4)).heap[w6.heap.size]? = some (.cells [.bool true].toArray 4 (0, 0)) := alloc_at rfl
  have hxA : Ext [] w6 (w6.alloc (.cells [.bool true].toArray 4)) := Ext.alloc Ext.refl _ _
  have gA2 := hxA.at g2e (by simp)
  have gA7 := hxA.at g7e (by simp)
  have hvA := hv.ext hxA (by simp)
  replace hxc := hxc.trans hxA (by simp)
  obtain ⟨b10, hb10⟩ : ∃ b10, b10 = w6.heap.size := ⟨_, rfl⟩
  have h710 : b7 < b10 := by omega
  have hblk : L.map sC ≠ [] -> ∀ b, blockOf v = some b -> b ∉ [b7, b10] := by
   intro h b hb
   have q1 := hvb b hb
   have q2 : b < w6.heap.size := hv.blt h b hb
   simp
   omega
  rw [<- hb10] at gA ⊢
  generalize (w6.alloc (.cells [.bool true].toArray 4)) = w7 at *
  have zz : in64 0 := ⟨by decide, by decide⟩
  have hok0 : izOk ⟨op, 0, 0, 0, 0⟩ := ⟨⟨show (-9223372036854775808 : Int) <= op by omega, show (op : Int) < 9223372036854775808 by omega⟩, zz, zz, zz, zz⟩
  have hzl : (o.zip L).length = o.length := by rw [List.length_zip, hlen, Nat.min_self]
  generalize hzz : o.zip L = z at *
  refine loopT.intro (fun st w' => ∃ (k : Nat), k <= o.length /\ st = [.int .i64 (k : Nat)] /\ w'.heap[b7]? = some (.cells (izC ((z.take k).foldl stepP (⟨op, 0, 0, 0, 0⟩, true)).1).toArray 46 (0, 0)) /\ w'.heap[b10]? = some (.cells [.bool ((z.take k).foldl stepP (⟨op, 0, 0, 0, 0⟩, true)).2].toArray 4 (0, 0)) /\ izOk ((z.take k).foldl stepP (⟨op, 0, 0, 0, 0⟩, true)).1 /\ Ext [b7, b10] w7 w')
   (fun st _ => match st with
    | [.int _ z] => o.length - z.toNat
    | _ => 0) ⟨0, Nat.zero_le _, rfl, gA7, gA, hok0, Ext.refl⟩ ?_
  rintro st w8 ⟨k, hk, rfl, m7, m10, hok, hx8⟩ _
  have lm7 := lt_of_at m7
  have lm10 := lt_of_at m10
  by_cases h4 : k < o.length
  ·obtain ⟨b, hb⟩ : ∃ b, o[k]? = some b := ⟨_, List.getElem?_eq_getElem h4⟩
   obtain ⟨x, hx⟩ : ∃ x, L[k]? = some x := ⟨_, List.getElem?_eq_getElem (by omega)⟩
   have hzk : z[k]? = some (b, x) := by rw [<- hzz, List.getElem?_zip_eq_some]; exact ⟨hb, hx⟩
   have hnx : (z.take (k + 1)).foldl stepP (⟨op, 0, 0, 0, 0⟩, true) = stepP ((z.take k).foldl stepP (⟨op, 0, 0, 0, 0⟩, true)) (b, x) := by
    rw [List.take_add_one, hzk, List.foldl_append]
    rfl
   have hokn := stepP_ok (x := (b, x)) hok
   have hxl := hpl x (List.mem_of_getElem? hx)
   have hrow : (L.map sC)[k]? = some (sC x) := by rw [List.getElem?_map, hx]; rfl
   have hv8 := hvA.at' hx8 hblk
   obtain ⟨b0, o0, lb, E0, f0, hix, hb0, hfit, hblt, hbk, hsub, hget⟩ := RowsAt.ixR (P := Tryz.prog) (t := 66) Tryz.underlying66 Tryz.sizeOf9 hv8 hrow
   have hc0 : lb[o0]? = some (.string ⟨x.toArray⟩) := by simpa [sC] using hget (o0 + 0) 0 rfl (by omega)
   have hixo := ixS hb
   generalize (z.take k).foldl stepP (⟨op, 0, 0, 0, 0⟩, true) = p at *
   simp (disch := first | exact qD5 | fail) only [qG2, Nat.reduceAdd, Nat.reduceLeDiff, Int.reduceToNat, Int.reduceAdd, Int.reduceSub, Int.reduceLT, Int.reduceLE, Nat.reduceSub, Nat.reduceMul, Nat.reduceEqDiff, List.getD_cons_zero]
   refine joinL.intro fun J6 hJ6 => ?_
   have hne710 : b7 ≠ b10 := by omega
   have hfin : ∀ w9, w9.heap[b7]? = some (.cells (izC (stepP p (b, x)).1).toArray 46 (0, 0)) -> w9.heap[b10]? = some (.cells [.bool (stepP p (b, x)).2].toArray 4 (0, 0)) -> Ext [b7, b10] w8 w9 -> J6 [] w9 := by
    intro w9 n7 n10 hx9
    rw [<- hnx] at n7 n10 hokn
    apply hJ6
    intro _
    simp (disch := first | exact qD5 | fail) only [qG2, Nat.reduceAdd, Nat.reduceLeDiff, Int.reduceToNat, Int.reduceAdd, Int.reduceSub, Int.reduceLT, Int.reduceLE, Nat.reduceSub, Nat.reduceMul, Nat.reduceEqDiff, List.getD_cons_zero]
    exact ⟨⟨k + 1, by omega, rfl, n7, n10, hokn, hx8.trans hx9 (by intro k hk; exact .inl hk)⟩, by first | omega | (simp <;> omega)⟩
   have hbe : ∀ c : UInt8, (((b.toNat : Nat) : Int) = (c.toNat : Nat)) ↔ b = c := fun c => ⟨fun h => UInt8.toNat_inj.1 (by omega), fun h => by rw [h]⟩
   by_cases c1 : b = 100
   ·have e : ((b.toNat : Nat) : Int) = 100 := (hbe 100).2 c1
    have hp : stepP p (b, x) = ({ p.1 with rd := regN x }, p.2 && regOK x) := by unfold stepP; dsimp only; rw [if_pos c1]
    rw [hp] at hfin
    have hset : (izC p.1).set 1 (.int .i64 (regN x)) = izC { p.1 with rd := regN x } := rfl
    simp (disch := first | exact qD5 | fail) only [qG2, Nat.reduceAdd, Nat.reduceLeDiff, Int.reduceToNat, Int.reduceAdd, Int.reduceSub, Int.reduceLT, Int.reduceLE, Nat.reduceSub, Nat.reduceMul, Nat.reduceEqDiff, hixo, e, hix, hb0, hc0]
    refine regP_spec (by omega) m10 ?_
    have m7' : (World.upd w8 b10 [.bool (p.2 && regOK x)]).heap[b7]? = some (.cells (izC p.1).toArray 46 (0, 0)) := (upd_ne hne710).trans m7
    have lm7' := lt_of_at m7'
    simp (disch := first | exact qD5 | fail) only [qG2, Nat.reduceAdd, Nat.reduceLeDiff, Int.reduceToNat, Int.reduceAdd, Int.reduceSub, Int.reduceLT, Int.reduceLE, Nat.reduceSub, Nat.reduceMul, Nat.reduceEqDiff, m7', hset]
    refine hfin _ (upd_at m7') ((upd_ne (Ne.symm hne710)).trans (upd_at m10)) ?_
    exact (Ext.updI (by simp) (Ext.updI (by simp) Ext.refl))
   have e1 : ¬ ((b.toNat : Nat) : Int) = 100 := fun h => c1 ((hbe 100).1 h)
   by_cases c2 : b = 97
   ·have e : ((b.toNat : Nat) : Int) = 97 := (hbe 97).2 c2
    have hp : stepP p (b, x) = ({ p.1 with r1 := regN x }, p.2 && regOK x) := by unfold stepP; dsimp only; rw [if_neg c1, if_pos c2]
    rw [hp] at hfin
    have hset : (izC p.1).set 2 (.int .i64 (regN x)) = izC { p.1 with r1 := regN x } := rfl
    simp (disch := first | exact qD5 | fail) only [qG2, Nat.reduceAdd, Nat.reduceLeDiff, Int.reduceToNat, Int.reduceAdd, Int.reduceSub, Int.reduceLT, Int.reduceLE, Nat.reduceSub, Nat.reduceMul, Nat.reduceEqDiff, hixo, e, hix, hb0, hc0]
    refine regP_spec (by omega) m10 ?_
    have m7' : (World.upd w8 b10 [.bool (p.2 && regOK x)]).heap[b7]? = some (.cells (izC p.1).toArray 46 (0, 0)) := (upd_ne hne710).trans m7
    have lm7' := lt_of_at m7'
    simp (disch := first | exact qD5 | fail) only [qG2, Nat.reduceAdd, Nat.reduceLeDiff, Int.reduceToNat, Int.reduceAdd, Int.reduceSub, Int.reduceLT, Int.reduceLE, Nat.reduceSub, Nat.reduceMul, Nat.reduceEqDiff, m7', hset]
    refine hfin _ (upd_at m7') ((upd_ne (Ne.symm hne710)).trans (upd_at m10)) ?_
    exact (Ext.updI (by simp) (Ext.updI (by simp) Ext.refl))
   have e2 : ¬ ((b.toNat : Nat) : Int) = 97 := fun h => c2 ((hbe 97).1 h)
   by_cases c3 : b = 98
   ·have e : ((b.toNat : Nat) : Int) = 98 := (hbe 98).2 c3
    have hp : stepP p (b, x) = ({ p.1 with r2 := regN x }, p.2 && regOK x) := by unfold stepP; dsimp only; rw [if_neg c1, if_neg c2, if_pos c3]
    rw [hp] at hfin
    have hset : (izC p.1).set 3 (.int .i64 (regN x)) = izC { p.1 with r2 := regN x } := rfl
    simp (disch := first | exact qD5 | fail) only [qG2, Nat.reduceAdd, Nat.reduceLeDiff, Int.reduceToNat, Int.reduceAdd, Int.reduceSub, Int.reduceLT, Int.reduceLE, Nat.reduceSub, Nat.reduceMul, Nat.reduceEqDiff, hixo, e, hix, hb0, hc0]
    refine regP_spec (by omega) m10 ?_
    have m7' : (World.upd w8 b10 [.bool (p.2 && regOK x)]).heap[b7]? = some (.cells (izC p.1).toArray 46 (0, 0)) := (upd_ne hne710).trans m7
    have lm7' := lt_of_at m7'
    simp (disch := first | exact qD5 | fail) only [qG2, Nat.reduceAdd, Nat.reduceLeDiff, Int.reduceToNat, Int.reduceAdd, Int.reduceSub, Int.reduceLT, Int.reduceLE, Nat.reduceSub, Nat.reduceMul, Nat.reduceEqDiff, m7', hset]
    refine hfin _ (upd_at m7') ((upd_ne (Ne.symm hne710)).trans (upd_at m10)) ?_
    exact (Ext.updI (by simp) (Ext.updI (by simp) Ext.refl))
   have e3 : ¬ ((b.toNat : Nat) : Int) = 98 := fun h => c3 ((hbe 98).1 h)
   have hp : stepP p (b, x) = ({ p.1 with im := (numberF x).1 }, p.2 && (numberF x).2) := by unfold stepP; dsimp only; rw [if_neg c1, if_neg c2, if_neg c3]
   rw [hp] at hfin
   have hset : (izC p.1).set 4 (.int .i64 (numberF x).1) = izC { p.1 with im := (numberF x).1 } := rfl
   simp (disch := first | exact qD5 | fail) only [qG2, Nat.reduceAdd, Nat.reduceLeDiff, Int.reduceToNat, Int.reduceAdd, Int.reduceSub, Int.reduceLT, Int.reduceLE, Nat.reduceSub, Nat.reduceMul, Nat.reduceEqDiff, hixo, e1, e2, e3, hix, hb0, hc0]
   refine number_specA (by omega) ?_
   generalize (numberF x).1 = nn at *
   generalize (numberF x).2 = nf at *
   cases hp2 : p.2 with
   | true =>
    rw [hp2] at m10 hfin
    rw [Bool.true_and] at hfin
    have m7' : ∀ u, (World.upd (World.upd w8 b7 (izC { p.1 with im := nn })) b10 u).heap[b7]? = some (.cells (izC { p.1 with im := nn }).toArray 46 (0, 0)) := fun u => (upd_ne hne710).trans (upd_at m7)
    have m10' : (World.upd w8 b7 (izC { p.1 with im := nn })).heap[b10]? = some (.cells [.bool true].toArray 4 (0, 0)) := (upd_ne (Ne.symm hne710)).trans m10
    have lm10' := lt_of_at m10'
    simp (disch := first | exact qD5 | fail) only [qG2, Nat.reduceAdd, Nat.reduceLeDiff, Int.reduceToNat, Int.reduceAdd, Int.reduceSub, Int.reduceLT, Int.reduceLE, Nat.reduceSub, Nat.reduceMul, Nat.reduceEqDiff, joinBR, m10, m7, hset, hp2, m10', List.set_cons_zero]
    refine hfin _ (m7' _) (upd_at m10') ?_
    exact (Ext.updI (by simp) (Ext.updI (by simp) Ext.refl))
   | false =>
    rw [hp2] at m10 hfin
    rw [Bool.false_and] at hfin
    have m7' : ∀ u, (World.upd (World.upd w8 b7 (izC { p.1 with im := nn })) b10 u).heap[b7]? = some (.cells (izC { p.1 with im := nn }).toArray 46 (0, 0)) := fun u => (upd_ne hne710).trans (upd_at m7)
    have m10' : (World.upd w8 b7 (izC { p.1 with im := nn })).heap[b10]? = some (.cells [.bool false].toArray 4 (0, 0)) := (upd_ne (Ne.symm hne710)).trans m10
    have lm10' := lt_of_at m10'
    simp (disch := first | exact qD5 | fail) only [qG2, Nat.reduceAdd, Nat.reduceLeDiff, Int.reduceToNat, Int.reduceAdd, Int.reduceSub, Int.reduceLT, Int.reduceLE, Nat.reduceSub, Nat.reduceMul, Nat.reduceEqDiff, joinBR, m10, m7, hset, hp2, m10', List.set_cons_zero]
    refine hfin _ (m7' _) (upd_at m10') ?_
    exact (Ext.updI (by simp) (Ext.updI (by simp) Ext.refl))
  ·obtain rfl : k = o.length := by omega
   rw [List.take_of_length_le (by omega)] at m7 m10 hok
   rw [<- hPP] at m7 m10 hok
   have n2 := (hx8.at gA2 (by simp; omega))
   simp (disch := first | exact qD5 | fail) only [qG2, Nat.reduceAdd, Nat.reduceLeDiff, Int.reduceToNat, Int.reduceAdd, Int.reduceSub, Int.reduceLT, Int.reduceLE, Nat.reduceSub, Nat.reduceMul, Nat.reduceEqDiff, List.getD_cons_zero, m7, izC_sub]
   refine Encode_spec hok fun w9 hx9 => ?_
   have n10 := hx9.at m10 (by simp)
   have n7 := hx9.at m7 (by simp)
   have n2' := hx9.at n2 (by simp)
   have ln10 := lt_of_at n10
   have ln7 := lt_of_at n7
   have ln2 := lt_of_at n2'
   have hx9' := hx8.trans hx9 (by simp)
   have hend : Ext [] w w9 := hxc.trans hx9' (by intro k hk; simp at hk; omega)
   cases hp2 : pp.2 with
   | false =>
    rw [hp2] at n10 hPF
    rw [hPF] at hK
    simp (disch := first | exact qD5 | fail) only [qG2, Nat.reduceAdd, Nat.reduceLeDiff, Int.reduceToNat, Int.reduceAdd, Int.reduceSub, Int.reduceLT, Int.reduceLE, Nat.reduceSub, Nat.reduceMul, Nat.reduceEqDiff, joinBR, n10, n2']
    exact hK _ qX
   | true =>
    rw [hp2] at n10 hPF
    rw [Bool.true_and] at hPF
    cases he : encOk pp.1 with
    | false =>
     rw [he] at hPF
     rw [hPF] at hK
     simp (disch := first | exact qD5 | fail) only [qG2, Nat.reduceAdd, Nat.reduceLeDiff, Int.reduceToNat, Int.reduceAdd, Int.reduceSub, Int.reduceLT, Int.reduceLE, Nat.reduceSub, Nat.reduceMul, Nat.reduceEqDiff, joinBR, n10, n2']
     exact hK _ qX
    | true =>
     rw [he] at hPF
     rw [hPF] at hK
     simp (disch := first | exact qD5 | fail) only [qG2, Nat.reduceAdd, Nat.reduceLeDiff, Int.reduceToNat, Int.reduceAdd, Int.reduceSub, Int.reduceLT, Int.reduceLE, Nat.reduceSub, Nat.reduceMul, Nat.reduceEqDiff, joinBR, n10, n2', n7, izC_sub, z1, z2]
     exact hK _ qX
 cases hc : c.2.2 with
 | true =>
  rw [hc, if_pos rfl] at hL
  simp (disch := first | exact qD5 | fail) only [qG2, Nat.reduceAdd, Nat.reduceLeDiff, Int.reduceToNat, Int.reduceAdd, Int.reduceSub, Int.reduceLT, Int.reduceLE, Nat.reduceSub, Nat.reduceMul, Nat.reduceEqDiff]
  refine Split_spec (s := c.2.1) (p := [44, 32]) (hg.ext hxa) (by omega) (by simp) fun v w6 hv hx6 hvb => ?_
  rw [<- hL] at hv
  exact hgo v w6 hv hx6 hvb
 | false =>
  rw [hc] at hL
  have hL0 : L = [] := hL
  simp (disch := first | exact qD5 | fail) only [qG2, Nat.reduceAdd, Nat.reduceLeDiff, Int.reduceToNat, Int.reduceAdd, Int.reduceSub, Int.reduceLT, Int.reduceLE, Nat.reduceSub, Nat.reduceMul, Nat.reduceEqDiff]
  exact hgo _ _ (by rw [hL0]; exact OwnR.nil.rows (base := 0) (e := 5)) Ext.refl (fun b h => by simp [blockOf] at h)
end Go.Proofs.YtldkfbelnndaoaaGreatDoor
namespace Go.Fx
open Go.Instr Go.MapKept
variable {κ ν : Type}
def World.setM (w : World) (r : Nat) (o : Obj) : World := { w with heap := w.heap.setIfInBounds r o }
theorem setM_size (w : World) (r : Nat) (o : Obj) : (World.setM w r o).heap.size = w.heap.size := by simp [World.setM]
theorem setM_at {w : World} {r : Nat} {o o' : Obj} (h : w.heap[r]? = some o') : (World.setM w r o).heap[r]? = some o := by
  have := lt_of_at h
  simp [World.setM, Array.getElem?_setIfInBounds, this]
theorem setM_ne {w : World} {r k : Nat} {o : Obj} (h : k ≠ r) : (World.setM w r o).heap[k]? = w.heap[k]? := by
  simp only [World.setM, Array.getElem?_setIfInBounds]
  rw [if_neg (Ne.symm h)]
theorem Ext.setM {S : List Nat} {w w' : World} {r c : Nat} {es : Array MapEntry} {o : Obj} (h : Ext S w w') (hb : w'.heap[r]? = some (.map es c)) (hr : r ∈ S ∨ w.heap.size <= r) : Ext S w (World.setM w' r o) := by
  refine ⟨h.os, h.tape, h.output, by rw [setM_size]; exact h.size, fun k hk hn => ?_⟩
  rw [setM_ne]
  · exact h.kept k hk hn
  · rintro rfl
    rcases hr with hr | hr
    · exact hn hr
    · omega
theorem Ext.allocM {S : List Nat} {w w' : World} {es : Array MapEntry} {c : Nat} (h : Ext S w w') : Ext S w (w'.alloc (.map es c)) :=
  ⟨h.os, h.tape, h.output, by have := h.size; show w.heap.size <= (w'.heap.push _).size; simp; omega, fun k hk hn => by have := h.size; rw [alloc_ne (by omega)]; exact h.kept k hk hn⟩
/-- where a key is first. -/
def firstOf [DecidableEq κ] (a : κ) : List (κ × ν) -> Nat -> Option (Nat × ν)
  | [], _ => none
  | (k, v) :: l, i => if a = k then some (i, v) else firstOf a l (i + 1)
/-- keys that can be held against each other. -/
structure KeyOk [DecidableEq κ] (P : Program) (kt : TypeId) (kf : κ -> Value) : Prop where
  now : (∃ d, P.underlying kt = some d /\ ∀ a b, sameNow d (kf a) (kf b) = some (decide (a = b))) ∨
    (∃ d, P.underlying kt = some d /\ (∀ a b, sameNow d (kf a) (kf b) = none) /\ ∀ a b w, (Op.equal kt (kf a) (kf b)).run P w = .ok (decide (a = b)) w)
  check : ∀ e a w, (checkKey e 10000 kt (kf a)).run P w = .ok () w
  bits : ∀ a, sameBits 10000 (kf a) (kf a) = true
theorem findNow_some [DecidableEq κ] {kf : κ -> Value} {vf : ν -> Value} {d : TypeDesc} (h : ∀ a b, sameNow d (kf a) (kf b) = some (decide (a = b))) (a : κ) : ∀ (l : List (κ × ν)) (es : List MapEntry) (i : Nat), es.map (fun e => (e.key, e.val)) = l.map (fun p => (kf p.1, vf p.2)) ->
    findNow d (kf a) es i = some ((firstOf a l i).map fun x => (x.1, vf x.2))
  | [], [], i, _ => rfl
  | [], e :: es, i, he => by simp at he
  | p :: l, [], i, he => by simp at he
  | (k, v) :: l, e :: es, i, he => by
    simp only [List.map_cons, List.cons.injEq, Prod.mk.injEq] at he
    unfold findNow firstOf
    rw [he.1.1, h a k]
    by_cases hk : a = k
    · simp [hk, he.1.2]
    · simp only [hk, decide_false, if_false]
      exact findNow_some h a l es (i + 1) he.2
theorem findNow_none [DecidableEq κ] {kf : κ -> Value} {vf : ν -> Value} {d : TypeDesc} (h : ∀ a b, sameNow d (kf a) (kf b) = none) (a : κ) : ∀ (l : List (κ × ν)) (es : List MapEntry) (i : Nat), es.map (fun e => (e.key, e.val)) = l.map (fun p => (kf p.1, vf p.2)) -> l ≠ [] ->
    findNow d (kf a) es i = none
  | [], _, i, _, h0 => absurd rfl h0
  | p :: l, [], i, he, _ => by simp at he
  | (k, v) :: l, e :: es, i, he, _ => by
    simp only [List.map_cons, List.cons.injEq, Prod.mk.injEq] at he
    unfold findNow
    rw [he.1.1, h a k]
theorem findAsk [DecidableEq κ] {P : Program} {kt : TypeId} {kf : κ -> Value} {vf : ν -> Value} (h : ∀ a b w, (Op.equal kt (kf a) (kf b)).run P w = .ok (decide (a = b)) w) (a : κ) (w : World) : ∀ (l : List (κ × ν)) (es : List MapEntry) (i : Nat), es.map (fun e => (e.key, e.val)) = l.map (fun p => (kf p.1, vf p.2)) ->
    (findAsking kt (kf a) es i).run P w = .ok ((firstOf a l i).map fun x => (x.1, vf x.2)) w
  | [], [], i, _ => rfl
  | [], e :: es, i, he => by simp at he
  | p :: l, [], i, he => by simp at he
  | (k, v) :: l, e :: es, i, he => by
    simp only [List.map_cons, List.cons.injEq, Prod.mk.injEq] at he
    unfold findAsking firstOf
    rw [he.1.1, Sem.run_bind, h a k]
    simp only [Result.andThen_ok]
    by_cases hk : a = k
    · simp [hk, he.1.2]
    · simp only [hk, decide_false, if_false, Bool.false_eq_true]
      exact findAsk h a w l es (i + 1) he.2
theorem find_run [DecidableEq κ] {P : Program} {kt : TypeId} {kf : κ -> Value} {vf : ν -> Value} (h : KeyOk P kt kf) (a : κ) (w : World) {l : List (κ × ν)} {es : List MapEntry} (he : es.map (fun e => (e.key, e.val)) = l.map (fun p => (kf p.1, vf p.2))) :
    (findKey kt (kf a) es).run P w = .ok ((firstOf a l 0).map fun x => (x.1, vf x.2)) w := by
  unfold findKey
  rcases h.now with ⟨d, hd, hn⟩ | ⟨d, hd, hn, hq⟩
  · rw [Sem.run_bind, run_underlying hd]
    simp only [Result.andThen_ok]
    rw [findNow_some hn a l es 0 he]
    rfl
  · rw [Sem.run_bind, run_underlying hd]
    simp only [Result.andThen_ok]
    by_cases h0 : l = []
    · subst h0
      obtain rfl : es = [] := by simpa using he
      rfl
    · rw [findNow_none hn a l es 0 he h0]
      exact findAsk hq a w l es 0 he
/-- the entries' stamps: below the map's clock, and no two alike. -/
def BornOk (es : Array MapEntry) (clock : Nat) : Prop := (∀ x ∈ es.toList, x.born < clock) /\ (es.toList.map (·.born)).Nodup
theorem BornOk.push {es : Array MapEntry} {clock : Nat} (h : BornOk es clock) {key val : Value} : BornOk (es.push { key, val, born := clock }) (clock + 1) := by
  refine ⟨fun x hx => ?_, ?_⟩
  · simp only [Array.toList_push, List.mem_append, List.mem_singleton] at hx
    rcases hx with hx | rfl
    · exact Nat.lt_succ_of_lt (h.1 x hx)
    · exact Nat.lt_succ_self _
  · simp only [Array.toList_push, List.map_append, List.map_cons, List.map_nil]
    refine List.nodup_append.2 ⟨h.2, by simp, ?_⟩
    intro a ha b hb
    simp only [List.mem_singleton] at hb
    subst hb
    obtain ⟨x, hx, rfl⟩ := List.mem_map.1 ha
    exact Nat.ne_of_lt (h.1 x hx)
theorem BornOk.modify {es : Array MapEntry} {clock : Nat} (h : BornOk es clock) (i : Nat) (f : MapEntry -> MapEntry) (hb : ∀ e, (f e).born = e.born) : BornOk (es.modify i f) clock := by
  have hborn : (es.modify i f).toList.map (·.born) = es.toList.map (·.born) := by
    apply List.ext_getElem?
    intro j
    simp only [List.getElem?_map, Array.getElem?_toList, Array.getElem?_modify]
    by_cases hij : i = j
    · subst hij
      cases he : es[i]? with
      | none => simp
      | some e => simp [hb e]
    · simp [hij]
  refine ⟨fun x hx => ?_, hborn ▸ h.2⟩
  have : x.born ∈ (es.modify i f).toList.map (·.born) := List.mem_map.2 ⟨x, hx, rfl⟩
  rw [hborn] at this
  obtain ⟨y, hy, e⟩ := List.mem_map.1 this
  rw [<- e]; exact h.1 y hy
/-- a map's list, and what it tells of each key. -/
structure MapL [DecidableEq κ] (w : World) (r : Nat) (kf : κ -> Value) (vf : ν -> Value) (l : List (κ × ν)) : Prop where
  at' : ∃ es clock, w.heap[r]? = some (.map es clock) /\ es.toList.map (fun e => (e.key, e.val)) = l.map (fun p => (kf p.1, vf p.2)) /\ BornOk es clock
  nodup : (l.map (·.1)).Nodup
def getM [DecidableEq κ] (l : List (κ × ν)) (a : κ) : Option ν := (firstOf a l 0).map (·.2)
def MapF [DecidableEq κ] (w : World) (r : Nat) (kf : κ -> Value) (vf : ν -> Value) (f : κ -> Option ν) : Prop := ∃ l, MapL w r kf vf l /\ ∀ a, getM l a = f a
theorem firstOf_shift [DecidableEq κ] (a : κ) : ∀ (l : List (κ × ν)) (i : Nat), firstOf a l (i + 1) = (firstOf a l i).map fun x => (x.1 + 1, x.2)
  | [], i => rfl
  | (k, v) :: l, i => by
    unfold firstOf
    split
    · rfl
    · exact firstOf_shift a l (i + 1)
theorem getM_cons [DecidableEq κ] (a k : κ) (v : ν) (l : List (κ × ν)) : getM ((k, v) :: l) a = if a = k then some v else getM l a := by
  unfold getM
  rw [firstOf]
  split
  · rfl
  · rw [firstOf_shift]
    cases firstOf a l 0 <;> rfl
theorem getM_none [DecidableEq κ] {a : κ} : ∀ {l : List (κ × ν)}, getM l a = none ↔ a ∉ l.map (·.1)
  | [] => by simp [getM, firstOf]
  | (k, v) :: l => by
    rw [getM_cons]
    by_cases h : a = k
    · simp [h]
    · rw [if_neg h, getM_none (l := l)]
      simp [h]
theorem first_get [DecidableEq κ] {a : κ} : ∀ {l : List (κ × ν)} {i : Nat} {v : ν}, firstOf a l 0 = some (i, v) -> l[i]? = some (a, v)
  | [], i, v, h => by simp [firstOf] at h
  | (k, u) :: l, i, v, h => by
    rw [firstOf] at h
    split at h
    · rename_i hk
      simp at h
      obtain ⟨rfl, rfl⟩ := h
      simp [hk]
    · rw [firstOf_shift] at h
      obtain ⟨x, hx, hy⟩ := Option.map_eq_some_iff.1 h
      obtain ⟨j, u'⟩ := x
      simp only [Prod.mk.injEq] at hy
      obtain ⟨rfl, rfl⟩ := hy
      simpa using first_get hx
theorem getM_append [DecidableEq κ] (a b : κ) (v : ν) : ∀ (l : List (κ × ν)), a ∉ l.map (·.1) -> getM (l ++ [(a, v)]) b = if b = a then some v else getM l b
  | [], _ => by simp [getM_cons, getM, firstOf]
  | (k, u) :: l, h => by
    simp only [List.map_cons, List.mem_cons, not_or] at h
    rw [List.cons_append, getM_cons, getM_cons, getM_append a b v l h.2]
    by_cases h1 : b = k
    · rw [if_pos h1, if_pos h1, if_neg (by rw [h1]; exact fun e => h.1 e.symm)]
    · rw [if_neg h1, if_neg h1]
theorem getM_set [DecidableEq κ] (a b : κ) (v : ν) : ∀ (l : List (κ × ν)) (i : Nat), (∃ u, firstOf a l 0 = some (i, u)) -> getM (l.set i (a, v)) b = if b = a then some v else getM l b
  | [], i, ⟨u, h⟩ => by simp [firstOf] at h
  | (k, u') :: l, i, ⟨u, h⟩ => by
    rw [firstOf] at h
    split at h
    · rename_i hk
      simp at h
      obtain ⟨rfl, rfl⟩ := h
      subst hk
      rw [List.set_cons_zero, getM_cons, getM_cons]
      split <;> rfl
    · rename_i hk
      rw [firstOf_shift] at h
      obtain ⟨x, hx, hy⟩ := Option.map_eq_some_iff.1 h
      obtain ⟨j, u2⟩ := x
      simp only [Prod.mk.injEq] at hy
      obtain ⟨rfl, rfl⟩ := hy
      rw [List.set_cons_succ, getM_cons, getM_cons, getM_set a b v l j ⟨_, hx⟩]
      by_cases h1 : b = k
      · rw [if_pos h1, if_pos h1, if_neg (by rw [h1]; exact fun e => hk e.symm)]
      · rw [if_neg h1, if_neg h1]
theorem MapF.make [DecidableEq κ] {w : World} {kf : κ -> Value} {vf : ν -> Value} : MapF (w.alloc (.map #[] 0)) w.heap.size kf vf (fun _ => none) :=
  ⟨[], ⟨⟨#[], 0, alloc_at rfl, rfl, by simp [BornOk]⟩, by simp⟩, fun _ => rfl⟩
theorem MapF.ext [DecidableEq κ] {w w' : World} {r : Nat} {kf : κ -> Value} {vf : ν -> Value} {f : κ -> Option ν} {S : List Nat} (h : MapF w r kf vf f) (hx : Ext S w w') (hr : r ∉ S) : MapF w' r kf vf f := by
  obtain ⟨l, ⟨⟨es, c, h1, h2⟩, h3⟩, h4⟩ := h
  exact ⟨l, ⟨⟨es, c, hx.at h1 hr, h2⟩, h3⟩, h4⟩
theorem MapF.lt [DecidableEq κ] {w : World} {r : Nat} {kf : κ -> Value} {vf : ν -> Value} {f : κ -> Option ν} (h : MapF w r kf vf f) : r < w.heap.size := by
  obtain ⟨l, ⟨⟨es, c, h1, h2⟩, h3⟩, h4⟩ := h
  exact lt_of_at h1
theorem getO {P : Program} {w : World} {r : Nat} {es : Array MapEntry} {clock : Nat} (hb : w.heap[r]? = some (.map es clock)) : (getObj r).run P w = .ok (.map es clock) w := by simp [getObj, Sem.run, hb]
theorem run_mkM {P : Program} (t : TypeId) (w : World) : (makeMap t none).run P w = .ok (.map (some w.heap.size)) (w.alloc (.map #[] 0)) := rfl
theorem run_lookM [DecidableEq κ] {P : Program} {t kt et : TypeId} {kf : κ -> Value} {vf : ν -> Value} (ht : P.underlying t = some (.map kt et)) (hk : KeyOk P kt kf) {z : Value} (hz : ∀ w, (zeroValue et).run P w = .ok z w) {w : World} {r : Nat} {f : κ -> Option ν} (h : MapF w r kf vf f) (a : κ) (c : Bool) :
    (lookup t (.map (some r)) (kf a) c).run P w = .ok (if c then .tuple #[((f a).map vf).getD z, .bool (f a).isSome] else ((f a).map vf).getD z) w := by
  obtain ⟨l, ⟨⟨es, cl, h1, h2, hbn⟩, h3⟩, h4⟩ := h
  have hf := find_run hk a w h2
  have hg : (firstOf a l 0).map (·.2) = f a := h4 a
  unfold lookup
  rw [Sem.run_bind, run_underlying ht]
  simp only [Result.andThen_ok, Sem.run_bind, getO h1, Sem.run_pure, hk.check, hf]
  rw [<- hg]
  cases firstOf a l 0 with
  | none => cases c <;> simp [hz]
  | some x => cases c <;> simp
theorem run_setObjM {P : Program} {w : World} {r : Nat} {es : Array MapEntry} {clock : Nat} (o : Obj) (hb : w.heap[r]? = some (.map es clock)) : (setObj r o).run P w = .ok () (World.setM w r o) := by simp [setObj, Sem.run, hb, World.setM]
theorem run_updM [DecidableEq κ] {P : Program} {t kt et : TypeId} {kf : κ -> Value} {vf : ν -> Value} (ht : P.underlying t = some (.map kt et)) (hk : KeyOk P kt kf) {w : World} {r : Nat} {f : κ -> Option ν} (h : MapF w r kf vf f) (a : κ) (v : ν) {K : Unit -> World -> Prop}
    (hK : ∀ w', MapF w' r kf vf (fun b => if b = a then some v else f b) -> Ext [r] w w' -> K () w') : resV K ((mapUpdate t (.map (some r)) (kf a) (vf v)).run P w) := by
  obtain ⟨l, ⟨⟨es, cl, h1, h2, hbn⟩, h3⟩, h4⟩ := h
  have hf := find_run hk a w h2
  have hl : es.toList.length = l.length := by simpa using congrArg List.length h2
  unfold mapUpdate
  simp only [Sem.run_bind, run_underlying ht, Result.andThen_ok, getO h1, hk.check, hf]
  cases hx : firstOf a l 0 with
  | none =>
    simp only [Option.map_none, run_setObjM _ h1]
    refine hK _ ⟨l ++ [(a, v)], ⟨⟨_, _, setM_at h1, ?_, hbn.push⟩, ?_⟩, fun b => ?_⟩ (Ext.refl.setM h1 (.inl (by simp)))
    · simp [h2]
    · have hn : a ∉ l.map (·.1) := getM_none.1 (by unfold getM; rw [hx]; rfl)
      rw [List.map_append, List.nodup_append]
      refine ⟨h3, by simp, fun x hx' y hy => ?_⟩
      simp at hy
      subst hy
      rintro rfl
      exact hn hx'
    · rw [getM_append a b v l (getM_none.1 (by unfold getM; rw [hx]; rfl)), h4]
  | some x =>
    obtain ⟨i, u⟩ := x
    have hget := first_get hx
    obtain ⟨hi, -⟩ := List.getElem?_eq_some_iff.1 hget
    have hes : es.toList[i]? = some es.toList[i] := List.getElem?_eq_getElem (by omega)
    have hkey : es.toList[i].key = kf a := by
      have := congrArg (fun x => x[i]?) h2
      simp only [List.getElem?_map, hes, hget, Option.map_some, Option.some.injEq, Prod.mk.injEq] at this
      exact this.1
    have hes2 : es[i]? = some es.toList[i] := by rw [<- hes]; simp
    have hkeep : (keyThatStays (((es[i]?).map (·.key)).getD (kf a)) (kf a)).run P w = .ok (kf a) w := by
      rw [hes2]
      simp only [Option.map_some, Option.getD_some, hkey]
      unfold keyThatStays
      rw [if_pos (hk.bits a)]
      rfl
    simp only [Option.map_some, Sem.run_bind, hkeep, Result.andThen_ok, run_setObjM _ h1]
    refine hK _ ⟨l.set i (a, v), ⟨⟨_, _, setM_at h1, ?_, hbn.modify _ _ fun _ => rfl⟩, ?_⟩, fun b => ?_⟩ (Ext.refl.setM h1 (.inl (by simp)))
    · apply List.ext_getElem?
      intro j
      have hj := congrArg (fun x => x[j]?) h2
      simp only [List.getElem?_map] at hj
      simp only [List.getElem?_map, Array.toList_modify, List.getElem?_modify, List.getElem?_set]
      by_cases hij : i = j
      · subst hij
        simp [hes2, hi]
      · simp [hij, hj]
        simpa using hj
    · have : (l.set i (a, v)).map (·.1) = l.map (·.1) := by
        rw [List.map_set]
        apply List.ext_getElem?
        intro j
        rw [List.getElem?_set]
        split
        · rename_i hij
          subst hij
          have hget2 := List.getElem?_eq_getElem hi
          rw [hget] at hget2
          simp only [Option.some.injEq] at hget2
          simp [hi, <- hget2]
        · rfl
      rw [this]; exact h3
    · rw [getM_set a b v l i ⟨u, hx⟩, h4]
end Go.Fx
namespace Go.Proofs.YtldkfbelnndaoaaGreatDoor
open Go.Fx
set_option maxRecDepth 100000
theorem check_str {P : Program} {t : TypeId} {e : Bool} {n : Nat} {v : Value} (h : P.underlying t = some .string) (w : World) : (Instr.checkKey e (n + 1) t v).run P w = .ok () w := by
 unfold Instr.checkKey
 rw [Sem.run_bind, run_underlying h]
 rfl
theorem keyS : KeyOk Tryz.prog 9 sV := by
 refine ⟨.inl ⟨_, Tryz.underlying9, fun a b => ?_⟩, fun e a w => check_str Tryz.underlying9 w, fun a => ?_⟩
 ·show some ((⟨a.toArray⟩ : ByteArray) == ⟨b.toArray⟩) = some (decide (a = b))
  have e : ((⟨a.toArray⟩ : ByteArray) == ⟨b.toArray⟩) = (a.toArray == b.toArray) := rfl
  rw [e]
  congr 1
  rw [Bool.eq_iff_iff, beq_iff_eq, decide_eq_true_eq]
  constructor
  ·intro h
   simpa using h
  ·rintro rfl; rfl
 ·have e : ((⟨a.toArray⟩ : ByteArray) == ⟨a.toArray⟩) = (a.toArray == a.toArray) := rfl
  simp [sV, Instr.sameBits, e]
def iV64 (n : Int) : Value := .int .i64 n
def mkC (r1 r2 : Nat) : List Value := [.map (some r1), .map (some r2)]
theorem mkC_len (a b : Nat) : (mkC a b).length = 2 := by simp [mkC]
theorem mkC_all (a b : Nat) : (mkC a b).all (fun v => v.oneCell') = true := by simp [mkC]; exact ⟨rfl, rfl⟩
theorem mkC_sub (a b : Nat) : sub (mkC a b) 0 2 = mkC a b := rfl
def toldK (s : List UInt8) : Int := Lib.lastIndex s [32]
def toldSh (s : List UInt8) : Nat := (rowZ (parseOp s)).s
/-- an instruction's text with a number in the place of a mark's name. -/
def toldF (at' times : List UInt8 -> Option Int) (s : List UInt8) (n : Int) : List UInt8 :=
 if toldK s < 0 then s else if (times (s.drop (toldK s + 1).toNat)).getD 0 ≠ 1 ∨ (toldSh s ≠ 66 /\ toldSh s ≠ 74) then s
 else s.take (toldK s + 1).toNat ++ dec (((at' (s.drop (toldK s + 1).toNat)).getD 0 - n) * 4)
theorem lastOcc_lt (s p : List UInt8) : ∀ k : Nat, Lib.lastOcc s p k < k
 | 0 => by unfold Lib.lastOcc; decide
 | k + 1 => by
  have := lastOcc_lt s p k
  rcases h : Lib.occAt s p k with _ | _
  ·rw [Lib.lastOcc_miss s p k h]; omega
  ·rw [Lib.lastOcc_hit s p k h]; omega
theorem toldK_lt (s : List UInt8) : toldK s < s.length := by
 unfold toldK Lib.lastIndex
 split
 ·rename_i h
  have := lastOcc_lt s [32] (s.length - [(32 : UInt8)].length + 1)
  simp at h this ⊢
  omega
 ·omega
theorem told_spec {w : World} {r1 r2 : Nat} {A T : List UInt8 -> Option Int} {s : List UInt8} {n : Int} (hg : Gm w) (h1 : MapF w r1 sV iV64 A) (h2 : MapF w r2 sV iV64 T) (hA : ∀ x a, A x = some a -> 0 <= a /\ a <= 1000000) (hs : s.length <= 1000000) (hn : 0 <= n /\ n <= 1000000) {K : Value -> World -> Prop}
  (hK : ∀ w', Ext [] w w' -> K (.string ⟨(toldF A T s n).toArray⟩) w') : callsK Tryz.prog 16 #[.agg (mkC r1 r2).toArray, .string ⟨s.toArray⟩, .int .i64 n] w K := by
 apply F16_ok
 unfold F16
 have m0 : (mkC r1 r2)[0]? = some (.map (some r1)) := rfl
 have m1 : (mkC r1 r2)[1]? = some (.map (some r2)) := rfl
 have hll : (mkC r1 r2).length = 2 := rfl
 have hla : (mkC r1 r2).all (fun v => v.oneCell') = true := rfl
 simp (disch := first | exact qD5 | fail) only [qG2, Nat.reduceAdd, Nat.reduceLeDiff, Int.reduceToNat, Int.reduceAdd, Int.reduceSub, Int.reduceLT, Int.reduceLE, Nat.reduceSub, Nat.reduceMul, Nat.reduceEqDiff, mkC_sub, hll, hla]
 have g3 : (w.alloc (.cells (mkC r1 r2).toArray 60)).heap[w.heap.size]? = some (.cells (mkC r1 r2).toArray 60 (0, 0)) := alloc_at rfl
 have hx0 : Ext [] w (w.alloc (.cells (mkC r1 r2).toArray 60)) := Ext.alloc Ext.refl _ _
 refine LastIndex_spec (s := s) (p := [32]) (by omega) ?_
 have hk1 := toldK_lt s
 have hT : toldF A T s n = if toldK s < 0 then s else if (T (s.drop (toldK s + 1).toNat)).getD 0 ≠ 1 ∨ (toldSh s ≠ 66 /\ toldSh s ≠ 74) then s else s.take (toldK s + 1).toNat ++ dec (((A (s.drop (toldK s + 1).toNat)).getD 0 - n) * 4) := rfl
 have hkk : Lib.lastIndex s [32] = toldK s := rfl
 have hop : findN (Lib.cut s [32]).1 69 0 = parseOp s := rfl
 have hshd : (rowZ (parseOp s)).s = toldSh s := rfl
 rw [hkk]
 generalize toldF A T s n = tf at *
 generalize toldK s = k at *
 by_cases hk0 : k < 0
 ·rw [if_pos hk0] at hT
  rw [hT] at hK
  simp (disch := first | exact qD5 | fail) only [qG2, Nat.reduceAdd, Nat.reduceLeDiff, Int.reduceToNat, Int.reduceAdd, Int.reduceSub, Int.reduceLT, Int.reduceLE, Nat.reduceSub, Nat.reduceMul, Nat.reduceEqDiff]
  exact hK _ hx0
 rw [if_neg hk0] at hT
 simp (disch := first | exact qD5 | fail) only [qG2, Nat.reduceAdd, Nat.reduceLeDiff, Int.reduceToNat, Int.reduceAdd, Int.reduceSub, Int.reduceLT, Int.reduceLE, Nat.reduceSub, Nat.reduceMul, Nat.reduceEqDiff]
 have l3 := lt_of_at g3
 generalize (w.alloc (.cells (mkC r1 r2).toArray 60)) = w1 at *
 refine Cut_spec (s := s) (p := [32]) (hg.ext hx0) (by omega) fun w2 hx1 => ?_
 have hofl := findN_lt (Lib.cut s [32]).1 69 0 rfl
 have hshok := rowZ_sh (parseOp s)
 rw [hop] at hofl
 rw [hshd] at hshok
 generalize hcc : Lib.cut s [32] = c at *
 simp (disch := first | exact qD5 | fail) only [qG2, Nat.reduceAdd, Nat.reduceLeDiff, Int.reduceToNat, Int.reduceAdd, Int.reduceSub, Int.reduceLT, Int.reduceLE, Nat.reduceSub, Nat.reduceMul, Nat.reduceEqDiff]
 refine Find_spec fun w3 hx2 => ?_
 rw [hop]
 refine Shape_spec (n := (parseOp s : Nat)) (by omega) fun w4 hx4 => ?_
 rw [hshd]
 have hxa := (hx1.trans hx2 (by simp)).trans hx4 (by simp)
 have g4 := hxa.at g3 (by simp)
 have hxb := hx0.trans hxa (by simp)
 have l4 := lt_of_at g4
 have hM1 := h1.ext hxb (by simp)
 have hM2 := h2.ext hxb (by simp)
 obtain ⟨kn, hkn⟩ : ∃ kn : Nat, kn = (k + 1).toNat := ⟨_, rfl⟩
 rw [<- hkn] at hT
 have ekn : k + 1 = (kn : Int) := by omega
 have hcutA : ∀ w, (Instr.sliceAt 9 (.string ⟨s.toArray⟩) (some (.int .i64 (kn : Nat))) none none).run Tryz.prog w = .ok (.string ⟨(s.drop kn).toArray⟩) w := by
  intro w
  have hsz := size_mk s
  rw [run_cutS Tryz.underlying9 ⟨s.toArray⟩ _ _ (l := kn) (h := s.length) (fun w => by rw [hsz]; exact (slR.2.2.1 _ _ _ _ _ _ (by omega)).trans (by rw [Int.toNat_natCast])), cut_mk]
  rw [List.take_of_length_le (by simp)]
 have hcutB : ∀ w, (Instr.sliceAt 9 (.string ⟨s.toArray⟩) none (some (.int .i64 (kn : Nat))) none).run Tryz.prog w = .ok (.string ⟨(s.take kn).toArray⟩) w := by
  intro w
  have hsz := size_mk s
  rw [run_cutS Tryz.underlying9 ⟨s.toArray⟩ _ _ (l := 0) (h := kn) (fun w => by rw [hsz]; exact (slR.2.1 _ _ _ _ _ _ (by omega)).trans (by rw [Int.toNat_natCast])), cut_mk]
  rw [List.drop_zero, Nat.sub_zero]
 have hzi : ∀ w, (zeroValue 3).run Tryz.prog w = .ok (iV64 0) w := fun w => by rw [Tryz.zeroValue3]; rfl
 have hkT : ∀ w, MapF w r2 sV iV64 T -> (Instr.lookup 58 (.map (some r2)) (.string ⟨(s.drop kn).toArray⟩) false).run Tryz.prog w = .ok (.int .i64 ((T (s.drop kn)).getD 0)) w := fun w h => by
  have := run_lookM Tryz.underlying58 keyS hzi h (s.drop kn) false
  rw [show (Value.string ⟨(s.drop kn).toArray⟩) = sV (s.drop kn) from rfl, this]
  cases T (s.drop kn) <;> rfl
 have hkA : ∀ w, MapF w r1 sV iV64 A -> (Instr.lookup 58 (.map (some r1)) (.string ⟨(s.drop kn).toArray⟩) false).run Tryz.prog w = .ok (.int .i64 ((A (s.drop kn)).getD 0)) w := fun w h => by
  have := run_lookM Tryz.underlying58 keyS hzi h (s.drop kn) false
  rw [show (Value.string ⟨(s.drop kn).toArray⟩) = sV (s.drop kn) from rfl, this]
  cases A (s.drop kn) <;> rfl
 have hAl : 0 <= (A (s.drop kn)).getD 0 /\ (A (s.drop kn)).getD 0 <= 1000000 := by
  cases hA' : A (s.drop kn) with
  | none => decide
  | some a => exact hA _ a hA'
 have hT4 := hkT w4 hM2
 have hT4d := hkT w4.drew (hM2.ext (Ext.refl.drew) (by simp : r2 ∉ ([] : List Nat)))
 have hA4 := hkA w4 hM1
 have hA4d := hkA w4.drew (hM1.ext (Ext.refl.drew) (by simp : r1 ∉ ([] : List Nat)))
 have hA4dd := hkA w4.drew.drew (hM1.ext (Ext.refl.drew.drew) (by simp : r1 ∉ ([] : List Nat)))
 generalize hTv : (T (s.drop kn)).getD 0 = tv at *
 generalize hAv : (A (s.drop kn)).getD 0 = av at *
 generalize toldSh s = sh at *
 by_cases c1 : tv ≠ 1
 ·rw [if_pos (.inl c1)] at hT
  rw [hT] at hK
  simp (disch := first | exact qD5 | fail) only [qG2, Nat.reduceAdd, Nat.reduceLeDiff, Int.reduceToNat, Int.reduceAdd, Int.reduceSub, Int.reduceLT, Int.reduceLE, Nat.reduceSub, Nat.reduceMul, Nat.reduceEqDiff, joinBR, g4, m1, ekn, hcutA, hT4, hT4d]
  exact hK _ qX
 have c1' : tv = 1 := Classical.byContradiction fun h => c1 h
 subst c1'
 by_cases c2 : sh = 66 ∨ sh = 74
 ·rw [if_neg (by omega)] at hT
  rw [hT] at hK
  have hdl := dec_len (n := (av - n) * 4)
  have hadd := addS (a := s.take kn) (b := dec ((av - n) * 4)) (by simp; omega)
  have hin : in64 ((av - n) * 4) := ⟨by omega, by omega⟩
  rcases c2 with rfl | rfl
  ·simp (disch := first | exact qD5 | fail) only [qG2, Nat.reduceAdd, Nat.reduceLeDiff, Int.reduceToNat, Int.reduceAdd, Int.reduceSub, Int.reduceLT, Int.reduceLE, Nat.reduceSub, Nat.reduceMul, Nat.reduceEqDiff, joinBR, g4, m0, m1, ekn, hcutA, hcutB, hT4, hT4d, hA4, hA4d, hA4dd]
   refine digits_spec hin fun w9 hx9 => ?_
   simp (disch := first | exact qD5 | fail) only [qG2, Nat.reduceAdd, Nat.reduceLeDiff, Int.reduceToNat, Int.reduceAdd, Int.reduceSub, Int.reduceLT, Int.reduceLE, Nat.reduceSub, Nat.reduceMul, Nat.reduceEqDiff, joinBR, hadd]
   exact hK _ ((Ext.trans (S := []) qX hx9 (by simp)))
  ·simp (disch := first | exact qD5 | fail) only [qG2, Nat.reduceAdd, Nat.reduceLeDiff, Int.reduceToNat, Int.reduceAdd, Int.reduceSub, Int.reduceLT, Int.reduceLE, Nat.reduceSub, Nat.reduceMul, Nat.reduceEqDiff, joinBR, g4, m0, m1, ekn, hcutA, hcutB, hT4, hT4d, hA4, hA4d, hA4dd]
   refine digits_spec hin fun w9 hx9 => ?_
   simp (disch := first | exact qD5 | fail) only [qG2, Nat.reduceAdd, Nat.reduceLeDiff, Int.reduceToNat, Int.reduceAdd, Int.reduceSub, Int.reduceLT, Int.reduceLE, Nat.reduceSub, Nat.reduceMul, Nat.reduceEqDiff, joinBR, hadd]
   exact hK _ ((Ext.trans (S := []) qX hx9 (by simp)))
 ·rw [if_pos (.inr (by omega))] at hT
  rw [hT] at hK
  simp (disch := first | exact qD5 | fail) only [qG2, Nat.reduceAdd, Nat.reduceLeDiff, Int.reduceToNat, Int.reduceAdd, Int.reduceSub, Int.reduceLT, Int.reduceLE, Nat.reduceSub, Nat.reduceMul, Nat.reduceEqDiff, joinBR, g4, m1, ekn, hcutA, hT4, hT4d]
  exact hK _ qX
open Go.Fx
set_option maxRecDepth 100000
/-- a line that is something. -/
structure Ln where
 n : Nat
 t : List UInt8
 m : Bool
def lnC (x : Ln) : List Value := [.int .i64 (x.n : Nat), .string ⟨x.t.toArray⟩, .bool x.m]
theorem lnC_len (x : Ln) : (lnC x).length = 3 := by simp [lnC]
theorem lnC_all (x : Ln) : (lnC x).all (fun v => v.oneCell') = true := by simp [lnC]; exact ⟨rfl, rfl, rfl⟩
def lineF (k : Nat) (l : List UInt8) : Option Ln :=
 let t := Lib.trimLeftB l 32
 if t = [] ∨ Lib.hasPrefix t [35] = true then none else if Lib.hasSuffix t [58] && namedF (Lib.trimSuffix t [58]) then some ⟨k, Lib.trimSuffix t [58], true⟩ else some ⟨k, t, false⟩
def linesFrom : Nat -> List (List UInt8) -> List Ln
 | _, [] => []
 | k, l :: r => (lineF (k + 1) l).toList ++ linesFrom (k + 1) r
theorem linesFrom_app : ∀ (a b : List (List UInt8)) (k : Nat), linesFrom k (a ++ b) = linesFrom k a ++ linesFrom (k + a.length) b
 | [], b, k => by simp [linesFrom]
 | x :: a, b, k => by
  rw [List.cons_append, linesFrom, linesFrom, linesFrom_app a b (k + 1), List.append_assoc, List.length_cons]
  rw [show k + 1 + a.length = k + (a.length + 1) by omega]
theorem linesFrom_len : ∀ (a : List (List UInt8)) (k : Nat), (linesFrom k a).length <= a.length
 | [], _ => Nat.le_refl _
 | x :: a, k => by
  have := linesFrom_len a (k + 1)
  rw [linesFrom, List.length_append, List.length_cons]
  have : (lineF (k + 1) x).toList.length <= 1 := by cases lineF (k + 1) x <;> simp
  omega
theorem appLn {base : Nat} {v x : Value} {rows rows2 : List (List Value)} {w : World} {K : Value -> World -> Prop} (hown : OwnR w base 65 3 v rows) (hx : RowsAt w x 3 rows2) (h1 : ∀ r ∈ rows2, r.all (fun v => v.oneCell') = true)
  (hl : rows.length + rows2.length <= 1000000) (hbase : base <= w.heap.size) (hK : ∀ v' w', OwnR w' base 65 3 v' (rows ++ rows2) -> App base v w w' -> K v' w') : resV K ((Builtin.append_ #[56, 56] 56 #[v, x]).run Tryz.prog w) :=
 kV_appR Tryz.underlying56 (by kernel_rfl) (by omega) (bytes := 32) hown hx h1 (by simp only [maxLen]; omega) (by omega) hbase hK
theorem trimB_len (l : List UInt8) : (Lib.trimLeftB l 32).length <= l.length := by
 unfold Lib.trimLeftB
 exact (List.dropWhile_sublist _).length_le
theorem trimSuf_len (s p : List UInt8) : (Lib.trimSuffix s p).length <= s.length := by
 unfold Lib.trimSuffix
 split
 ·simp
 ·exact Nat.le_refl _
theorem qZ6 : type_of% (And.intro @szR (And.intro @izC_len (And.intro @izC_all (And.intro @lnC_len (@lnC_all))))) := ⟨@szR, @izC_len, @izC_all, @lnC_len, @lnC_all⟩
theorem qD6 {p : Prop} (h : p := by first | assumption | omega | (simp only [qZ6] <;> omega) | rfl | decide) : p := h
theorem lines_spec {w : World} {s : List UInt8} (hg : Gm w) (hs : s.length <= 20000) {K : Value -> World -> Prop} (hK : ∀ v w', RowsAt w' v 3 ((linesFrom 0 (Lib.split s [10])).map lnC) -> Ext [] w w' -> (∀ b, blockOf v = some b -> w.heap.size <= b) -> K v w') : callsK Tryz.prog 12 #[.string ⟨s.toArray⟩] w K := by
 apply F12_ok
 unfold F12
 have hsl : ∀ x ∈ Lib.split s [10], x.length <= s.length := splitK_len _ _ _ _ (Nat.le_refl _)
 have hcn : (Lib.split s [10]).length <= s.length + 1 := by
  have hd := Lib.splitB_data ⟨#[10]⟩ 0 (Lib.countB ⟨s.toArray⟩ ⟨#[10]⟩) ⟨s.toArray⟩
  have hlen := Lib.splitB_all ⟨#[10]⟩ (Nat.le_refl 1) 0 (Lib.countB ⟨s.toArray⟩ ⟨#[10]⟩) ⟨s.toArray⟩ rfl
  have hc := Lib.countB_le ⟨#[10]⟩ (Nat.le_refl 1) s.length ⟨s.toArray⟩ (by rw [size_mk]; exact Nat.le_refl _)
  rw [size_mk] at hc
  have e2 : Lib.split s [10] = (Lib.splitB ⟨#[10]⟩ 0 (Lib.countB ⟨s.toArray⟩ ⟨#[10]⟩) ⟨s.toArray⟩).map (·.data.toList) := by rw [hd]; rfl
  rw [e2, List.length_map, hlen]
  omega
 refine Split_spec (s := s) (p := [10]) hg (by omega) (by simp) fun v w1 hv hx1 hvb => ?_
 generalize Lib.split s [10] = ls at *
 have hlv := hv.lenR (ty := 3) Tryz.underlying66
 rw [List.length_map] at hlv
 simp (disch := first | exact qD6 | fail) only [qG2, Nat.reduceAdd, Nat.reduceLeDiff, Int.reduceToNat, Int.reduceAdd, Int.reduceSub, Int.reduceLT, Int.reduceLE, Nat.reduceSub, Nat.reduceMul, Nat.reduceEqDiff, hlv]
 refine loopT.intro (fun st w' => ∃ (k : Nat) (o : Value), k <= ls.length /\ st = [o, .int .i64 (k : Nat)] /\ OwnR w' w1.heap.size 65 3 o ((linesFrom 0 (ls.take k)).map lnC) /\ Ext [] w1 w')
  (fun st _ => match st with
   | [_, .int _ z] => ls.length - z.toNat
   | _ => 0) ⟨0, _, Nat.zero_le _, rfl, OwnR.nil, Ext.refl⟩ ?_
 rintro st w2 ⟨k, o, hk, rfl, ho, hx2⟩ _
 have hll := linesFrom_len (ls.take k) 0
 rw [List.length_take] at hll
 by_cases h4 : k < ls.length
 ·obtain ⟨x, hx⟩ : ∃ x, ls[k]? = some x := ⟨_, List.getElem?_eq_getElem h4⟩
  have hxl := hsl x (List.mem_of_getElem? hx)
  have hrow : (ls.map sC)[k]? = some (sC x) := by rw [List.getElem?_map, hx]; rfl
  have hv2 := hv.ext hx2 (by simp)
  obtain ⟨b0, o0, lb, E0, f0, hix, hb0, hfit, hblt, hbk, hsub, hget⟩ := RowsAt.ixR (P := Tryz.prog) (t := 66) Tryz.underlying66 Tryz.sizeOf9 hv2 hrow
  have hc0 : lb[o0]? = some (.string ⟨x.toArray⟩) := by simpa [sC] using hget (o0 + 0) 0 rfl (by omega)
  have hnx : linesFrom 0 (ls.take (k + 1)) = linesFrom 0 (ls.take k) ++ (lineF (k + 1) x).toList := by
   rw [List.take_add_one, hx, linesFrom_app, List.length_take, Nat.min_eq_left hk, Nat.zero_add]
   rw [Option.toList, linesFrom, linesFrom, List.append_nil]
  have hlf : lineF (k + 1) x = if Lib.trimLeftB x 32 = [] ∨ Lib.hasPrefix (Lib.trimLeftB x 32) [35] = true then none else if Lib.hasSuffix (Lib.trimLeftB x 32) [58] && namedF (Lib.trimSuffix (Lib.trimLeftB x 32) [58]) then some ⟨k + 1, Lib.trimSuffix (Lib.trimLeftB x 32) [58], true⟩ else some ⟨k + 1, Lib.trimLeftB x 32, false⟩ := rfl
  generalize hr : lineF (k + 1) x = r at *
  have htl := trimB_len x
  simp (disch := first | exact qD6 | fail) only [qG2, Nat.reduceAdd, Nat.reduceLeDiff, Int.reduceToNat, Int.reduceAdd, Int.reduceSub, Int.reduceLT, Int.reduceLE, Nat.reduceSub, Nat.reduceMul, Nat.reduceEqDiff, List.getD_cons_zero, List.getD_cons_succ]
  refine joinL.intro fun J2 hJ2 => ?_
  simp (disch := first | exact qD6 | fail) only [qG2, Nat.reduceAdd, Nat.reduceLeDiff, Int.reduceToNat, Int.reduceAdd, Int.reduceSub, Int.reduceLT, Int.reduceLE, Nat.reduceSub, Nat.reduceMul, Nat.reduceEqDiff, hix, hb0, hc0]
  refine TrimLeft_spec (s := x) (c := 32) (by decide) ?_
  have hskip : r = none -> J2 [o] w2 := by
   intro hn
   rw [hn, Option.toList, List.append_nil] at hnx
   apply hJ2
   intro _
   simp (disch := first | exact qD6 | fail) only [qG2, Nat.reduceAdd, Nat.reduceLeDiff, Int.reduceToNat, Int.reduceAdd, Int.reduceSub, Int.reduceLT, Int.reduceLE, Nat.reduceSub, Nat.reduceMul, Nat.reduceEqDiff, List.getD_cons_zero, List.getD_cons_succ]
   exact ⟨⟨k + 1, o, by omega, rfl, by rw [hnx]; exact ho, hx2⟩, by first | omega | (simp <;> omega)⟩
  have htsl := trimSuf_len (Lib.trimLeftB x 32) [58]
  generalize Lib.trimLeftB x 32 = t at *
  have hE := eqlS t []
  by_cases h0 : t = []
  ·rw [if_pos (.inl h0)] at hlf
   simp (disch := first | exact qD6 | fail) only [qG2, Nat.reduceAdd, Nat.reduceLeDiff, Int.reduceToNat, Int.reduceAdd, Int.reduceSub, Int.reduceLT, Int.reduceLE, Nat.reduceSub, Nat.reduceMul, Nat.reduceEqDiff, joinBR, hE, decide_eq_true h0]
   exact hskip hlf
  have hd0 := decide_eq_false h0
  have hbl : ∀ (n : Int) (t : ByteArray) (m : Bool) w, (Instr.build 65 #[(0, .int .i64 n), (1, .string t), (2, .bool m)]).run Tryz.prog w = .ok (.agg [.int .i64 n, .string t, .bool m].toArray) w := fun n t m w => run_build w 65 _ _ (by kernel_rfl)
  simp (disch := first | exact qD6 | fail) only [qG2, Nat.reduceAdd, Nat.reduceLeDiff, Int.reduceToNat, Int.reduceAdd, Int.reduceSub, Int.reduceLT, Int.reduceLE, Nat.reduceSub, Nat.reduceMul, Nat.reduceEqDiff, joinBR, hE, hd0]
  refine HasPrefix_spec (s := t) (p := [35]) ?_
  cases hp : Lib.hasPrefix t [35] with
  | true =>
   rw [if_pos (.inr hp)] at hlf
   simp (disch := first | exact qD6 | fail) only [qG2, Nat.reduceAdd, Nat.reduceLeDiff, Int.reduceToNat, Int.reduceAdd, Int.reduceSub, Int.reduceLT, Int.reduceLE, Nat.reduceSub, Nat.reduceMul, Nat.reduceEqDiff, joinBR]
   exact hskip hlf
  | false =>
   rw [if_neg (by rw [hp]; simp [h0])] at hlf
   simp (disch := first | exact qD6 | fail) only [qG2, Nat.reduceAdd, Nat.reduceLeDiff, Int.reduceToNat, Int.reduceAdd, Int.reduceSub, Int.reduceLT, Int.reduceLE, Nat.reduceSub, Nat.reduceMul, Nat.reduceEqDiff, joinBR]
   refine CutSuffix_spec (s := t) (p := [58]) (by omega) ?_
   simp (disch := first | exact qD6 | fail) only [qG2, Nat.reduceAdd, Nat.reduceLeDiff, Int.reduceToNat, Int.reduceAdd, Int.reduceSub, Int.reduceLT, Int.reduceLE, Nat.reduceSub, Nat.reduceMul, Nat.reduceEqDiff]
   refine joinL.intro fun J5 hJ5 => ?_
   have hpush : ∀ (t' : List UInt8) (m : Bool), r = some ⟨k + 1, t', m⟩ -> J5 [.bool m, .string ⟨t'.toArray⟩] w2 := by
    intro t' m he
    rw [he, Option.toList] at hnx
    apply hJ5
    intro _
    have hag : ∀ w, (Instr.build 65 #[(0, .int .i64 ((k : Nat) + 1 : Int)), (1, .string ⟨t'.toArray⟩), (2, .bool m)]).run Tryz.prog w = .ok (.agg (lnC ⟨k + 1, t', m⟩).toArray) w := fun w => hbl _ _ _ w
    simp (disch := first | exact qD6 | fail) only [qG2, Nat.reduceAdd, Nat.reduceLeDiff, Int.reduceToNat, Int.reduceAdd, Int.reduceSub, Int.reduceLT, Int.reduceLE, Nat.reduceSub, Nat.reduceMul, Nat.reduceEqDiff, List.getD_cons_zero, List.getD_cons_succ, hag]
    have hxb : Ext [] w2 (w2.alloc (.cells (lnC ⟨k + 1, t', m⟩).toArray 65)) := Ext.alloc Ext.refl _ _
    refine appLn (rows2 := [lnC ⟨k + 1, t', m⟩]) (ho.ext hxb (by simp)) (OwnR.fresh (base := 0) rfl (lnC_all _) (Nat.zero_le _)).rows (by intro r hr; simp at hr; subst hr; exact lnC_all _) (by simp; omega) (by have := hx2.size; have := hxb.size; omega) fun v8 w4 ho8 ha => ?_
    rw [show (linesFrom 0 (ls.take k)).map lnC ++ [lnC ⟨k + 1, t', m⟩] = (linesFrom 0 (ls.take (k + 1))).map lnC by rw [hnx]; simp] at ho8
    have hx8 := ha.ext w1 [] (Nat.le_refl _) (hx2.trans hxb (by simp))
    apply hJ2
    intro _
    simp (disch := first | exact qD6 | fail) only [qG2, Nat.reduceAdd, Nat.reduceLeDiff, Int.reduceToNat, Int.reduceAdd, Int.reduceSub, Int.reduceLT, Int.reduceLE, Nat.reduceSub, Nat.reduceMul, Nat.reduceEqDiff, List.getD_cons_zero, List.getD_cons_succ]
    exact ⟨⟨k + 1, v8, by omega, rfl, ho8, hx8⟩, by first | omega | (simp <;> omega)⟩
   cases hsf : Lib.hasSuffix t [58] with
   | false =>
    rw [hsf] at hlf
    simp (disch := first | exact qD6 | fail) only [qG2, Nat.reduceAdd, Nat.reduceLeDiff, Int.reduceToNat, Int.reduceAdd, Int.reduceSub, Int.reduceLT, Int.reduceLE, Nat.reduceSub, Nat.reduceMul, Nat.reduceEqDiff, joinBR]
    exact hpush _ _ hlf
   | true =>
    rw [hsf, Bool.true_and] at hlf
    simp (disch := first | exact qD6 | fail) only [qG2, Nat.reduceAdd, Nat.reduceLeDiff, Int.reduceToNat, Int.reduceAdd, Int.reduceSub, Int.reduceLT, Int.reduceLE, Nat.reduceSub, Nat.reduceMul, Nat.reduceEqDiff, joinBR]
    refine named_spec (by omega) ?_
    cases hnm : namedF (Lib.trimSuffix t [58]) with
    | false =>
     rw [hnm] at hlf
     simp (disch := first | exact qD6 | fail) only [qG2, Nat.reduceAdd, Nat.reduceLeDiff, Int.reduceToNat, Int.reduceAdd, Int.reduceSub, Int.reduceLT, Int.reduceLE, Nat.reduceSub, Nat.reduceMul, Nat.reduceEqDiff, joinBR]
     exact hpush _ _ hlf
    | true =>
     rw [hnm] at hlf
     simp (disch := first | exact qD6 | fail) only [qG2, Nat.reduceAdd, Nat.reduceLeDiff, Int.reduceToNat, Int.reduceAdd, Int.reduceSub, Int.reduceLT, Int.reduceLE, Nat.reduceSub, Nat.reduceMul, Nat.reduceEqDiff, joinBR]
     exact hpush _ _ hlf
 ·obtain rfl : k = ls.length := by omega
  rw [List.take_length] at ho
  simp (disch := first | exact qD6 | fail) only [qG2, Nat.reduceAdd, Nat.reduceLeDiff, Int.reduceToNat, Int.reduceAdd, Int.reduceSub, Int.reduceLT, Int.reduceLE, Nat.reduceSub, Nat.reduceMul, Nat.reduceEqDiff, List.getD_cons_zero, List.getD_cons_succ]
  exact hK _ _ ho.rows (hx1.trans hx2 (by simp)) fun b hb => by have := ho.block b hb; have := hx1.size; omega
open Go.Fx
set_option maxRecDepth 100000
/-- a line stands for these instructions' texts. -/
def StandsOK (t : List UInt8) (l : List (List UInt8)) : Prop := ∀ (w : World) (K : Value -> World -> Prop), Gm w -> (∀ v w', RowsAt w' v 1 (l.map sC) -> Ext [] w w' -> (∀ b, blockOf v = some b -> w.heap.size <= b) -> K v w') -> callsK Tryz.prog 14 #[.string ⟨t.toArray⟩] w K
theorem one_text {w : World} {t : List UInt8} {K : Value -> World -> Prop} (hK : ∀ v w', RowsAt w' v 1 ([t].map sC) -> Ext [] w w' -> (∀ b, blockOf v = some b -> w.heap.size <= b) -> K v w') : K (.slice (some ⟨w.heap.size, 0, none⟩) 1 1) (w.alloc (.cells [.string ⟨t.toArray⟩].toArray 9)) :=
 hK _ _ (OwnR.fresh (base := 0) rfl rfl (Nat.zero_le _)).rows qX fun b hb => Nat.le_of_eq (Option.some.inj hb)
/-- marks' places, how often each is there, and how many instructions there are, behind a line. -/
structure Mk where
 a : List UInt8 -> Option Int
 t : List UInt8 -> Option Int
 n : Nat
def stepC (st : List UInt8 -> List (List UInt8)) (p : Mk) (x : Ln) : Mk :=
 if x.m then ⟨fun b => if b = x.t then some p.n else p.a b, fun b => if b = x.t then some ((p.t x.t).getD 0 + 1) else p.t b, p.n⟩ else ⟨p.a, p.t, p.n + (st x.t).length⟩
def Mk.zero : Mk := ⟨fun _ => none, fun _ => none, 0⟩
def countF (st : List UInt8 -> List (List UInt8)) (L : List Ln) : Mk := L.foldl (stepC st) Mk.zero
theorem countF_n {st : List UInt8 -> List (List UInt8)} (hst : ∀ t, (st t).length <= 2) : ∀ L, (countF st L).n <= 2 * L.length := by
 intro L
 unfold countF
 suffices h : ∀ (L : List Ln) (p : Mk), (L.foldl (stepC st) p).n <= p.n + 2 * L.length by
  have := h L Mk.zero
  simpa [Mk.zero] using this
 intro L
 induction L with
 | nil => intro p; simp
 | cons x L ih =>
  intro p
  rw [List.foldl_cons, List.length_cons]
  have h1 := ih (stepC st p x)
  have h2 : (stepC st p x).n <= p.n + 2 := by
   unfold stepC
   split
   ·simp
   ·have := hst x.t
    simp
    omega
  omega
theorem countF_t {st : List UInt8 -> List (List UInt8)} : ∀ L b, 0 <= ((countF st L).t b).getD 0 /\ ((countF st L).t b).getD 0 <= L.length := by
 intro L
 unfold countF
 suffices h : ∀ (L : List Ln) (p : Mk) (m : Nat), (∀ b, 0 <= (p.t b).getD 0 /\ (p.t b).getD 0 <= m) -> ∀ b, 0 <= ((L.foldl (stepC st) p).t b).getD 0 /\ ((L.foldl (stepC st) p).t b).getD 0 <= m + L.length by
  have := h L Mk.zero 0 (fun b => by simp [Mk.zero])
  simpa using this
 intro L
 induction L with
 | nil => intro p m h b; simpa using h b
 | cons x L ih =>
  intro p m h b
  have := ih (stepC st p x) (m + 1) (fun c => by
   unfold stepC
   have h1 := h x.t
   have h2 := h c
   split
   ·simp only
    split
    ·simp only [Option.getD_some]
     omega
    ·omega
   ·simp only
    omega) b
  rw [List.foldl_cons, List.length_cons]
  omega
theorem countF_a {st : List UInt8 -> List (List UInt8)} (hst : ∀ t, (st t).length <= 2) : ∀ L b c, (countF st L).a b = some c -> 0 <= c /\ c <= 2 * L.length := by
 intro L
 unfold countF
 suffices h : ∀ (L : List Ln) (p : Mk) (m : Nat), p.n <= m -> (∀ b c, p.a b = some c -> 0 <= c /\ c <= m) -> ∀ b c, (L.foldl (stepC st) p).a b = some c -> 0 <= c /\ c <= m + 2 * L.length by
  have := h L Mk.zero 0 (Nat.le_refl _) (fun b c h => by simp [Mk.zero] at h)
  simpa using this
 intro L
 induction L with
 | nil => intro p m _ h b c hb; simpa using h b c hb
 | cons x L ih =>
  intro p m hn h b c hb
  rw [List.foldl_cons] at hb
  have := ih (stepC st p x) (m + 2) (by
   unfold stepC
   split
   ·simp only; omega
   ·have := hst x.t
    simp only; omega) (fun b c hb => by
   unfold stepC at hb
   split at hb
   ·simp only at hb
    split at hb
    ·simp only [Option.some.injEq] at hb
     omega
    ·have := h b c hb
     omega
   ·have := h b c hb
    omega) b c hb
  rw [List.length_cons]
  omega
open Go.Fx
set_option maxRecDepth 100000
theorem ln_over (x : Ln) : splice [.int .i64 0, .string ⟨#[]⟩, .bool false] 0 (lnC x) = lnC x := rfl
theorem ln_put (x : Ln) : lnC x ++ List.drop (lnC x).length [.int .i64 0, .string ⟨#[]⟩, .bool false] = lnC x := by simp [lnC]
theorem mk_over (a b : Nat) : splice [.map none, .map none] 0 (mkC a b) = mkC a b := rfl
theorem mk_put (a b : Nat) : mkC a b ++ List.drop (mkC a b).length [.map none, .map none] = mkC a b := by simp [mkC]
theorem qZ7 : type_of% (And.intro @szR (And.intro @izC_len (And.intro @izC_all (And.intro @lnC_len (And.intro @lnC_all (And.intro @mkC_len (@mkC_all))))))) := ⟨@szR, @izC_len, @izC_all, @lnC_len, @lnC_all, @mkC_len, @mkC_all⟩
theorem qD7 {p : Prop} (h : p := by first | assumption | omega | (simp only [qZ7] <;> omega) | rfl | decide) : p := h
theorem count_spec {w : World} {v : Value} {L : List Ln} {st : List UInt8 -> List (List UInt8)} (hst : ∀ t, (st t).length <= 2) (hg : Gm w) (hv : RowsAt w v 3 (L.map lnC)) (hL : L.length <= 20001) (hok : ∀ x ∈ L, x.m = false -> StandsOK x.t (st x.t)) {K : Value -> World -> Prop}
  (hK : ∀ r1 r2 w', MapF w' r1 sV iV64 (countF st L).a -> MapF w' r2 sV iV64 (countF st L).t -> w.heap.size <= r1 -> w.heap.size <= r2 -> r1 ≠ r2 -> Ext [] w w' -> K (.tuple #[.agg (mkC r1 r2).toArray, .int .i64 ((countF st L).n : Nat)]) w') : callsK Tryz.prog 13 #[v] w K := by
 apply F13_ok
 unfold F13
 have hlv := hv.lenR (ty := 3) Tryz.underlying56
 rw [List.length_map] at hlv
 have hm : ∀ w, (Instr.makeMap 58 none).run Tryz.prog w = .ok (.map (some w.heap.size)) (w.alloc (.map #[] 0)) := fun w => run_mkM _ w
 have z1 := mk_over
 have z2 := mk_put
 simp (disch := first | exact qD7 | fail) only [qG2, Nat.reduceAdd, Nat.reduceLeDiff, Int.reduceToNat, Int.reduceAdd, Int.reduceSub, Int.reduceLT, Int.reduceLE, Nat.reduceSub, Nat.reduceMul, Nat.reduceEqDiff, hlv, hm]
 have hxa : Ext [] w ((((w.alloc (.cells [.map none, .map none].toArray 60)).alloc (.map #[] 0)).alloc (.map #[] 0)).alloc (.cells (mkC (w.heap.size + 1) (w.heap.size + 1 + 1)).toArray 60)) := Ext.alloc (Ext.allocM (Ext.allocM (Ext.alloc Ext.refl _ _))) _ _
 have e1 : (w.alloc (.cells [.map none, .map none].toArray 60)).heap.size = w.heap.size + 1 := by simp (disch := first | exact qD7 | fail) only [qG2, Nat.reduceAdd, Nat.reduceLeDiff, Int.reduceToNat, Int.reduceAdd, Int.reduceSub, Int.reduceLT, Int.reduceLE, Nat.reduceSub, Nat.reduceMul, Nat.reduceEqDiff]
 have e2 : ((w.alloc (.cells [.map none, .map none].toArray 60)).alloc (.map #[] 0)).heap.size = w.heap.size + 1 + 1 := by simp (disch := first | exact qD7 | fail) only [qG2, Nat.reduceAdd, Nat.reduceLeDiff, Int.reduceToNat, Int.reduceAdd, Int.reduceSub, Int.reduceLT, Int.reduceLE, Nat.reduceSub, Nat.reduceMul, Nat.reduceEqDiff]
 have e3 : (((w.alloc (.cells [.map none, .map none].toArray 60)).alloc (.map #[] 0)).alloc (.map #[] 0)).heap.size = w.heap.size + 1 + 1 + 1 := by simp (disch := first | exact qD7 | fail) only [qG2, Nat.reduceAdd, Nat.reduceLeDiff, Int.reduceToNat, Int.reduceAdd, Int.reduceSub, Int.reduceLT, Int.reduceLE, Nat.reduceSub, Nat.reduceMul, Nat.reduceEqDiff]
 have M1 : MapF ((w.alloc (.cells [.map none, .map none].toArray 60)).alloc (.map #[] 0)) (w.heap.size + 1) sV iV64 (fun _ => none) := by
  have := MapF.make (w := w.alloc (.cells [.map none, .map none].toArray 60)) (kf := sV) (vf := iV64)
  rwa [e1] at this
 have M2 : MapF (((w.alloc (.cells [.map none, .map none].toArray 60)).alloc (.map #[] 0)).alloc (.map #[] 0)) (w.heap.size + 1 + 1) sV iV64 (fun _ => none) := by
  have := MapF.make (w := (w.alloc (.cells [.map none, .map none].toArray 60)).alloc (.map #[] 0)) (kf := sV) (vf := iV64)
  rwa [e2] at this
 replace M1 := (M1.ext (Ext.allocM (S := []) (es := #[]) (c := 0) Ext.refl) (by simp)).ext (Ext.alloc (S := []) Ext.refl (mkC (w.heap.size + 1) (w.heap.size + 1 + 1)).toArray 60) (by simp)
 replace M2 := M2.ext (Ext.alloc (S := []) Ext.refl (mkC (w.heap.size + 1) (w.heap.size + 1 + 1)).toArray 60) (by simp)
 have G4 : ((((w.alloc (.cells [.map none, .map none].toArray 60)).alloc (.map #[] 0)).alloc (.map #[] 0)).alloc (.cells (mkC (w.heap.size + 1) (w.heap.size + 1 + 1)).toArray 60)).heap[w.heap.size + 1 + 1 + 1]? = some (.cells (mkC (w.heap.size + 1) (w.heap.size + 1 + 1)).toArray 60 (0, 0)) := by
  rw [<- e3]
  exact alloc_at rfl
 have G0 : ((((w.alloc (.cells [.map none, .map none].toArray 60)).alloc (.map #[] 0)).alloc (.map #[] 0)).alloc (.cells (mkC (w.heap.size + 1) (w.heap.size + 1 + 1)).toArray 60)).heap[w.heap.size]? = some (.cells [.map none, .map none].toArray 60 (0, 0)) := by
  have h0 : (w.alloc (.cells [.map none, .map none].toArray 60)).heap[w.heap.size]? = some (.cells [.map none, .map none].toArray 60 (0, 0)) := alloc_at rfl
  have hx : Ext [] (w.alloc (.cells [.map none, .map none].toArray 60)) ((((w.alloc (.cells [.map none, .map none].toArray 60)).alloc (.map #[] 0)).alloc (.map #[] 0)).alloc (.cells (mkC (w.heap.size + 1) (w.heap.size + 1 + 1)).toArray 60)) := Ext.alloc (Ext.allocM (Ext.allocM Ext.refl)) _ _
  exact hx.at h0 (by simp)
 have hmk : [.map (some (w.heap.size + 1)), .map (some (w.heap.size + 1 + 1))] = mkC (w.heap.size + 1) (w.heap.size + 1 + 1) := rfl
 rw [hmk]
 clear e1 e2 e3 hm hmk
 generalize ((((w.alloc (.cells [.map none, .map none].toArray 60)).alloc (.map #[] 0)).alloc (.map #[] 0)).alloc (.cells (mkC (w.heap.size + 1) (w.heap.size + 1 + 1)).toArray 60)) = w1 at *
 obtain ⟨s0, hs0⟩ : ∃ s0, s0 = w.heap.size := ⟨_, rfl⟩
 have hs1 : Ext [] w w1 := hxa
 obtain ⟨r1, hr1⟩ : ∃ r1, r1 = s0 + 1 := ⟨_, rfl⟩
 obtain ⟨r2, hr2⟩ : ∃ r2, r2 = s0 + 1 + 1 := ⟨_, rfl⟩
 obtain ⟨b4, hb4⟩ : ∃ b4, b4 = s0 + 1 + 1 + 1 := ⟨_, rfl⟩
 rw [<- hs0] at M1 M2 G0 G4 ⊢
 rw [<- hb4, <- hr2, <- hr1] at G4
 rw [<- hr2] at M2
 rw [<- hr1] at M1
 rw [<- hb4]
 have lw1 := lt_of_at G4
 have c0 : (mkC r1 r2)[0]? = some (.map (some r1)) := rfl
 have c1 : (mkC r1 r2)[1]? = some (.map (some r2)) := rfl
 have hnz : ∀ L' : List Ln, L'.length <= 20001 -> (countF st L').n <= 40002 := fun L' h => Nat.le_trans (countF_n hst L') (by omega)
 refine loopT.intro (fun ss w' => ∃ (k : Nat), k <= L.length /\ ss = [.int .i64 ((countF st (L.take k)).n : Nat), .int .i64 (k : Nat)] /\ MapF w' r1 sV iV64 (countF st (L.take k)).a /\ MapF w' r2 sV iV64 (countF st (L.take k)).t /\ Ext [r1, r2] w1 w')
  (fun st _ => match st with
   | [_, .int _ z] => L.length - z.toNat
   | _ => 0) ⟨0, Nat.zero_le _, rfl, M1, M2, Ext.refl⟩ ?_
 rintro ss w2 ⟨k, hk, rfl, N1, N2, hx2⟩ _
 have H0 := hx2.at G0 (by simp; omega)
 have H4 := hx2.at G4 (by simp; omega)
 have l0 := lt_of_at H0
 have l4 := lt_of_at H4
 have hg2 : Gm w2 := by
  obtain ⟨g0, m, hm⟩ := hg.ext hs1
  have hk0 := hx2.kept 0 g0 (by simp; omega)
  refine ⟨by have := hx2.size; omega, m, ?_⟩
  rw [<- hm]
  unfold World.cell?
  rw [hk0]
 by_cases h4 : k < L.length
 ·obtain ⟨x, hx⟩ : ∃ x, L[k]? = some x := ⟨_, List.getElem?_eq_getElem h4⟩
  have hxm := List.mem_of_getElem? hx
  have hnx : countF st (L.take (k + 1)) = stepC st (countF st (L.take k)) x := by
   unfold countF
   rw [List.take_add_one, hx, List.foldl_append]
   rfl
  have hT := countF_t (st := st) (L.take k) x.t
  have hN := hnz (L.take k) (by simp; omega)
  rw [List.length_take] at hT
  generalize countF st (L.take k) = p at *
  have hrow : (L.map lnC)[k]? = some (lnC x) := by rw [List.getElem?_map, hx]; rfl
  have hv2 := (hv.ext hs1 (by simp)).at' hx2 (fun h b hb => by have := hv.blt h b hb; simp; omega)
  obtain ⟨b0, o0, lb, E0, f0, hix, hb0, hfit, hblt, hbk, hsub, hget⟩ := RowsAt.ixR (P := Tryz.prog) (t := 56) Tryz.underlying56 Tryz.sizeOf65 hv2 hrow
  have hs := hsub o0 rfl
  have q1 : (lnC x)[1]? = some (.string ⟨x.t.toArray⟩) := rfl
  have q2 : (lnC x)[2]? = some (.bool x.m) := rfl
  simp (disch := first | exact qD7 | fail) only [qG2, Nat.reduceAdd, Nat.reduceLeDiff, Int.reduceToNat, Int.reduceAdd, Int.reduceSub, Int.reduceLT, Int.reduceLE, Nat.reduceSub, Nat.reduceMul, Nat.reduceEqDiff, List.getD_cons_zero, List.getD_cons_succ]
  refine joinL.intro fun J2 hJ2 => ?_
  have hfin : ∀ w3, MapF w3 r1 sV iV64 (stepC st p x).a -> MapF w3 r2 sV iV64 (stepC st p x).t -> Ext [r1, r2] w2 w3 -> J2 [.int .i64 ((stepC st p x).n : Nat)] w3 := by
   intro w3 a1 a2 a3
   rw [<- hnx] at a1 a2 ⊢
   apply hJ2
   intro _
   simp (disch := first | exact qD7 | fail) only [qG2, Nat.reduceAdd, Nat.reduceLeDiff, Int.reduceToNat, Int.reduceAdd, Int.reduceSub, Int.reduceLT, Int.reduceLE, Nat.reduceSub, Nat.reduceMul, Nat.reduceEqDiff, List.getD_cons_zero, List.getD_cons_succ]
   exact ⟨⟨k + 1, by omega, rfl, a1, a2, hx2.trans a3 (by intro k hk; exact .inl hk)⟩, by first | omega | (simp <;> omega)⟩
  have ha : Ext [] w2 (w2.alloc (.cells (lnC x).toArray 65)) := Ext.alloc Ext.refl _ _
  cases hm : x.m with
  | false =>
   have hS : stepC st p x = ⟨p.a, p.t, p.n + (st x.t).length⟩ := by unfold stepC; rw [hm]; rfl
   rw [hS] at hfin
   have hl2 := hst x.t
   rw [hm] at q2
   simp (disch := first | exact qD7 | fail) only [qG2, Nat.reduceAdd, Nat.reduceLeDiff, Int.reduceToNat, Int.reduceAdd, Int.reduceSub, Int.reduceLT, Int.reduceLE, Nat.reduceSub, Nat.reduceMul, Nat.reduceEqDiff, hix, hb0, hs, ln_over, ln_put, q1, q2]
   refine hok x hxm hm _ _ (hg2.ext ha) fun v3 w3 hv3 hx3 _ => ?_
   have hl3 := hv3.lenR (ty := 3) Tryz.underlying66
   rw [List.length_map] at hl3
   simp (disch := first | exact qD7 | fail) only [qG2, Nat.reduceAdd, Nat.reduceLeDiff, Int.reduceToNat, Int.reduceAdd, Int.reduceSub, Int.reduceLT, Int.reduceLE, Nat.reduceSub, Nat.reduceMul, Nat.reduceEqDiff, hl3, List.getD_cons_zero]
   exact hfin _ ((N1.ext ha (by simp)).ext hx3 (by simp)) ((N2.ext ha (by simp)).ext hx3 (by simp)) ((ha.trans hx3 (by simp)).mono (by simp))
  | true =>
   have hS : stepC st p x = ⟨fun b => if b = x.t then some p.n else p.a b, fun b => if b = x.t then some ((p.t x.t).getD 0 + 1) else p.t b, p.n⟩ := by unfold stepC; rw [hm]; rfl
   rw [hS] at hfin
   rw [hm] at q2
   simp (disch := first | exact qD7 | fail) only [qG2, Nat.reduceAdd, Nat.reduceLeDiff, Int.reduceToNat, Int.reduceAdd, Int.reduceSub, Int.reduceLT, Int.reduceLE, Nat.reduceSub, Nat.reduceMul, Nat.reduceEqDiff, hix, hb0, hs, ln_over, ln_put, q1, q2, H4, c0, c1]
   have ha4 := ha.at H4 (by simp)
   refine run_updM Tryz.underlying58 keyS (N1.ext ha (by simp)) x.t (p.n : Int) fun w3 U1 hx3 => ?_
   have hne : r2 ≠ r1 := by omega
   have U2 := (N2.ext ha (by simp)).ext hx3 (by simpa using hne)
   have h34 := hx3.at ha4 (by simp; omega)
   have l34 := lt_of_at h34
   have hbx : (w2.alloc (.cells (lnC x).toArray 65)).heap[w2.heap.size]? = some (.cells (lnC x).toArray 65 (0, 0)) := alloc_at rfl
   have lr1 := N1.lt
   have hbx3 := hx3.at hbx (by simp; omega)
   have hzi : ∀ w, (zeroValue 3).run Tryz.prog w = .ok (iV64 0) w := fun w => by rw [Tryz.zeroValue3]; rfl
   have hlk : ∀ w, w = w3 -> (Instr.lookup 58 (.map (some r2)) (.string ⟨x.t.toArray⟩) false).run Tryz.prog w = .ok (.int .i64 ((p.t x.t).getD 0)) w := fun w hw => by
    subst hw
    have := run_lookM Tryz.underlying58 keyS hzi U2 x.t false
    rw [show (Value.string ⟨x.t.toArray⟩) = sV x.t from rfl, this]
    cases p.t x.t <;> rfl
   have hlk3 := hlk w3 rfl
   have lbx := lt_of_at hbx3
   simp (disch := first | exact qD7 | fail) only [qG2, Nat.reduceAdd, Nat.reduceLeDiff, Int.reduceToNat, Int.reduceAdd, Int.reduceSub, Int.reduceLT, Int.reduceLE, Nat.reduceSub, Nat.reduceMul, Nat.reduceEqDiff, h34, c1, hbx3, q1, hlk3]
   refine run_updM Tryz.underlying58 keyS U2 x.t ((p.t x.t).getD 0 + 1) fun w4 V2 hx4 => ?_
   have V1 := U1.ext hx4 (by simpa using Ne.symm hne)
   simp (disch := first | exact qD7 | fail) only [qG2, Nat.reduceAdd, Nat.reduceLeDiff, Int.reduceToNat, Int.reduceAdd, Int.reduceSub, Int.reduceLT, Int.reduceLE, Nat.reduceSub, Nat.reduceMul, Nat.reduceEqDiff, List.getD_cons_zero]
   refine hfin w4 V1 V2 ?_
   have y1 : Ext [r1, r2] w2 (w2.alloc (.cells (lnC x).toArray 65)) := ha.mono (T := [r1, r2]) (by simp)
   have y3 := hx3.mono (T := [r1, r2]) (by simp)
   have y4 := hx4.mono (T := [r1, r2]) (by simp)
   exact (y1.trans y3 (fun k hk => .inl hk)).trans y4 (fun k hk => .inl hk)
 ·obtain rfl : k = L.length := by omega
  rw [List.take_length] at N1 N2 ⊢
  simp (disch := first | exact qD7 | fail) only [qG2, Nat.reduceAdd, Nat.reduceLeDiff, Int.reduceToNat, Int.reduceAdd, Int.reduceSub, Int.reduceLT, Int.reduceLE, Nat.reduceSub, Nat.reduceMul, Nat.reduceEqDiff, List.getD_cons_zero, List.getD_cons_succ, H4, H0, mkC_sub, z1, z2]
  have hxe : Ext [] w (World.upd w2 s0 (mkC r1 r2)) := by
   have := hs1.trans hx2 (by simp; omega)
   exact this.upd _ (.inr (by omega))
  exact hK r1 r2 _ (N1.ext (Ext.updI (S := [s0]) (by simp) Ext.refl) (by simp; omega)) (N2.ext (Ext.updI (S := [s0]) (by simp) Ext.refl) (by simp; omega)) (by omega) (by omega) (by omega) hxe
open Go.Fx
set_option maxRecDepth 100000
/-- a word's cell. -/
def wC (n : Nat) : List Value := [.int .u32 (n : Nat)]
theorem wC_all (l : List Nat) : ∀ r ∈ l.map wC, r.all (fun v => v.oneCell') = true := by
 intro r hr
 obtain ⟨l, -, rfl⟩ := List.mem_map.1 hr
 rfl
theorem info_u32 : ∃ (i : TypeInfo) (z : Value), Tryz.prog.info? 71 = some i /\ i.zero = some z /\ i.size = 1 /\ i.bytes = 4 /\ z.cells.size = 1 := by
 have h : (Tryz.prog.info? 71).map (fun i => (i.size, i.bytes, i.zero.map (fun z => z.cells.size))) = some (1, 4, some 1) := by kernel_rfl
 obtain ⟨i, h2, h3⟩ := Option.map_eq_some_iff.1 h
 simp only [Prod.mk.injEq] at h3
 obtain ⟨h4, h5, h6⟩ := h3
 obtain ⟨z, h7, h8⟩ := Option.map_eq_some_iff.1 h6
 exact ⟨i, z, h2, h7, h4, h5, h8⟩
theorem appU {base : Nat} {v x : Value} {rows rows2 : List (List Value)} {w : World} {K : Value -> World -> Prop} (hown : OwnR w base 71 1 v rows) (hx : RowsAt w x 1 rows2) (h1 : ∀ r ∈ rows2, r.all (fun v => v.oneCell') = true)
  (hl : rows.length + rows2.length <= 1000000) (hbase : base <= w.heap.size) (hK : ∀ v' w', OwnR w' base 71 1 v' (rows ++ rows2) -> App base v w w' -> K v' w') : resV K ((Builtin.append_ #[22, 22] 22 #[v, x]).run Tryz.prog w) :=
 kV_appR Tryz.underlying22 (by kernel_rfl) (by omega) (bytes := 4) hown hx h1 (by simp only [maxLen]; omega) (by omega) hbase hK
theorem appU2 {base k : Nat} {v : Value} {rows : List (List Value)} {w : World} {g : Nat} (hown : OwnR w base 71 1 v rows) (hx : w.heap[g]? = some (.cells (wC k).toArray 71 (0, 0)))
  (hl : rows.length + 1 <= 1000000) (hbase : base <= w.heap.size) {K : Value -> World -> Prop} (hK : ∀ v' w', OwnR w' base 71 1 v' (rows ++ [wC k]) -> App base v w w' -> (∀ b, blockOf v' = some b -> blockOf v = some b ∨ b = w.heap.size) -> K v' w') : resV K ((Builtin.append_ #[22, 22] 22 #[v, .slice (some ⟨g, 0, none⟩) 1 1]).run Tryz.prog w) := by
 obtain ⟨i, z, i1, i2, i3, i4, i5⟩ := info_u32
 have hO : w.ownsRow base 71 1 v rows.length rows.flatten := by
  obtain ⟨h1, h2⟩ := hown.own
  refine ⟨h1, h2.imp id ?_⟩
  rintro ⟨g, cap, cur, rfl, h3, h4, h5, h6, h7, h8⟩
  exact ⟨g, cap, cur.toArray, rfl, h3, h4, h5, h6, by simpa using h7, by simpa using h8⟩
 obtain ⟨v2, w2, hr, -, -, -, hb⟩ := run_append_own_at (P := Tryz.prog) w base 22 22 71 i z 1 4 Tryz.underlying22 i1 i2 i3 i4 i5 (by omega) v rows.length rows.flatten hO ⟨g, 0, none⟩ 1 1 (wC k) rfl (fun j u hj => by
   refine cell_list (n := 1) hx j u ?_
   rw [show sub (wC k) 0 1 = wC k from rfl]
   exact hj) (by simp [wC]; rfl) (by simp only [maxLen]; omega) (by omega) hbase
 have h := appU (K := fun v' w' => OwnR w' base 71 1 v' (rows ++ [wC k]) /\ App base v w w') hown (RowsAt.one (l := wC k) hx rfl) (wC_all [k]) (by simp; omega) hbase (fun v' w' h1 h2 => ⟨h1, h2⟩)
 rw [hr] at h ⊢
 refine hK _ _ h.1 h.2 fun b hv => ?_
 have e : ∀ v : Value, v.ownBlock = blockOf v := fun v => by
  unfold Value.ownBlock blockOf
  rfl
 rw [e, e] at hb
 rcases hb with h3 | h3
 ·exact .inl (by rw [<- h3]; exact hv)
 ·rw [h3] at hv
  exact .inr (Option.some.inj hv).symm
/-- a line's words behind words. -/
def innerF (A T : List UInt8 -> Option Int) : List (List UInt8) -> List Nat -> Option (List Nat)
 | [], out => some out
 | s :: l, out => if (parseF (toldF A T s out.length)).2 && encOk (parseF (toldF A T s out.length)).1 then innerF A T l (out ++ [encR (parseF (toldF A T s out.length)).1]) else none
/-- lines' words; or the line that is wrong. -/
def asmGo (st : List UInt8 -> List (List UInt8)) (A T : List UInt8 -> Option Int) : List Ln -> (List UInt8 -> Bool) -> List Nat -> Except Nat (List Nat)
 | [], _, out => .ok out
 | x :: L, met, out => if x.m then (if met x.t then .error x.n else asmGo st A T L (fun b => if b = x.t then true else met b) out) else
  match innerF A T (st x.t) out with
  | some out' => asmGo st A T L met out'
  | none => .error x.n
theorem parseF_ok (s : List UInt8) : izOk (parseF s).1 := by
 have zz : in64 0 := ⟨by decide, by decide⟩
 have hz : izOk izZ := ⟨zz, zz, zz, zz, zz⟩
 have hof := findN_lt (Lib.cut s [32]).1 69 0 rfl
 have hp : izOk (parseP s).1 := by
  unfold parseP
  suffices h : ∀ (z : List (UInt8 × List UInt8)) (p : IZ × Bool), izOk p.1 -> izOk (z.foldl stepP p).1 by
   refine h _ _ ⟨?_, zz, zz, zz, zz⟩
   show in64 (parseOp s : Int)
   unfold parseOp in64
   omega
  intro z
  induction z with
  | nil => intro p h; exact h
  | cons x z ih => intro p h; rw [List.foldl_cons]; exact ih _ (stepP_ok h)
 unfold parseF
 split
 ·exact hz
 ·split
  ·exact hp
  ·exact hz
open Go.Fx
set_option maxRecDepth 100000
def bV (b : Bool) : Value := .bool b
theorem GmX {w w' : World} {S : List Nat} (h : Gm w) (hx : Ext S w w') (h0 : 0 ∉ S) : Gm w' := by
 obtain ⟨g0, m, hm⟩ := h
 have hk0 := hx.kept 0 g0 h0
 refine ⟨by have := hx.size; omega, m, ?_⟩
 rw [<- hm]
 unfold World.cell?
 rw [hk0]
theorem toldF_len (A T : List UInt8 -> Option Int) (s : List UInt8) (n : Int) : (toldF A T s n).length <= s.length + 21 := by
 unfold toldF
 split
 ·omega
 ·split
  ·omega
  ·have := dec_len (n := ((A (s.drop (toldK s + 1).toNat)).getD 0 - n) * 4)
   rw [List.length_append, List.length_take]
   omega
set_option maxHeartbeats 2000000 in
theorem Assemble_spec {w : World} {s : List UInt8} {st : List UInt8 -> List (List UInt8)} (hst : ∀ t, (st t).length <= 2) (hg : Gm w) (hs : s.length <= 16384) (hok : ∀ x ∈ linesFrom 0 (Lib.split s [10]), x.m = false -> StandsOK x.t (st x.t) /\ ∀ y ∈ st x.t, y.length <= 1000000)
  (hn : (countF st (linesFrom 0 (Lib.split s [10]))).n <= 1024) (hll : (linesFrom 0 (Lib.split s [10])).length <= 20001) (hpos : ∀ x ∈ linesFrom 0 (Lib.split s [10]), 0 < x.n /\ x.n <= 1000000) {K : Value -> World -> Prop}
  (hK : match asmGo st (countF st (linesFrom 0 (Lib.split s [10]))).a (countF st (linesFrom 0 (Lib.split s [10]))).t (linesFrom 0 (Lib.split s [10])) (fun _ => false) [] with
   | .ok out => ∀ v w', RowsAt w' v 1 (out.map wC) -> Ext [] w w' -> (∀ b, blockOf v = some b -> w.heap.size <= b) -> K (.tuple #[v, .int .i64 0, .int .i64 0]) w'
   | .error n => ∀ w', Ext [] w w' -> K (.tuple #[.slice none 0 0, .int .i64 (n : Nat), .int .i64 11]) w') : callsK Tryz.prog 4 #[.string ⟨s.toArray⟩] w K := by
 apply F4_ok
 unfold F4
 have hls := lenS s
 simp (disch := first | exact qD7 | fail) only [qG2, Nat.reduceAdd, Nat.reduceLeDiff, Int.reduceToNat, Int.reduceAdd, Int.reduceSub, Int.reduceLT, Int.reduceLE, Nat.reduceSub, Nat.reduceMul, Nat.reduceEqDiff, hls]
 refine lines_spec hg (by omega) fun v w1 hv hx1 hvb => ?_
 generalize linesFrom 0 (Lib.split s [10]) = L at *
 have hlv := hv.lenR (ty := 3) Tryz.underlying56
 rw [List.length_map] at hlv
 refine count_spec hst (hg.ext hx1) hv hll (fun x hx hm => (hok x hx hm).1) fun r1 r2 w2 M1 M2 hr1 hr2 hr12 hx2 => ?_
 have hA := countF_a hst L
 have hT := countF_t (st := st) L
 generalize countF st L = c at *
 have hm : ∀ w, (Instr.makeMap 63 none).run Tryz.prog w = .ok (.map (some w.heap.size)) (w.alloc (.map #[] 0)) := fun w => run_mkM _ w
 have z1 := mk_over
 have z2 := mk_put
 have hxb : Ext [] w2 ((w2.alloc (.cells (mkC r1 r2).toArray 60)).alloc (.map #[] 0)) := Ext.allocM (Ext.alloc Ext.refl _ _)
 have e1 : (w2.alloc (.cells (mkC r1 r2).toArray 60)).heap.size = w2.heap.size + 1 := by simp (disch := first | exact qD7 | fail) only [qG2, Nat.reduceAdd, Nat.reduceLeDiff, Int.reduceToNat, Int.reduceAdd, Int.reduceSub, Int.reduceLT, Int.reduceLE, Nat.reduceSub, Nat.reduceMul, Nat.reduceEqDiff]
 have G6 : ((w2.alloc (.cells (mkC r1 r2).toArray 60)).alloc (.map #[] 0)).heap[w2.heap.size]? = some (.cells (mkC r1 r2).toArray 60 (0, 0)) := by
  have h0 : (w2.alloc (.cells (mkC r1 r2).toArray 60)).heap[w2.heap.size]? = some (.cells (mkC r1 r2).toArray 60 (0, 0)) := alloc_at rfl
  exact (Ext.allocM (S := []) (es := #[]) (c := 0) Ext.refl).at h0 (by simp)
 have M3 : MapF ((w2.alloc (.cells (mkC r1 r2).toArray 60)).alloc (.map #[] 0)) (w2.heap.size + 1) sV bV (fun _ => none) := by
  have := MapF.make (w := w2.alloc (.cells (mkC r1 r2).toArray 60)) (kf := sV) (vf := bV)
  rwa [e1] at this
 simp (disch := first | exact qD7 | fail) only [qG2, Nat.reduceAdd, Nat.reduceLeDiff, Int.reduceToNat, Int.reduceAdd, Int.reduceSub, Int.reduceLT, Int.reduceLE, Nat.reduceSub, Nat.reduceMul, Nat.reduceEqDiff, z1, z2, hm]
 refine joinL.intro fun J0 hJ0 => ?_
 have hr1w := M1.lt
 have hr2w := M2.lt
 replace M1 := M1.ext hxb (by simp)
 replace M2 := M2.ext hxb (by simp)
 have hx12 := hx1.trans hx2 (by simp)
 have hxw := hx12.trans hxb (by simp)
 have hv5 := (hv.ext hx2 (by simp)).ext hxb (by simp)
 have hvlt : ∀ b, L.map lnC ≠ [] -> blockOf v = some b -> b < w2.heap.size := fun b h hb => (hv.ext hx2 (by simp)).blt h b hb
 have lr1 := hx1.size
 obtain ⟨r3, hr3⟩ : ∃ r3, r3 = w2.heap.size + 1 := ⟨_, rfl⟩
 obtain ⟨b6, hb6⟩ : ∃ b6, b6 = w2.heap.size := ⟨_, rfl⟩
 have ext2 := hx2.size
 rw [<- hr3] at M3 ⊢
 rw [<- hb6] at G6 ⊢
 clear hm hxb e1
 have hg5 : Gm ((w2.alloc (.cells (mkC r1 r2).toArray 60)).alloc (.map #[] 0)) := hg.ext hxw
 have hw0 : 0 < w.heap.size := hg.1
 generalize ((w2.alloc (.cells (mkC r1 r2).toArray 60)).alloc (.map #[] 0)) = w5 at *
 have lM3 := M3.lt
 have hdone : ∀ out v' w', asmGo st c.a c.t L (fun _ => false) [] = .ok out -> RowsAt w' v' 1 (out.map wC) -> (∀ b, blockOf v' = some b -> w.heap.size <= b) -> Ext [r3] w5 w' -> J0 [.int .i64 0, v'] w' := by
  intro out v' w' he hv' hb' hx'
  rw [he] at hK
  apply hJ0
  intro _
  simp (disch := first | exact qD7 | fail) only [qG2, Nat.reduceAdd, Nat.reduceLeDiff, Int.reduceToNat, Int.reduceAdd, Int.reduceSub, Int.reduceLT, Int.reduceLE, Nat.reduceSub, Nat.reduceMul, Nat.reduceEqDiff, List.getD_cons_zero, List.getD_cons_succ]
  exact hK v' w' hv' (hxw.trans hx' (by intro k hk; simp at hk; omega)) hb'
 have hfail : ∀ (n : Nat) v' w', asmGo st c.a c.t L (fun _ => false) [] = .error n -> 0 < n -> n <= 1000000 -> Ext [r3] w5 w' -> J0 [.int .i64 (n : Nat), v'] w' := by
  intro n v' w' he h0 h1 hx'
  rw [he] at hK
  apply hJ0
  intro _
  simp (disch := first | exact qD7 | fail) only [qG2, Nat.reduceAdd, Nat.reduceLeDiff, Int.reduceToNat, Int.reduceAdd, Int.reduceSub, Int.reduceLT, Int.reduceLE, Nat.reduceSub, Nat.reduceMul, Nat.reduceEqDiff, List.getD_cons_zero, List.getD_cons_succ]
  exact hK w' (hxw.trans hx' (by intro k hk; simp at hk; omega))
 simp (disch := first | exact qD7 | fail) only [qG2, Nat.reduceAdd, Nat.reduceLeDiff, Int.reduceToNat, Int.reduceAdd, Int.reduceSub, Int.reduceLT, Int.reduceLE, Nat.reduceSub, Nat.reduceMul, Nat.reduceEqDiff, hlv]
 refine loopT.intro (fun ss w' => ∃ (k : Nat) (v' : Value) (met : List UInt8 -> Bool) (f : List UInt8 -> Option Bool) (out : List Nat), k <= L.length /\ ss = [.int .i64 0, v', .int .i64 (k : Nat)] /\ (∀ b, (f b).getD false = met b) /\ MapF w' r3 sV bV f /\ out.length <= 2 * k /\ OwnR w' w5.heap.size 71 1 v' (out.map wC) /\ asmGo st c.a c.t L (fun _ => false) [] = asmGo st c.a c.t (L.drop k) met out /\ Ext [r3] w5 w')
  (fun st _ => match st with
   | [_, _, .int _ z] => L.length - z.toNat
   | _ => 0) ⟨0, _, _, _, [], Nat.zero_le _, rfl, fun b => rfl, M3, Nat.zero_le _, OwnR.nil, rfl, Ext.refl⟩ ?_
 rintro ss w6 ⟨k, v6, met, f, out, hk, rfl, hf, N3, hol, ho, hasm, hx6⟩ _
 by_cases h4 : k < L.length
 ·obtain ⟨x, hx⟩ : ∃ x, L[k]? = some x := ⟨_, List.getElem?_eq_getElem h4⟩
  have hxm := List.mem_of_getElem? hx
  have hdrop : L.drop k = x :: L.drop (k + 1) := by
   obtain ⟨_, rfl⟩ := List.getElem?_eq_some_iff.1 hx
   exact List.drop_eq_getElem_cons h4
  rw [hdrop] at hasm
  have hrow : (L.map lnC)[k]? = some (lnC x) := by rw [List.getElem?_map, hx]; rfl
  have hv6 := hv5.at' hx6 (fun h b hb => by have := hvlt b h hb; simp; omega)
  obtain ⟨b0, o0, lb, E0, f0, hix, hb0, hfit, hblt, hbk, hsub, hget⟩ := RowsAt.ixR (P := Tryz.prog) (t := 56) Tryz.underlying56 Tryz.sizeOf65 hv6 hrow
  have hsb := hsub o0 rfl
  have q0 : (lnC x)[0]? = some (.int .i64 (x.n : Nat)) := rfl
  have q1 : (lnC x)[1]? = some (.string ⟨x.t.toArray⟩) := rfl
  have q2 : (lnC x)[2]? = some (.bool x.m) := rfl
  have hpx := hpos x hxm
  simp (disch := first | exact qD7 | fail) only [qG2, Nat.reduceAdd, Nat.reduceLeDiff, Int.reduceToNat, Int.reduceAdd, Int.reduceSub, Int.reduceLT, Int.reduceLE, Nat.reduceSub, Nat.reduceMul, Nat.reduceEqDiff, List.getD_cons_zero, List.getD_cons_succ]
  refine joinL.intro fun J4 hJ4 => ?_
  have ha : Ext [] w6 (w6.alloc (.cells (lnC x).toArray 65)) := Ext.alloc Ext.refl _ _
  have hbx : (w6.alloc (.cells (lnC x).toArray 65)).heap[w6.heap.size]? = some (.cells (lnC x).toArray 65 (0, 0)) := alloc_at rfl
  have hnext : ∀ v' met' f' out' w', (∀ b, (f' b).getD false = met' b) -> MapF w' r3 sV bV f' -> out'.length <= out.length + 2 -> OwnR w' w5.heap.size 71 1 v' (out'.map wC) -> asmGo st c.a c.t (x :: L.drop (k + 1)) met out = asmGo st c.a c.t (L.drop (k + 1)) met' out' -> Ext [r3] w5 w' -> J4 [.int .i64 0, v'] w' := by
   intro v' met' f' out' w' a1 a2 a3 a4 a5 a6
   apply hJ4
   intro _
   simp (disch := first | exact qD7 | fail) only [qG2, Nat.reduceAdd, Nat.reduceLeDiff, Int.reduceToNat, Int.reduceAdd, Int.reduceSub, Int.reduceLT, Int.reduceLE, Nat.reduceSub, Nat.reduceMul, Nat.reduceEqDiff, List.getD_cons_zero, List.getD_cons_succ]
   refine ⟨⟨k + 1, v', met', f', out', by omega, rfl, a1, a2, by omega, a4, by rw [hasm, a5], a6⟩, by first | omega | (simp <;> omega)⟩
  cases hm : x.m with
  | true =>
   have hgo1 : asmGo st c.a c.t (x :: L.drop (k + 1)) met out = if met x.t then .error x.n else asmGo st c.a c.t (L.drop (k + 1)) (fun b => if b = x.t then true else met b) out := by
    rw [asmGo, hm]
    rfl
   rw [hm] at q2
   have hzb : ∀ w, (zeroValue 4).run Tryz.prog w = .ok (bV false) w := fun w => by rw [Tryz.zeroValue4]; rfl
   have hlk : ∀ w, w = (w6.alloc (.cells (lnC x).toArray 65)) -> (Instr.lookup 63 (.map (some r3)) (.string ⟨x.t.toArray⟩) false).run Tryz.prog w = .ok (.bool (met x.t)) w := fun w hw => by
    subst hw
    have := run_lookM Tryz.underlying63 keyS hzb (N3.ext ha (by simp)) x.t false
    rw [show (Value.string ⟨x.t.toArray⟩) = sV x.t from rfl, this, <- hf x.t]
    cases f x.t <;> rfl
   have hlk6 := hlk _ rfl
   cases hmet : met x.t with
   | true =>
    rw [hmet] at hgo1 hlk6
    simp (disch := first | exact qD7 | fail) only [qG2, Nat.reduceAdd, Nat.reduceLeDiff, Int.reduceToNat, Int.reduceAdd, Int.reduceSub, Int.reduceLT, Int.reduceLE, Nat.reduceSub, Nat.reduceMul, Nat.reduceEqDiff, joinBR, hix, hb0, hsb, ln_over, ln_put, q0, q1, q2, hlk6, List.getD_cons_zero, List.getD_cons_succ]
    exact hfail x.n v6 _ (hasm.trans hgo1) hpx.1 hpx.2 (hx6.trans ha (by simp))
   | false =>
    rw [hmet] at hgo1 hlk6
    simp (disch := first | exact qD7 | fail) only [qG2, Nat.reduceAdd, Nat.reduceLeDiff, Int.reduceToNat, Int.reduceAdd, Int.reduceSub, Int.reduceLT, Int.reduceLE, Nat.reduceSub, Nat.reduceMul, Nat.reduceEqDiff, joinBR, hix, hb0, hsb, ln_over, ln_put, q0, q1, q2, hlk6, List.getD_cons_zero, List.getD_cons_succ]
    refine run_updM Tryz.underlying63 keyS (N3.ext ha (by simp)) x.t true fun w7 U hx7 => ?_
    simp (disch := first | exact qD7 | fail) only [qG2, Nat.reduceAdd, Nat.reduceLeDiff, Int.reduceToNat, Int.reduceAdd, Int.reduceSub, Int.reduceLT, Int.reduceLE, Nat.reduceSub, Nat.reduceMul, Nat.reduceEqDiff, joinBR, List.getD_cons_zero, List.getD_cons_succ]
    refine hnext v6 _ _ out w7 (fun b => ?_) U (by omega) ((ho.ext ha (by simp)).ext hx7 (fun b hb => ?_)) hgo1 ((hx6.trans ha (by simp)).trans hx7 (fun k hk => .inl hk))
    ·by_cases hbx : b = x.t
     ·simp [hbx]
     ·simp only [if_neg hbx]
      exact hf b
    ·have := ho.block b hb
     simp
     omega
  | false =>
   have hgo1 : asmGo st c.a c.t (x :: L.drop (k + 1)) met out = match innerF c.a c.t (st x.t) out with | some out' => asmGo st c.a c.t (L.drop (k + 1)) met out' | none => .error x.n := by
    rw [asmGo, hm]
    rfl
   obtain ⟨hokx, hlx⟩ := hok x hxm hm
   have hl2 := hst x.t
   rw [hm] at q2
   simp (disch := first | exact qD7 | fail) only [qG2, Nat.reduceAdd, Nat.reduceLeDiff, Int.reduceToNat, Int.reduceAdd, Int.reduceSub, Int.reduceLT, Int.reduceLE, Nat.reduceSub, Nat.reduceMul, Nat.reduceEqDiff, joinBR, hix, hb0, hsb, ln_over, ln_put, q0, q1, q2, List.getD_cons_zero, List.getD_cons_succ]
   have hg6 : Gm w6 := GmX hg5 hx6 (by simp; omega)
   refine hokx _ _ (hg6.ext ha) fun v40 w7 hv40 hx7 hb40 => ?_
   have hl3 := hv40.lenR (ty := 3) Tryz.underlying66
   rw [List.length_map] at hl3
   have hbx7 := hx7.at hbx (by simp)
   have hx67 := ha.trans hx7 (by simp)
   obtain ⟨b12, hb12⟩ : ∃ b12, b12 = w6.heap.size := ⟨_, rfl⟩
   have hsz6 : (w6.alloc (.cells (lnC x).toArray 65)).heap.size = w6.heap.size + 1 := by simp (disch := first | exact qD7 | fail) only [qG2, Nat.reduceAdd, Nat.reduceLeDiff, Int.reduceToNat, Int.reduceAdd, Int.reduceSub, Int.reduceLT, Int.reduceLE, Nat.reduceSub, Nat.reduceMul, Nat.reduceEqDiff]
   rw [hsz6, <- hb12] at hb40
   rw [<- hb12] at hbx7 ⊢
   generalize st x.t = l at *
   simp (disch := first | exact qD7 | fail) only [qG2, Nat.reduceAdd, Nat.reduceLeDiff, Int.reduceToNat, Int.reduceAdd, Int.reduceSub, Int.reduceLT, Int.reduceLE, Nat.reduceSub, Nat.reduceMul, Nat.reduceEqDiff, hl3]
   refine loopT.intro (fun ss w' => ∃ (j : Nat) (v' : Value) (out' : List Nat), j <= l.length /\ ss = [.int .i64 0, v', .int .i64 (j : Nat)] /\ out'.length = out.length + j /\ OwnR w' w5.heap.size 71 1 v' (out'.map wC) /\ innerF c.a c.t l out = innerF c.a c.t (l.drop j) out' /\ Ext [r3] w5 w' /\ RowsAt w' v40 1 (l.map sC) /\ w'.heap[b12]? = some (.cells (lnC x).toArray 65 (0, 0)) /\ (∀ b, blockOf v' = some b -> b ≠ b12 /\ blockOf v40 ≠ some b) /\ MapF w' r3 sV bV f)
    (fun st _ => match st with
     | [_, _, .int _ z] => l.length - z.toNat
     | _ => 0) ⟨0, v6, out, Nat.zero_le _, by simp, rfl, ho.ext hx67 (by simp), rfl, hx6.trans hx67 (by simp), hv40, hbx7, fun b hb => ?_, N3.ext hx67 (by simp)⟩ ?_
   ·have q := ho.blt b hb
    refine ⟨by omega, fun h => ?_⟩
    have := hb40 b h
    omega
   rintro ss w8 ⟨j, v8, out8, hj, rfl, hl8, ho8, hin8, hx8, hv8, hbx8, hbl8, N8⟩ _
   by_cases h5 : j < l.length
   ·obtain ⟨y, hy⟩ : ∃ y, l[j]? = some y := ⟨_, List.getElem?_eq_getElem h5⟩
    have hyl := hlx y (List.mem_of_getElem? hy)
    have hdrop2 : l.drop j = y :: l.drop (j + 1) := by
     obtain ⟨_, rfl⟩ := List.getElem?_eq_some_iff.1 hy
     exact List.drop_eq_getElem_cons h5
    rw [hdrop2, innerF] at hin8
    have hrow2 : (l.map sC)[j]? = some (sC y) := by rw [List.getElem?_map, hy]; rfl
    obtain ⟨b1, o1, lb1, E1, f1, hix1, hb1, hfit1, hblt1, hbk1, hsub1, hget1⟩ := RowsAt.ixR (P := Tryz.prog) (t := 66) Tryz.underlying66 Tryz.sizeOf9 hv8 hrow2
    have hc1 : lb1[o1]? = some (.string ⟨y.toArray⟩) := by simpa [sC] using hget1 (o1 + 0) 0 rfl (by omega)
    have G68 := hx8.at G6 (by simp; omega)
    have l68 := lt_of_at G68
    have lbx8 := lt_of_at hbx8
    have hlo8 := ho8.rows.lenR (ty := 3) Tryz.underlying22
    rw [List.length_map] at hlo8
    have hg8 : Gm w8 := GmX hg5 hx8 (by simp; omega)
    have K1 := M1.ext hx8 (by simp; omega)
    have K2 := M2.ext hx8 (by simp; omega)
    have htl := toldF_len c.a c.t y out8.length
    simp (disch := first | exact qD7 | fail) only [qG2, Nat.reduceAdd, Nat.reduceLeDiff, Int.reduceToNat, Int.reduceAdd, Int.reduceSub, Int.reduceLT, Int.reduceLE, Nat.reduceSub, Nat.reduceMul, Nat.reduceEqDiff, List.getD_cons_zero, List.getD_cons_succ, hix1, hb1, hc1, G68, mkC_sub, hlo8]
    refine told_spec hg8 K1 K2 (fun b a h => by have := hA b a h; omega) hyl (by omega) fun w9 hx9 => ?_
    refine Parse_spec (hg8.ext hx9) (by omega) fun w10 hx10 => ?_
    have hpok := parseF_ok (toldF c.a c.t y out8.length)
    generalize parseF (toldF c.a c.t y out8.length) = pf at *
    have zz1 := iz_over
    have zz2 := iz_put
    rw [show izC izZ = [.int .i64 0, .int .i64 0, .int .i64 0, .int .i64 0, .int .i64 0] from rfl] at zz1 zz2
    simp (disch := first | exact qD7 | fail) only [qG2, Nat.reduceAdd, Nat.reduceLeDiff, Int.reduceToNat, Int.reduceAdd, Int.reduceSub, Int.reduceLT, Int.reduceLE, Nat.reduceSub, Nat.reduceMul, Nat.reduceEqDiff, zz1, zz2, izC_sub]
    refine Encode_spec hpok fun w11 hx11 => ?_
    have hxe : Ext [] w10 (w10.alloc (.cells (izC pf.1).toArray 46)) := Ext.alloc Ext.refl _ _
    have hx811 := ((hx9.trans hx10 (by simp)).trans hxe (by simp)).trans hx11 (by simp)
    have hbx11 := hx811.at hbx8 (by simp)
    have lbx11 := lt_of_at hbx11
    cases hpo : (pf.2 && encOk pf.1) with
    | false =>
     rw [hpo] at hin8
     rw [hin8] at hgo1
     have hfl : J0 [.int .i64 (x.n : Nat), v8] w11 := hfail x.n v8 w11 (hasm.trans hgo1) hpx.1 hpx.2 (hx8.trans hx811 (by simp))
     cases hp2 : pf.2 with
     | false =>
      simp (disch := first | exact qD7 | fail) only [qG2, Nat.reduceAdd, Nat.reduceLeDiff, Int.reduceToNat, Int.reduceAdd, Int.reduceSub, Int.reduceLT, Int.reduceLE, Nat.reduceSub, Nat.reduceMul, Nat.reduceEqDiff, joinBR, hbx11, q0, List.getD_cons_zero, List.getD_cons_succ]
      exact hfl
     | true =>
      rw [hp2, Bool.true_and] at hpo
      simp (disch := first | exact qD7 | fail) only [qG2, Nat.reduceAdd, Nat.reduceLeDiff, Int.reduceToNat, Int.reduceAdd, Int.reduceSub, Int.reduceLT, Int.reduceLE, Nat.reduceSub, Nat.reduceMul, Nat.reduceEqDiff, joinBR, hpo, hbx11, q0, List.getD_cons_zero, List.getD_cons_succ]
      exact hfl
    | true =>
     rw [hpo] at hin8
     rw [Bool.and_eq_true] at hpo
     obtain ⟨hp2, hp1⟩ := hpo
     simp (disch := first | exact qD7 | fail) only [qG2, Nat.reduceAdd, Nat.reduceLeDiff, Int.reduceToNat, Int.reduceAdd, Int.reduceSub, Int.reduceLT, Int.reduceLE, Nat.reduceSub, Nat.reduceMul, Nat.reduceEqDiff, joinBR, hp1, hp2, List.getD_cons_zero, List.getD_cons_succ]
     have hxs : Ext [] w11 (w11.alloc (.cells (wC (encR pf.1)).toArray 71)) := Ext.alloc Ext.refl _ _
     have hxs8 := hx811.trans hxs (by simp)
     refine appU2 (k := encR pf.1) (ho8.ext hxs8 (by simp)) (alloc_at rfl) (by simp; omega) (by have := hx8.size; have := hxs8.size; omega) fun v12 w12 ho12 ha12 hbl12 => ?_
     rw [show out8.map wC ++ [wC (encR pf.1)] = (out8 ++ [encR pf.1]).map wC by simp] at ho12
     have hx12 := ha12.ext w5 [r3] (Nat.le_refl _) (hx8.trans hxs8 (by simp))
     have hsz8 := hxs8.size
     have lbx8' := lt_of_at hbx8
     simp (disch := first | exact qD7 | fail) only [qG2, Nat.reduceAdd, Nat.reduceLeDiff, Int.reduceToNat, Int.reduceAdd, Int.reduceSub, Int.reduceLT, Int.reduceLE, Nat.reduceSub, Nat.reduceMul, Nat.reduceEqDiff, List.getD_cons_zero, List.getD_cons_succ]
     refine ⟨⟨j + 1, v12, out8 ++ [encR pf.1], by omega, rfl, by simp; omega, ho12, hin8, hx12, (hv8.ext hxs8 (by simp)).at' ha12.step (fun h b hb => ?_), (ha12.kept b12 (by omega) (fun e => (hbl8 b12 e).1 rfl)).trans (hxs8.at hbx8 (by simp)), fun b hb => ?_, (N8.ext hxs8 (by simp)).ext ha12.step (fun h => ?_)⟩, by first | omega | (simp <;> omega)⟩
     ·intro hbb
      rw [Option.mem_toList] at hbb
      exact (hbl8 b hbb).2 hb
     ·rcases hbl12 b hb with h | h
      ·exact hbl8 b h
      ·have q2 : ∀ b', blockOf v40 = some b' -> b' < w8.heap.size := fun b' hb' => hv8.blt (fun h => by rw [List.map_eq_nil_iff] at h; rw [h] at h5; exact absurd h5 (by simp)) b' hb'
       refine ⟨by omega, fun h' => ?_⟩
       have := q2 b h'
       omega
     ·rw [Option.mem_toList] at h
      have := ho8.block r3 h
      omega
   ·obtain rfl : j = l.length := by omega
    rw [List.drop_length, innerF] at hin8
    rw [hin8] at hgo1
    simp (disch := first | exact qD7 | fail) only [qG2, Nat.reduceAdd, Nat.reduceLeDiff, Int.reduceToNat, Int.reduceAdd, Int.reduceSub, Int.reduceLT, Int.reduceLE, Nat.reduceSub, Nat.reduceMul, Nat.reduceEqDiff, List.getD_cons_zero, List.getD_cons_succ]
    exact hnext v8 met f out8 w8 hf N8 (by omega) ho8 hgo1 hx8
 ·obtain rfl : k = L.length := by omega
  rw [List.drop_length] at hasm
  simp (disch := first | exact qD7 | fail) only [qG2, Nat.reduceAdd, Nat.reduceLeDiff, Int.reduceToNat, Int.reduceAdd, Int.reduceSub, Int.reduceLT, Int.reduceLE, Nat.reduceSub, Nat.reduceMul, Nat.reduceEqDiff, List.getD_cons_zero, List.getD_cons_succ]
  exact hdone out v6 w6 hasm ho.rows (fun b hb => by have := ho.block b hb; have := hxw.size; omega) hx6
open Go.Fx
set_option maxRecDepth 100000
theorem index_none {c : UInt8} {t : List UInt8} : ∀ {x : List UInt8}, c ∉ x -> Lib.index x (c :: t) = -1
 | [], _ => rfl
 | b :: x, h => by
  rw [List.mem_cons, not_or] at h
  have ih := index_none (t := t) h.2
  unfold Lib.index
  have h1 : (c :: t).isPrefixOf (b :: x) = false := by
   rw [List.isPrefixOf_cons_cons]
   have : (c == b) = false := by rw [beq_eq_false_iff_ne]; exact h.1
   rw [this, Bool.false_and]
  rw [h1, ih]
  rfl
theorem isPrefix_self (p r : List UInt8) : p.isPrefixOf (p ++ r) = true := by
 rw [List.isPrefixOf_iff_prefix]
 exact List.prefix_append p r
theorem index_at {c : UInt8} {t r : List UInt8} : ∀ {x : List UInt8}, c ∉ x -> Lib.index (x ++ (c :: t ++ r)) (c :: t) = x.length
 | [], _ => by
  have := isPrefix_self (c :: t) r
  rw [List.nil_append, List.cons_append] at *
  unfold Lib.index
  rw [this]
  rfl
 | b :: x, h => by
  rw [List.mem_cons, not_or] at h
  have ih := index_at (t := t) (r := r) h.2
  rw [List.cons_append]
  unfold Lib.index
  have h1 : (c :: t).isPrefixOf (b :: (x ++ (c :: t ++ r))) = false := by
   rw [List.isPrefixOf_cons_cons]
   have : (c == b) = false := by rw [beq_eq_false_iff_ne]; exact h.1
   rw [this, Bool.false_and]
  rw [h1, ih]
  have : ((x.length : Int) == -1) = false := by rw [beq_eq_false_iff_ne]; omega
  simp [this]
theorem cut_at {c : UInt8} {t x r : List UInt8} (h : c ∉ x) : Lib.cut (x ++ (c :: t ++ r)) (c :: t) = (x, r, true) := by
 unfold Lib.cut
 rw [index_at h, if_pos (by omega), Int.toNat_natCast]
 rw [List.take_left, <- List.append_assoc, List.drop_left' (by simp)]
theorem cut_none {c : UInt8} {t x : List UInt8} (h : c ∉ x) : Lib.cut x (c :: t) = (x, [], false) := by
 unfold Lib.cut
 rw [index_none h, if_neg (by omega)]
theorem split_none {c : UInt8} {t x : List UInt8} (h : c ∉ x) : Lib.split x (c :: t) = [x] := by
 unfold Lib.split
 rw [Lib.count_miss (index_none h)]
 rfl
theorem split_at {c : UInt8} {t x r : List UInt8} (h : c ∉ x) : Lib.split (x ++ (c :: t ++ r)) (c :: t) = x :: Lib.split r (c :: t) := by
 unfold Lib.split
 have hi := index_at (t := t) (r := r) h
 have hd : (x ++ (c :: t ++ r)).drop (x.length + (c :: t).length) = r := by
  rw [<- List.append_assoc, List.drop_left' (by simp)]
 rw [Lib.count_hit (by simp) hi, hd, Nat.add_comm 1, Lib.splitK, hi]
 have : ((x.length : Int) == -1) = false := by rw [beq_eq_false_iff_ne]; omega
 rw [this, Int.toNat_natCast, hd, Nat.add_zero, List.take_left]
 rfl
theorem split_join {c : UInt8} {t : List UInt8} : ∀ {L : List (List UInt8)}, L ≠ [] -> (∀ x ∈ L, c ∉ x) -> Lib.split (Lib.join L (c :: t)) (c :: t) = L
 | [], h, _ => absurd rfl h
 | [x], _, h => by rw [Lib.join_one, split_none (h x (by simp))]
 | x :: y :: L, _, h => by
  have ih := split_join (c := c) (t := t) (L := y :: L) (by simp) (fun z hz => h z (by simp [hz]))
  rw [Lib.join_cons] at ih ⊢
  have e : Lib.joinTail (c :: t) (y :: L) = c :: t ++ (y ++ Lib.joinTail (c :: t) L) := by simp [Lib.joinTail]
  rw [e, split_at (h x (by simp)), ih]
theorem valL_app (a : List UInt8) (b : UInt8) : valL (a ++ [b]) = valL a * 10 + (b.toNat - 48) := by
 unfold valL
 rw [List.foldl_append]
 rfl
theorem dig_nat {d : Nat} (h : d < 10) : (UInt8.ofNat (48 + d)).toNat = 48 + d := by
 rw [UInt8.toNat_ofNat']
 omega
theorem digB_dig {d : Nat} (h : d < 10) : digB (UInt8.ofNat (48 + d)) = true := by
 unfold digB
 rw [dig_nat h]
 exact decide_eq_true (by omega)
theorem decF_all : ∀ (f n : Nat), (decF f n).all digB = true
 | 0, n => rfl
 | f + 1, n => by
  by_cases h : n < 10
  ·rw [decF_small h, List.all_cons, digB_dig h]
   rfl
  ·rw [decF_big h, List.all_append, decF_all f, List.all_cons, digB_dig (show n % 10 < 10 by omega)]
   rfl
theorem decF_val : ∀ (f n : Nat), n < 10 ^ f -> 0 < f -> valL (decF f n) = n
 | 0, n, _, h => absurd h (by omega)
 | f + 1, n, hn, _ => by
  by_cases h : n < 10
  ·rw [decF_small h]
   show 0 * 10 + ((UInt8.ofNat (48 + n)).toNat - 48) = n
   rw [dig_nat h]
   omega
  ·have hf : 0 < f := by
    rcases Nat.eq_zero_or_pos f with rfl | h1
    ·simp at hn; omega
    ·exact h1
   rw [decF_big h, valL_app, decF_val f (n / 10) (by rw [Nat.div_lt_iff_lt_mul (by omega), <- Nat.pow_succ]; exact hn) hf, dig_nat (by omega)]
   omega
theorem decF_ne {f n : Nat} (hf : 0 < f) : decF f n ≠ [] := by
 obtain ⟨f, rfl⟩ : ∃ g, f = g + 1 := ⟨f - 1, by omega⟩
 by_cases h : n < 10
 ·rw [decF_small h]; simp
 ·rw [decF_big h]; simp
theorem decF_head : ∀ (f n : Nat), n < 10 ^ f -> 0 < n -> (decF f n)[0]? ≠ some 48
 | 0, n, hn, h => absurd hn (by simp; omega)
 | f + 1, n, hn, h0 => by
  by_cases h : n < 10
  ·rw [decF_small h]
   intro e
   have e2 : UInt8.ofNat (48 + n) = 48 := Option.some.inj e
   have := congrArg UInt8.toNat e2
   rw [dig_nat h] at this
   have h48 : (48 : UInt8).toNat = 48 := rfl
   omega
  ·have hf : 0 < f := by
    rcases Nat.eq_zero_or_pos f with rfl | h1
    ·simp at hn; omega
    ·exact h1
   have hne := decF_ne (n := n / 10) hf
   rw [decF_big h, List.getElem?_append_left (List.length_pos_iff.2 hne)]
   exact decF_head f (n / 10) (by rw [Nat.div_lt_iff_lt_mul (by omega), <- Nat.pow_succ]; exact hn) (by omega)
theorem number_dec {n : Int} (h : -10000000000 < n /\ n < 10000000000) : numberF (dec n) = (n, true) := by
 have p20 : n.natAbs < 10 ^ 20 := by
  have : (10 : Nat) ^ 20 = 100000000000000000000 := by decide
  omega
 have hall := decF_all 20 n.natAbs
 have hval := decF_val 20 n.natAbs p20 (by omega)
 have hne := decF_ne (f := 20) (n := n.natAbs) (by omega)
 have hlen := decF_lenk 10 20 n.natAbs (by omega) (by omega)
 have hh := decF_head 20 n.natAbs p20
 have hdig : ∀ b ∈ decF 20 n.natAbs, digB b = true := List.all_eq_true.1 hall
 have hsm : n.natAbs = 0 -> decF 20 n.natAbs = [48] := fun h => by rw [h]; rfl
 obtain ⟨D, hD⟩ : ∃ D, D = decF 20 n.natAbs := ⟨_, rfl⟩
 have hdec : dec n = if n < 0 then 45 :: D else D := by rw [dec, decN, hD]
 rw [<- hD] at hall hval hne hlen hh hdig hsm
 have h1 : 1 < D.length -> D[0]? ≠ some 48 := by
  intro hl
  by_cases h0 : n.natAbs = 0
  ·rw [hsm h0] at hl
   exact absurd hl (by decide)
  ·exact hh (by omega)
 by_cases hn : n < 0
 ·rw [if_pos hn] at hdec
  have ht : Lib.trimPrefix (dec n) [45] = D := by rw [hdec]; rfl
  have hp : Lib.hasPrefix (dec n) [45] = true := by rw [hdec]; rfl
  unfold numberF
  rw [ht, hp, if_neg, hall, hval]
  ·simp
   omega
  ·rintro (h2 | h2 | h2 | h2)
   ·exact hne h2
   ·omega
   ·exact h1 h2.1 h2.2
   ·have := hh (by omega)
    rw [h2.2] at this
    exact this rfl
 ·rw [if_neg hn] at hdec
  have hp : Lib.hasPrefix (dec n) [45] = false := by
   rw [hdec]
   cases hc : D with
   | nil => exact absurd hc hne
   | cons b D' =>
    have hb := hdig b (by rw [hc]; simp)
    unfold digB at hb
    rw [decide_eq_true_eq] at hb
    show ([45] : List UInt8).isPrefixOf (b :: D') = false
    rw [List.isPrefixOf_cons_cons]
    have : ((45 : UInt8) == b) = false := by
     rw [beq_eq_false_iff_ne]
     rintro rfl
     have h45 : (45 : UInt8).toNat = 45 := rfl
     omega
    rw [this, Bool.false_and]
  have ht : Lib.trimPrefix (dec n) [45] = D := by
   unfold Lib.trimPrefix
   rw [hp, hdec]
   rfl
  unfold numberF
  rw [ht, hp, if_neg, hall, hval]
  ·simp
   omega
  ·rintro (h2 | h2 | h2 | h2)
   ·exact hne h2
   ·omega
   ·exact h1 h2.1 h2.2
   ·exact absurd h2.1 (by decide)
theorem dec_sign {n : Int} : ∀ b ∈ dec n, b = 45 ∨ (48 <= b.toNat /\ b.toNat <= 57) := by
 have hdig : ∀ b ∈ decN n.natAbs, digB b = true := List.all_eq_true.1 (decF_all 20 n.natAbs)
 have h2 : ∀ b ∈ decN n.natAbs, b = 45 ∨ (48 <= b.toNat /\ b.toNat <= 57) := fun b hb => .inr (of_decide_eq_true (hdig b hb))
 intro b hb
 unfold dec at hb
 split at hb
 ·rw [List.mem_cons] at hb
  rcases hb with rfl | hb
  ·exact .inl rfl
  ·exact h2 b hb
 ·exact h2 b hb
open Go.Fx
set_option maxRecDepth 100000
def agreeI (i x : IZ) : Prop := x.op = i.op /\ ((hasS (rowZ i.op).s).1 = true -> x.rd = i.rd) /\ ((hasS (rowZ i.op).s).2.1 = true -> x.r1 = i.r1) /\ ((hasS (rowZ i.op).s).2.2 = true -> x.r2 = i.r2) /\ ((laidS (rowZ i.op).s).1 ≠ [] -> x.im = i.im)
theorem okTr_eq {t : Bool} {a : Nat} {r r' : Int} (h : t = true -> r' = r) : okTr (t, a, r') = okTr (t, a, r) := by
 cases t with
 | false => rfl
 | true => rw [h rfl]
theorem stepR_eq {t : Bool} {a W : Nat} {r r' : Int} (h : t = true -> r' = r) : stepR W (t, a, r') = stepR W (t, a, r) := by
 cases t with
 | false => rfl
 | true => rw [h rfl]
theorem agree_enc {i x : IZ} (h : agreeI i x) : encOk x = encOk i /\ encR x = encR i := by
 obtain ⟨h0, h1, h2, h3, h4⟩ := h
 have e1 := okTr_eq (a := 7) h1
 have e2 := okTr_eq (a := 15) h2
 have e3 := okTr_eq (a := 20) h3
 have f1 := fun W => stepR_eq (a := 7) (W := W) h1
 have f2 := fun W => stepR_eq (a := 15) (W := W) h2
 have f3 := fun W => stepR_eq (a := 20) (W := W) h3
 have hR : (regsI x).all okTr = (regsI i).all okTr := by
  unfold regsI
  rw [h0]
  simp only [List.all_cons, e1, e2, e3]
 have hF : fitsL (laidS (rowZ i.op).s).1.length (laidS (rowZ i.op).s).2.1 (laidS (rowZ i.op).s).2.2.1 (laidS (rowZ i.op).s).2.2.2 x.im = fitsL (laidS (rowZ i.op).s).1.length (laidS (rowZ i.op).s).2.1 (laidS (rowZ i.op).s).2.2.1 (laidS (rowZ i.op).s).2.2.2 i.im := by
  by_cases h : (laidS (rowZ i.op).s).1 = []
  ·rw [h]
   rfl
  ·rw [h4 h]
 have hL : ∀ W, (laidS (rowZ i.op).s).1.foldl (layB x.im) W = (laidS (rowZ i.op).s).1.foldl (layB i.im) W := by
  intro W
  by_cases h : (laidS (rowZ i.op).s).1 = []
  ·rw [h]
   rfl
  ·rw [h4 h]
 have hok : encOk x = encOk i := by
  unfold encOk
  rw [hR, h0]
  dsimp only
  rw [hF]
 have hW : encW x = encW i := by
  unfold encW regsI
  rw [h0]
  dsimp only
  rw [hL]
  simp only [List.foldl_cons, List.foldl_nil, f1, f2, f3]
 refine ⟨hok, ?_⟩
 unfold encR
 rw [hok, hW]
def letB (b : UInt8) : Bool := decide (97 <= b.toNat /\ b.toNat <= 122)
theorem names_ok : (List.range 69).all (fun k => decide (findN (row k).n 69 0 = k + 1) && decide ((row k).n ≠ []) && (row k).n.all letB && decide ((row k).n ≠ [110, 111, 112]) && decide ((row k).n ≠ [114, 101, 116]) && decide ((row k).n ≠ [106]) && decide ((row k).n ≠ [109, 118]) && decide ((row k).n ≠ [108, 105])) = true := by kernel_rfl
theorem name_ok {i : IZ} (h : okOp i.op = true) : (findN (nameR i) 69 0 : Int) = i.op /\ nameR i ≠ [] /\ (∀ b ∈ nameR i, 97 <= b.toNat /\ b.toNat <= 122) /\ nameR i ≠ [110, 111, 112] /\ nameR i ≠ [114, 101, 116] /\ nameR i ≠ [106] /\ nameR i ≠ [109, 118] /\ nameR i ≠ [108, 105] := by
 have hr : rowZ i.op = row (i.op - 1).toNat := by rw [rowZ, h]; rfl
 unfold okOp at h
 rw [decide_eq_true_eq] at h
 have := List.all_eq_true.1 names_ok (i.op - 1).toNat (List.mem_range.2 (by omega))
 simp only [Bool.and_eq_true, decide_eq_true_eq] at this
 obtain ⟨⟨⟨⟨⟨⟨⟨h1, h2⟩, h3⟩, h4⟩, h5⟩, h6⟩, h7⟩, h8⟩ := this
 unfold nameR
 rw [hr]
 refine ⟨by rw [h1]; omega, h2, fun b hb => ?_, h4, h5, h6, h7, h8⟩
 exact of_decide_eq_true (List.all_eq_true.1 h3 b hb)
theorem reg_dec {n : Int} (h : 0 <= n /\ n < 32) : regN (99 :: dec n) = n /\ regOK (99 :: dec n) = true := by
 have ht : Lib.trimPrefix (99 :: dec n) [99] = dec n := rfl
 have hp : Lib.hasPrefix (99 :: dec n) [99] = true := rfl
 have hn := number_dec (n := n) (by omega)
 unfold regN regOK
 rw [ht, hp, hn]
 refine ⟨rfl, ?_⟩
 simp
 omega
theorem order_has (s : Nat) (h : shOk s) : ((hasS s).1 = true ↔ (100 : UInt8) ∈ orderS s) /\ ((hasS s).2.1 = true ↔ (97 : UInt8) ∈ orderS s) /\ ((hasS s).2.2 = true ↔ (98 : UInt8) ∈ orderS s) /\ ((laidS s).1 ≠ [] ↔ (109 : UInt8) ∈ orderS s) /\ (∀ b ∈ orderS s, b = 100 ∨ b = 97 ∨ b = 98 ∨ b = 109) /\ (orderS s).Nodup := by
 rcases h with rfl | rfl | rfl | rfl | rfl | rfl | rfl | rfl | rfl | rfl | rfl <;> decide
theorem fold_back {i : IZ} : ∀ (o : List UInt8) (p : IZ), o.Nodup -> (∀ b ∈ o, b = 100 ∨ b = 97 ∨ b = 98 ∨ b = 109) -> (100 ∈ o -> 0 <= i.rd /\ i.rd < 32) -> (97 ∈ o -> 0 <= i.r1 /\ i.r1 < 32) -> (98 ∈ o -> 0 <= i.r2 /\ i.r2 < 32) -> (109 ∈ o -> -10000000000 < i.im /\ i.im < 10000000000) ->
  ∃ x : IZ, (o.zip (o.map (partF i))).foldl stepP (p, true) = (x, true) /\ x.op = p.op /\ (100 ∈ o -> x.rd = i.rd) /\ (97 ∈ o -> x.r1 = i.r1) /\ (98 ∈ o -> x.r2 = i.r2) /\ (109 ∈ o -> x.im = i.im) /\ (100 ∉ o -> x.rd = p.rd) /\ (97 ∉ o -> x.r1 = p.r1) /\ (98 ∉ o -> x.r2 = p.r2) /\ (109 ∉ o -> x.im = p.im)
 | [], p, _, _, _, _, _, _ => ⟨p, rfl, rfl, by simp, by simp, by simp, by simp, by simp, by simp, by simp, by simp⟩
 | b :: o, p, hnd, hb, h1, h2, h3, h4 => by
  rw [List.nodup_cons] at hnd
  have hb0 := hb b (by simp)
  have key : ∀ p' : IZ, stepP (p, true) (b, partF i b) = (p', true) -> ∃ x : IZ, ((b :: o).zip ((b :: o).map (partF i))).foldl stepP (p, true) = (x, true) /\ x.op = p'.op /\ (100 ∈ o -> x.rd = i.rd) /\ (97 ∈ o -> x.r1 = i.r1) /\ (98 ∈ o -> x.r2 = i.r2) /\ (109 ∈ o -> x.im = i.im) /\ (100 ∉ o -> x.rd = p'.rd) /\ (97 ∉ o -> x.r1 = p'.r1) /\ (98 ∉ o -> x.r2 = p'.r2) /\ (109 ∉ o -> x.im = p'.im) := by
   intro p' he
   obtain ⟨x, hx⟩ := fold_back o p' hnd.2 (fun c hc => hb c (by simp [hc])) (fun h => h1 (by simp [h])) (fun h => h2 (by simp [h])) (fun h => h3 (by simp [h])) (fun h => h4 (by simp [h]))
   refine ⟨x, ?_, hx.2⟩
   rw [List.map_cons, List.zip_cons_cons, List.foldl_cons, he]
   exact hx.1
  rcases hb0 with rfl | rfl | rfl | rfl
  ·obtain ⟨e1, e2⟩ := reg_dec (h1 (by simp))
   have hp : partF i 100 = 99 :: dec i.rd := rfl
   obtain ⟨x, q0, q1, q2, q3, q4, q5, q6, q7, q8, q9⟩ := key { p with rd := i.rd } (by rw [hp]; show ({ p with rd := regN (99 :: dec i.rd) }, true && regOK (99 :: dec i.rd)) = _; rw [e1, e2]; rfl)
   refine ⟨x, q0, q1, fun _ => q6 hnd.1, ?_, ?_, ?_, fun h => absurd (by simp) h, ?_, ?_, ?_⟩
   ·intro h; simp at h; exact q3 h
   ·intro h; simp at h; exact q4 h
   ·intro h; simp at h; exact q5 h
   ·intro h; simp at h; exact q7 h
   ·intro h; simp at h; exact q8 h
   ·intro h; simp at h; exact q9 h
  ·obtain ⟨e1, e2⟩ := reg_dec (h2 (by simp))
   have hp : partF i 97 = 99 :: dec i.r1 := rfl
   obtain ⟨x, q0, q1, q2, q3, q4, q5, q6, q7, q8, q9⟩ := key { p with r1 := i.r1 } (by rw [hp]; show ({ p with r1 := regN (99 :: dec i.r1) }, true && regOK (99 :: dec i.r1)) = _; rw [e1, e2]; rfl)
   refine ⟨x, q0, q1, ?_, fun _ => q7 hnd.1, ?_, ?_, ?_, fun h => absurd (by simp) h, ?_, ?_⟩
   ·intro h; simp at h; exact q2 h
   ·intro h; simp at h; exact q4 h
   ·intro h; simp at h; exact q5 h
   ·intro h; simp at h; exact q6 h
   ·intro h; simp at h; exact q8 h
   ·intro h; simp at h; exact q9 h
  ·obtain ⟨e1, e2⟩ := reg_dec (h3 (by simp))
   have hp : partF i 98 = 99 :: dec i.r2 := rfl
   obtain ⟨x, q0, q1, q2, q3, q4, q5, q6, q7, q8, q9⟩ := key { p with r2 := i.r2 } (by rw [hp]; show ({ p with r2 := regN (99 :: dec i.r2) }, true && regOK (99 :: dec i.r2)) = _; rw [e1, e2]; rfl)
   refine ⟨x, q0, q1, ?_, ?_, fun _ => q8 hnd.1, ?_, ?_, ?_, fun h => absurd (by simp) h, ?_⟩
   ·intro h; simp at h; exact q2 h
   ·intro h; simp at h; exact q3 h
   ·intro h; simp at h; exact q5 h
   ·intro h; simp at h; exact q6 h
   ·intro h; simp at h; exact q7 h
   ·intro h; simp at h; exact q9 h
  ·have e := number_dec (h4 (by simp))
   have hp : partF i 109 = dec i.im := rfl
   obtain ⟨x, q0, q1, q2, q3, q4, q5, q6, q7, q8, q9⟩ := key { p with im := i.im } (by rw [hp]; show ({ p with im := (numberF (dec i.im)).1 }, true && (numberF (dec i.im)).2) = _; rw [e]; rfl)
   refine ⟨x, q0, q1, ?_, ?_, ?_, fun _ => q9 hnd.1, ?_, ?_, ?_, fun h => absurd (by simp) h⟩
   ·intro h; simp at h; exact q2 h
   ·intro h; simp at h; exact q3 h
   ·intro h; simp at h; exact q4 h
   ·intro h; simp at h; exact q6 h
   ·intro h; simp at h; exact q7 h
   ·intro h; simp at h; exact q8 h
open Go.Fx
set_option maxRecDepth 100000
theorem enc_ranges {i : IZ} (h : encOk i = true) : okOp i.op = true /\ ((hasS (rowZ i.op).s).1 = true -> 0 <= i.rd /\ i.rd < 32) /\ ((hasS (rowZ i.op).s).2.1 = true -> 0 <= i.r1 /\ i.r1 < 32) /\ ((hasS (rowZ i.op).s).2.2 = true -> 0 <= i.r2 /\ i.r2 < 32) /\ ((laidS (rowZ i.op).s).1 ≠ [] -> -10000000000 < i.im /\ i.im < 10000000000) := by
 unfold encOk at h
 dsimp only at h
 rw [Bool.and_eq_true, Bool.and_eq_true] at h
 obtain ⟨⟨h1, h2⟩, h3⟩ := h
 unfold regsI at h3
 dsimp only at h3
 simp only [List.all_cons, List.all_nil, Bool.and_true, Bool.and_eq_true] at h3
 obtain ⟨h4, h5, h6⟩ := h3
 have key : ∀ (t : Bool) (a : Nat) (r : Int), okTr (t, a, r) = true -> t = true -> 0 <= r /\ r < 32 := by
  intro t a r h ht
  rw [ht] at h
  have : fitsU r 5 = true := h
  unfold fitsU at this
  rw [decide_eq_true_eq] at this
  have e5 : ((2 ^ 5 : Nat) : Int) = 32 := by decide
  omega
 refine ⟨h1, key _ _ _ h4, key _ _ _ h5, key _ _ _ h6, fun hne => ?_⟩
 have hn : ((laidS (rowZ i.op).s).1.length == 0) = false := by
  rw [beq_eq_false_iff_ne]
  intro e
  exact hne (List.length_eq_zero_iff.1 e)
 have hb : (laidS (rowZ i.op).s).2.1 <= 32 := by
  have hall : ∀ s, (laidS s).2.1 <= 32 := by
   intro s
   unfold laidS
   repeat' split
   all_goals decide
  exact hall _
 unfold fitsL at h2
 rw [hn, Bool.false_or, Bool.and_eq_true] at h2
 have h7 := h2.1
 generalize (laidS (rowZ i.op).s).2.1 = b at *
 have hp : (2 : Nat) ^ b <= 2 ^ 32 := Nat.pow_le_pow_right (by decide) hb
 have hp2 : (2 : Nat) ^ (b - 1) <= 2 ^ 32 := Nat.pow_le_pow_right (by decide) (by omega)
 have e32 : (2 : Nat) ^ 32 = 4294967296 := by decide
 split at h7
 ·unfold fitsS at h7
  rw [decide_eq_true_eq] at h7
  omega
 ·unfold fitsU at h7
  rw [decide_eq_true_eq] at h7
  omega
theorem part_sign {i : IZ} {b c : UInt8} (h : c ∈ partF i b) : c = 99 ∨ c = 45 ∨ (48 <= c.toNat /\ c.toNat <= 57) := by
 have key : ∀ n, c ∈ 99 :: dec n -> c = 99 ∨ c = 45 ∨ (48 <= c.toNat /\ c.toNat <= 57) := by
  intro n h
  rw [List.mem_cons] at h
  rcases h with h | h
  ·exact .inl h
  ·exact .inr (dec_sign c h)
 unfold partF at h
 split at h
 ·exact key _ h
 ·split at h
  ·exact key _ h
  ·split at h
   ·exact key _ h
   ·exact .inr (dec_sign c h)
theorem name_no {i : IZ} (h : okOp i.op = true) {c : UInt8} (hc : ¬ (97 <= c.toNat /\ c.toNat <= 122)) : c ∉ nameR i := fun hm => hc ((name_ok h).2.2.1 c hm)
theorem parse_parts {i : IZ} (h : encOk i = true) : parseOp (textF i) = i.op /\ parseL (textF i) = (orderS (rowZ i.op).s).map (partF i) /\ textF i ≠ [] /\ (Lib.cut (textF i) [32]).1 = nameR i := by
 obtain ⟨ho, -⟩ := enc_ranges h
 obtain ⟨n1, n2, n3, -⟩ := name_ok ho
 have h32 : (32 : UInt8) ∉ nameR i := name_no ho (by decide)
 unfold parseOp parseL textF
 rw [h, if_pos rfl]
 by_cases h0 : orderS (rowZ i.op).s = []
 ·rw [if_pos h0, h0, cut_none h32]
  exact ⟨n1, rfl, n2, rfl⟩
 ·rw [if_neg h0]
  have hc := cut_at (c := 32) (t := []) (x := nameR i) (r := Lib.join ((orderS (rowZ i.op).s).map (partF i)) [44, 32]) h32
  have e : [32] ++ Lib.join ((orderS (rowZ i.op).s).map (partF i)) [44, 32] = 32 :: [] ++ Lib.join ((orderS (rowZ i.op).s).map (partF i)) [44, 32] := rfl
  rw [e, hc]
  refine ⟨n1, ?_, ?_, rfl⟩
  ·rw [if_pos rfl]
   refine split_join (by simpa using h0) fun x hx => ?_
   obtain ⟨b, -, rfl⟩ := List.mem_map.1 hx
   intro h44
   rcases part_sign h44 with h1 | h1 | h1
   ·exact absurd h1 (by decide)
   ·exact absurd h1 (by decide)
   ·exact absurd h1.1 (by decide)
  ·simp [n2]
theorem parse_back {i : IZ} (h : encOk i = true) : ∃ x, parseF (textF i) = (x, true) /\ agreeI i x := by
 obtain ⟨p1, p2, p3, -⟩ := parse_parts h
 obtain ⟨ho, e1, e2, e3, e4⟩ := enc_ranges h
 obtain ⟨q1, q2, q3, q4, q5, q6⟩ := order_has (rowZ i.op).s (rowZ_sh i.op)
 have ho2 := ho
 unfold okOp at ho2
 rw [decide_eq_true_eq] at ho2
 have hop : parseOp (textF i) ≠ 0 := by omega
 obtain ⟨x, hx, hxop, r1, r2, r3, r4, -⟩ := fold_back (i := i) (orderS (rowZ i.op).s) ⟨i.op, 0, 0, 0, 0⟩ q6 q5 (fun h => e1 (q1.2 h)) (fun h => e2 (q2.2 h)) (fun h => e3 (q3.2 h)) (fun h => e4 (q4.2 h))
 have ha : agreeI i x := ⟨hxop, fun h => r1 (q1.1 h), fun h => r2 (q2.1 h), fun h => r3 (q3.1 h), fun h => r4 (q4.1 h)⟩
 refine ⟨x, ?_, ha⟩
 unfold parseF
 rw [p1, p2, if_neg (by rintro (h5 | h5); exact hop h5; exact h5 (by simp))]
 have hP : parseP (textF i) = (x, true) := by
  unfold parseP
  rw [p1, p2, hx]
 rw [hP]
 dsimp only
 rw [(agree_enc ha).1, h]
 rfl
open Go.Fx
set_option maxRecDepth 100000
theorem trim_text {b : UInt8} {t : List UInt8} (h : b ≠ 32) : Lib.trimLeftB (b :: t) 32 = b :: t := by
 unfold Lib.trimLeftB
 rw [List.dropWhile_cons, if_neg (by simpa using h)]
theorem hasSuffix_no {t : List UInt8} {c : UInt8} (h : c ∉ t) : Lib.hasSuffix t [c] = false := by
 rw [Bool.eq_false_iff]
 intro hs
 unfold Lib.hasSuffix at hs
 rw [List.isSuffixOf_iff_suffix] at hs
 exact h (hs.subset (by simp))
/-- a line of no mark. -/
theorem line_plain {t u : List UInt8} {k : Nat} (hu : Lib.trimLeftB u 32 = t) (h0 : t ≠ []) (h35 : t[0]? ≠ some 35) (h58 : (58 : UInt8) ∉ t) : lineF k u = some ⟨k, t, false⟩ := by
 unfold lineF
 dsimp only
 rw [hu, hasSuffix_no h58]
 rw [if_neg]
 ·rfl
 ·rintro (h | h)
  ·exact h0 h
  ·cases t with
   | nil => exact h0 rfl
   | cons b t =>
    unfold Lib.hasPrefix at h
    rw [List.isPrefixOf_cons_cons, Bool.and_eq_true, beq_iff_eq] at h
    exact h35 (by rw [<- h.1]; rfl)
theorem told_none {A T : List UInt8 -> Option Int} {s : List UInt8} {n : Int} (h : ∀ b, T b = none) : toldF A T s n = s := by
 unfold toldF
 rw [h]
 split
 ·rfl
 ·rw [if_pos (.inl (by simp))]
end Go.Proofs.YtldkfbelnndaoaaGreatDoor
