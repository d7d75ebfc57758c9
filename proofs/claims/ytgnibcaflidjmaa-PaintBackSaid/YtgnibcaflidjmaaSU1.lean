/- Numbers in a slice, told as a list that is turned by exchanges alone; conditions: those of each theorem. -/
import Derived.Test.YtgnibcaflidjmaaFZ
import Derived.Test.YtgnibcaflidjmaaRZ
import Derived.Test.YtgnibcaflidjmaaBits
import Derived.Test.YtgnibcaflidjmaaRel
namespace Go.Proofs.Ytgnibcaflidjmaa
open Go.Fx
set_option maxRecDepth 100000
set_option linter.unusedSimpArgs false
set_option linter.unusedVariables false
/-- the first n cells of block g hold these numbers. -/
structure SU (w : World) (g n : Nat) (xs : List Nat) : Prop where
  at' : ∃ cur : List Value, w.heap[g]? = some (.cells cur.toArray 28 (0, 0)) ∧ n ≤ cur.length ∧ ∀ (i : Nat) (h : i < xs.length), cur[i]? = some (.int .u64 (xs[i] : Nat))
  len : xs.length = n
  lt : ∀ x ∈ xs, x < 18446744073709551616
theorem SU.ext {w w' : World} {g n : Nat} {xs : List Nat} {S : List Nat} (h : SU w g n xs) (hx : Ext S w w') (hg : g ∉ S) : SU w' g n xs := by
  obtain ⟨cur, h1, h2, h3⟩ := h.at'
  exact ⟨⟨cur, hx.at h1 hg, h2, h3⟩, h.len, h.lt⟩
theorem dE (w : World) : Ext [] w w.drew := Ext.refl.drew
theorem xE {g : Nat} {a b c : World} (h : Ext [g] a b) (h' : Ext [] b c) : Ext [g] a c := h.trans h' (by simp)
theorem xG {g : Nat} {a b c : World} (h : Ext [g] a b) (h' : Ext [g] b c) : Ext [g] a c := h.trans h' (fun _ h => .inl h)
theorem SU.drew {w : World} {g n : Nat} {xs : List Nat} (h : SU w g n xs) : SU w.drew g n xs := h.ext (dE w) (by simp)
/-- the number at a place. -/
def V (xs : List Nat) (i : Nat) : Nat := xs.getD i 0
theorem V_get {xs : List Nat} {i : Nat} (h : i < xs.length) : xs[i] = V xs i := by simp [V, h]
/-- two places have exchanged their numbers. -/
def Exch (i j : Nat) (xs ys : List Nat) : Prop := ys.Perm xs ∧ ∀ k, V ys k = if k = j then V xs i else if k = i then V xs j else V xs k
theorem exch_v {xs : List Nat} {i j : Nat} (hi : i < xs.length) (hj : j < xs.length) (k : Nat) : V ((xs.set i xs[j]).set j xs[i]) k = if k = j then V xs i else if k = i then V xs j else V xs k := by
  rw [← V_get hi, ← V_get hj]
  unfold V
  rw [List.getD_eq_getElem?_getD, List.getElem?_set, List.getElem?_set]
  simp only [List.length_set]
  by_cases h1 : k = j
  · subst h1
    rw [if_pos rfl, if_pos hj, if_pos rfl]
    rfl
  · have h1' : ¬ j = k := fun e => h1 e.symm
    rw [if_neg h1', if_neg h1]
    by_cases h2 : k = i
    · subst h2
      rw [if_pos rfl, if_pos hi, if_pos rfl]
      rfl
    · have h2' : ¬ i = k := fun e => h2 e.symm
      rw [if_neg h2', if_neg h2, List.getD_eq_getElem?_getD]
/-- numbers moved between the places from a to b alone. -/
structure Sw (a b : Nat) (xs ys : List Nat) : Prop where
  perm : ys.Perm xs
  out : ∀ k, k < a ∨ b ≤ k → V ys k = V xs k
  pres : ∀ (P : Nat → Prop), (∀ k, a ≤ k → k < b → P (V xs k)) → ∀ k, a ≤ k → k < b → P (V ys k)
theorem Sw.refl (a b : Nat) (xs : List Nat) : Sw a b xs xs := ⟨.refl _, fun _ _ => rfl, fun _ h => h⟩
theorem Sw.trans {a b : Nat} {xs ys zs : List Nat} (h : Sw a b xs ys) (h' : Sw a b ys zs) : Sw a b xs zs := ⟨h'.perm.trans h.perm, fun k hk => (h'.out k hk).trans (h.out k hk), fun P hP => h'.pres P (h.pres P hP)⟩
theorem Sw.mono {a b c d : Nat} {xs ys : List Nat} (h : Sw c d xs ys) (h1 : a ≤ c) (h2 : d ≤ b) : Sw a b xs ys := by
  refine ⟨h.perm, fun k hk => h.out k (by omega), fun P hP k k1 k2 => ?_⟩
  by_cases hk : c ≤ k ∧ k < d
  · exact h.pres P (fun k k1 k2 => hP k (by omega) (by omega)) k hk.1 hk.2
  · rw [h.out k (by omega)]
    exact hP k k1 k2
theorem Exch.sw {a b i j : Nat} {xs ys : List Nat} (h : Exch i j xs ys) (hi : a ≤ i ∧ i < b) (hj : a ≤ j ∧ j < b) : Sw a b xs ys := by
  refine ⟨h.1, fun k hk => ?_, fun P hP k k1 k2 => ?_⟩
  · rw [h.2 k, if_neg (by omega), if_neg (by omega)]
  · rw [h.2 k]
    split
    · exact hP i hi.1 hi.2
    · split
      · exact hP j hj.1 hj.2
      · exact hP k k1 k2
/-- rising from a to b. -/
def Asc (xs : List Nat) (a b : Nat) : Prop := ∀ i, a ≤ i → i + 1 < b → V xs i ≤ V xs (i + 1)
/-- rising, but for the number at j, which may belong further ahead. -/
def Hole (xs : List Nat) (a e j : Nat) : Prop := (∀ k, a ≤ k → k + 1 < e → k + 1 ≠ j → V xs k ≤ V xs (k + 1)) ∧ (a < j → j + 1 < e → V xs (j - 1) ≤ V xs (j + 1))
theorem Hole.start {xs : List Nat} {a i : Nat} (h : Asc xs a i) : Hole xs a (i + 1) i := ⟨fun k h1 h2 h3 => h k h1 (by omega), fun _ h2 => by omega⟩
theorem Hole.done {xs : List Nat} {a e j : Nat} (h : Hole xs a e j) (h1 : a < j → V xs (j - 1) ≤ V xs j) : Asc xs a e := by
  intro i hi he
  by_cases e1 : i + 1 = j
  · have := h1 (by omega)
    rw [show j - 1 = i by omega, ← e1] at this
    exact this
  · exact h.1 i hi he e1
theorem Hole.step {xs ys : List Nat} {a e j : Nat} (h : Hole xs a e j) (haj : a < j) (hje : j < e) (hlt : V xs j < V xs (j - 1)) (hx : Exch j (j - 1) xs ys) : Hole ys a e (j - 1) := by
  obtain ⟨h1, h2⟩ := h
  have hv := hx.2
  refine ⟨fun k k1 k2 k3 => ?_, fun k1 k2 => ?_⟩
  · rw [hv k, hv (k + 1)]
    by_cases c1 : k = j - 1
    · subst c1
      rw [if_pos rfl, if_neg (by omega), if_pos (by omega)]
      omega
    · rw [if_neg c1, if_neg (show ¬ k + 1 = j - 1 by omega)]
      by_cases c2 : k = j
      · subst c2
        rw [if_pos rfl, if_neg (by omega)]
        have := h2 haj (by omega)
        exact this
      · rw [if_neg c2, if_neg (show ¬ k + 1 = j by omega)]
        exact h1 k k1 k2 (by omega)
  · rw [hv (j - 1 - 1), hv (j - 1 + 1), if_neg (by omega), if_neg (by omega), if_neg (by omega), if_pos (by omega)]
    have := h1 (j - 1 - 1) (by omega) (by omega) (by omega)
    rw [show j - 1 - 1 + 1 = j - 1 by omega] at this
    exact this
/-- two numbers exchanged. -/
theorem SU.swap {w : World} {g n i j : Nat} {xs : List Nat} {cur : List Value} (h : SU w g n xs) (hb : w.heap[g]? = some (.cells cur.toArray 28 (0, 0))) (hn : n ≤ cur.length) (hc : ∀ (i : Nat) (h : i < xs.length), cur[i]? = some (.int .u64 (xs[i] : Nat))) (hi : i < xs.length) (hj : j < xs.length) :
    ∃ ys : List Nat, SU (World.upd w g ((cur.set i (.int .u64 (xs[j] : Nat))).set j (.int .u64 (xs[i] : Nat)))) g n ys ∧ Exch i j xs ys ∧ Ext [g] w (World.upd w g ((cur.set i (.int .u64 (xs[j] : Nat))).set j (.int .u64 (xs[i] : Nat)))) := by
  have hp : ((xs.set i xs[j]).set j xs[i]).Perm xs := List.set_set_perm hi hj
  have hl := h.len
  refine ⟨(xs.set i xs[j]).set j xs[i], ⟨⟨_, upd_at hb, by simp; exact hn, fun k hk => ?_⟩, by simp; exact hl, fun x hx => h.lt x (hp.mem_iff.1 hx)⟩, ⟨hp, fun k => exch_v hi hj k⟩, Ext.updI (by simp) Ext.refl⟩
  have hk' : k < xs.length := by simpa using hk
  rw [List.getElem?_set, List.getElem?_set]
  simp only [List.getElem_set, List.length_set]
  by_cases h1 : j = k
  · subst h1
    rw [if_pos rfl, if_pos (by omega), if_pos rfl]
  · rw [if_neg h1, if_neg h1]
    by_cases h2 : i = k
    · subst h2
      rw [if_pos rfl, if_pos (by omega), if_pos rfl]
    · rw [if_neg h2, if_neg h2]
      exact hc k hk'
theorem cmpLess_spec {w : World} {x y : Nat} {K : Value → World → Prop} (hK : K (.bool (decide (x < y))) w) : callsK Try.prog 103 #[.int .u64 (x : Nat), .int .u64 (y : Nat)] w K := by
  have e : decide (((x : Nat) : Int) < ((y : Nat) : Int)) = decide (x < y) := by
    rw [Bool.eq_iff_iff, decide_eq_true_eq, decide_eq_true_eq]
    omega
  have hn : ∀ {K : Value → World → Prop}, K (.bool false) w → callsK Try.prog 114 #[.int .u64 (x : Nat)] w K := fun h => by
    apply F114_ok
    unfold F114
    have e0 : (!(decide (((x : Nat) : Int) = ((x : Nat) : Int)))) = false := by simp
    simp (disch := first | assumption | omega | (simp only [szR] <;> omega) | rfl | decide) only [gen0, gen1, gen2, rulesZ, litR, bolR, Nat.reduceAdd, Nat.reduceLeDiff, numR, memR, valR, heapR, updR, intR, decR, extR, slR, segR, thenR, pnR, Int.reduceToNat, Int.reduceAdd, Int.reduceSub, Int.reduceLT, Int.reduceLE, Nat.reduceSub, Nat.reduceMul, Nat.reduceEqDiff, e0]
    exact h
  apply F103_ok
  unfold F103
  simp (disch := first | assumption | omega | (simp only [szR] <;> omega) | rfl | decide) only [gen0, gen1, gen2, rulesZ, litR, bolR, Nat.reduceAdd, Nat.reduceLeDiff, numR, memR, valR, heapR, updR, intR, decR, extR, slR, segR, thenR, pnR, Int.reduceToNat, Int.reduceAdd, Int.reduceSub, Int.reduceLT, Int.reduceLE, Nat.reduceSub, Nat.reduceMul, Nat.reduceEqDiff]
  refine hn ?_
  simp (disch := first | assumption | omega | (simp only [szR] <;> omega) | rfl | decide) only [gen0, gen1, gen2, rulesZ, litR, bolR, Nat.reduceAdd, Nat.reduceLeDiff, numR, memR, valR, heapR, updR, intR, decR, extR, slR, segR, thenR, pnR, Int.reduceToNat, Int.reduceAdd, Int.reduceSub, Int.reduceLT, Int.reduceLE, Nat.reduceSub, Nat.reduceMul, Nat.reduceEqDiff, joinBR, e]
  exact hK
theorem insertion_spec {w : World} {g n c a b : Nat} {xs : List Nat} (h : SU w g n xs) (hab : a ≤ b) (hbn : b ≤ n) (hn : n < 1000000) {K : Value → World → Prop} (hK : ∀ ys w', SU w' g n ys → Sw a b xs ys → Asc ys a b → Ext [g] w w' → K (.tuple #[]) w') :
    callsK Try.prog 97 #[.slice (some ⟨g, 0, none⟩) n c, .int .i64 (a : Nat), .int .i64 (b : Nat)] w K := by
  apply F97_ok
  unfold F97
  have ea : ((a : Nat) : Int) + 1 = ((a + 1 : Nat) : Int) := by omega
  simp (disch := first | assumption | omega | (simp only [szR] <;> omega) | rfl | decide) only [gen0, gen1, gen2, rulesZ, litR, bolR, Nat.reduceAdd, Nat.reduceLeDiff, numR, memR, valR, heapR, updR, intR, decR, extR, slR, segR, thenR, pnR, Int.reduceToNat, Int.reduceAdd, Int.reduceSub, Int.reduceLT, Int.reduceLE, Nat.reduceSub, Nat.reduceMul, Nat.reduceEqDiff, ea]
  refine loopT.intro (fun st w' => ∃ (i : Nat) (ys : List Nat), a + 1 ≤ i ∧ i ≤ b + 1 ∧ st = [.int .i64 (i : Nat)] ∧ SU w' g n ys ∧ Sw a b xs ys ∧ (i ≤ b → Asc ys a i) ∧ (b < i → Asc ys a b) ∧ Ext [g] w w')
    (fun st _ => match st with
      | [.int _ z] => b + 1 - z.toNat
      | _ => 0) ⟨a + 1, xs, by omega, by omega, rfl, h, Sw.refl _ _ _, fun _ k k1 k2 => by omega, fun _ k k1 k2 => by omega, Ext.refl⟩ ?_
  rintro st w1 ⟨i, ys, hi1, hi2, rfl, h1, hp1, hA1, hA1', hx1⟩ _
  by_cases hib : i < b
  · have e1 : decide (((i : Nat) : Int) < ((b : Nat) : Int)) = true := decide_eq_true (by omega)
    simp (disch := first | assumption | omega | (simp only [szR] <;> omega) | rfl | decide) only [gen0, gen1, gen2, rulesZ, litR, bolR, Nat.reduceAdd, Nat.reduceLeDiff, numR, memR, valR, heapR, updR, intR, decR, extR, slR, segR, thenR, pnR, Int.reduceToNat, Int.reduceAdd, Int.reduceSub, Int.reduceLT, Int.reduceLE, Nat.reduceSub, Nat.reduceMul, Nat.reduceEqDiff, e1]
    refine loopT.intro (fun st w' => ∃ (j : Nat) (zs : List Nat), a ≤ j ∧ j ≤ i ∧ st = [.int .i64 (j : Nat)] ∧ SU w' g n zs ∧ Sw a b xs zs ∧ Hole zs a (i + 1) j ∧ Ext [g] w w')
      (fun st _ => match st with
        | [.int _ z] => z.toNat
        | _ => 0) ⟨i, ys, by omega, by omega, rfl, h1, hp1, Hole.start (hA1 (by omega)), hx1⟩ ?_
    rintro st w2 ⟨j, zs, hj1, hj2, rfl, h2, hp2, hH2, hx2⟩ _
    obtain ⟨cur, hb2, hl2, hc2⟩ := h2.at'
    have hzl := h2.len
    have ei : ((i : Nat) : Int) + 1 = ((i + 1 : Nat) : Int) := by omega
    by_cases hja : a < j
    · have e2 : decide (((a : Nat) : Int) < ((j : Nat) : Int)) = true := decide_eq_true (by omega)
      have ej : ((j : Nat) : Int) - 1 = ((j - 1 : Nat) : Int) := by omega
      have hcj := hc2 j (by omega)
      have hcj1 := hc2 (j - 1) (by omega)
      simp (disch := first | assumption | omega | (simp only [szR] <;> omega) | rfl | decide) only [gen0, gen1, gen2, rulesZ, litR, bolR, Nat.reduceAdd, Nat.reduceLeDiff, numR, memR, valR, heapR, updR, intR, decR, extR, slR, segR, thenR, pnR, Int.reduceToNat, Int.reduceAdd, Int.reduceSub, Int.reduceLT, Int.reduceLE, Nat.reduceSub, Nat.reduceMul, Nat.reduceEqDiff, joinBR, e2, ej, hb2, hcj, hcj1]
      refine cmpLess_spec ?_
      by_cases hlt : zs[j] < zs[j - 1]
      rotate_left
      · rw [decide_eq_false hlt]
        simp (disch := first | assumption | omega | (simp only [szR] <;> omega) | rfl | decide) only [gen0, gen1, gen2, rulesZ, litR, bolR, Nat.reduceAdd, Nat.reduceLeDiff, numR, memR, valR, heapR, updR, intR, decR, extR, slR, segR, thenR, pnR, Int.reduceToNat, Int.reduceAdd, Int.reduceSub, Int.reduceLT, Int.reduceLE, Nat.reduceSub, Nat.reduceMul, Nat.reduceEqDiff, joinBR, ei]
        have hA := hH2.done fun _ => by
          rw [V_get (by omega), V_get (by omega)] at hlt
          omega
        exact ⟨⟨i + 1, zs, by omega, by omega, rfl, h2.drew, hp2, fun _ => hA, fun h => by omega, xE hx2 (dE _)⟩, by omega⟩
      · rw [decide_eq_true hlt]
        simp (disch := first | assumption | omega | (simp only [szR] <;> omega) | rfl | decide) only [gen0, gen1, gen2, rulesZ, litR, bolR, Nat.reduceAdd, Nat.reduceLeDiff, numR, memR, valR, heapR, updR, intR, decR, extR, slR, segR, thenR, pnR, Int.reduceToNat, Int.reduceAdd, Int.reduceSub, Int.reduceLT, Int.reduceLE, Nat.reduceSub, Nat.reduceMul, Nat.reduceEqDiff, joinBR]
        refine joinL.intro fun J5 hJ5 => ?_
        rw [drewK_eq]
        simp (disch := first | assumption | omega | (simp only [szR] <;> omega) | rfl | decide) only [gen0, gen1, gen2, rulesZ, litR, bolR, Nat.reduceAdd, Nat.reduceLeDiff, numR, memR, valR, heapR, updR, intR, decR, extR, slR, segR, thenR, pnR, Int.reduceToNat, Int.reduceAdd, Int.reduceSub, Int.reduceLT, Int.reduceLE, Nat.reduceSub, Nat.reduceMul, Nat.reduceEqDiff, ej, hb2, hcj, hcj1, and_self]
        obtain ⟨ws, h3, hp3, hx3⟩ := SU.swap h2.drew.drew hb2 hl2 hc2 (i := j) (j := j - 1) (by omega) (by omega)
        apply hJ5
        intro _
        simp (disch := first | assumption | omega | (simp only [szR] <;> omega) | rfl | decide) only [gen0, gen1, gen2, rulesZ, litR, bolR, Nat.reduceAdd, Nat.reduceLeDiff, numR, memR, valR, heapR, updR, intR, decR, extR, slR, segR, thenR, pnR, Int.reduceToNat, Int.reduceAdd, Int.reduceSub, Int.reduceLT, Int.reduceLE, Nat.reduceSub, Nat.reduceMul, Nat.reduceEqDiff, ej]
        exact ⟨⟨j - 1, ws, by omega, by omega, rfl, h3, hp2.trans (hp3.sw (by omega) (by omega)), hH2.step hja (by omega) (by rw [V_get (by omega), V_get (by omega)] at hlt; exact hlt) hp3, xG (xE (xE hx2 (dE _)) (dE _)) hx3⟩, by omega⟩
    · have e2 : decide (((a : Nat) : Int) < ((j : Nat) : Int)) = false := decide_eq_false (by omega)
      simp (disch := first | assumption | omega | (simp only [szR] <;> omega) | rfl | decide) only [gen0, gen1, gen2, rulesZ, litR, bolR, Nat.reduceAdd, Nat.reduceLeDiff, numR, memR, valR, heapR, updR, intR, decR, extR, slR, segR, thenR, pnR, Int.reduceToNat, Int.reduceAdd, Int.reduceSub, Int.reduceLT, Int.reduceLE, Nat.reduceSub, Nat.reduceMul, Nat.reduceEqDiff, joinBR, e2, ei]
      exact ⟨⟨i + 1, zs, by omega, by omega, rfl, h2.drew, hp2, fun _ => hH2.done fun h => by omega, fun h => by omega, xE hx2 (dE _)⟩, by omega⟩
  · have e1 : decide (((i : Nat) : Int) < ((b : Nat) : Int)) = false := decide_eq_false (by omega)
    simp (disch := first | assumption | omega | (simp only [szR] <;> omega) | rfl | decide) only [gen0, gen1, gen2, rulesZ, litR, bolR, Nat.reduceAdd, Nat.reduceLeDiff, numR, memR, valR, heapR, updR, intR, decR, extR, slR, segR, thenR, pnR, Int.reduceToNat, Int.reduceAdd, Int.reduceSub, Int.reduceLT, Int.reduceLE, Nat.reduceSub, Nat.reduceMul, Nat.reduceEqDiff, e1]
    exact hK ys w1 h1 hp1 (by
      by_cases c : i = b
      · subst c
        exact hA1 (Nat.le_refl _)
      · exact hA1' (by omega)) hx1
end Go.Proofs.Ytgnibcaflidjmaa
