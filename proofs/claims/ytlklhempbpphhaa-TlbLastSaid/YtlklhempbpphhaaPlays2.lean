/- Under any steps the cache keeps just the document's lines; conditions: those of each theorem. -/
import Derived.Test.YtlklhempbpphhaaPlays
namespace Go.Proofs.Ytlklhempbpphhaa
open Go.Fx
set_option maxRecDepth 100000
set_option linter.unusedSimpArgs false
set_option linter.unusedVariables false
/-! ### the plain law -/
theorem parts4 (S : Nat → List Ln) {i : Nat} (hi : i < 4) : ∃ X Z : List Ln, (∀ Q, upto (put4 S i Q) 4 = X ++ (Q ++ Z)) ∧ (∀ x ∈ X, ∃ j, j < i ∧ x ∈ S j) ∧ (∀ z ∈ Z, ∃ j, i < j ∧ z ∈ S j) := by
  match i, hi with
  | 0, _ =>
    refine ⟨[], S 1 ++ (S 2 ++ S 3), fun Q => by simp [upto, put4], by simp, fun z hz => ?_⟩
    simp only [List.mem_append] at hz
    rcases hz with h | h | h
    · exact ⟨1, by omega, h⟩
    · exact ⟨2, by omega, h⟩
    · exact ⟨3, by omega, h⟩
  | 1, _ =>
    refine ⟨S 0, S 2 ++ S 3, fun Q => by simp [upto, put4], fun x hx => ⟨0, by omega, hx⟩, fun z hz => ?_⟩
    rcases List.mem_append.1 hz with h | h
    · exact ⟨2, by omega, h⟩
    · exact ⟨3, by omega, h⟩
  | 2, _ =>
    refine ⟨S 0 ++ S 1, S 3, fun Q => by simp [upto, put4], fun x hx => ?_, fun z hz => ⟨3, by omega, hz⟩⟩
    rcases List.mem_append.1 hx with h | h
    · exact ⟨0, by omega, h⟩
    · exact ⟨1, by omega, h⟩
  | 3, _ =>
    refine ⟨S 0 ++ (S 1 ++ S 2), [], fun Q => by simp [upto, put4], fun x hx => ?_, by simp⟩
    simp only [List.mem_append] at hx
    rcases hx with h | h | h
    · exact ⟨0, by omega, h⟩
    · exact ⟨1, by omega, h⟩
    · exact ⟨2, by omega, h⟩
theorem put4_self (S : Nat → List Ln) (i : Nat) : put4 S i (S i) = S := by
  funext j
  unfold put4
  split
  · rename_i h; rw [h]
  · rfl
theorem filter_other {X : List Ln} {a n : Int} (h : ∀ x ∈ X, x.n ≠ n) : X.filter (fun l => !(l.a == a && l.n == n)) = X := by
  rw [List.filter_eq_self]
  intro x hx
  simp [h x hx]
theorem drop_law {S : Nat → List Ln} (hg : Good S) {a n : Int} (hn : 0 ≤ n) :
    upto (put4 S (n % 4).toNat ((S (n % 4).toNat).filter (fun l => !(l.a == a && l.n == n)))) 4 = (upto S 4).filter (fun l => !(l.a == a && l.n == n)) := by
  obtain ⟨X, Z, hQ, hX, hZ⟩ := parts4 S (i := (n % 4).toNat) (mod4 hn)
  have h0 := hQ (S (n % 4).toNat)
  rw [put4_self] at h0
  rw [hQ, h0, List.filter_append, List.filter_append, filter_other (X := X), filter_other (X := Z)]
  · intro x hx
    obtain ⟨j, hj, hxj⟩ := hZ x hx
    have := hg.num j x hxj
    rintro rfl; omega
  · intro x hx
    obtain ⟨j, hj, hxj⟩ := hX x hx
    have := hg.num j x hxj
    rintro rfl; omega
theorem flush_law (S : Nat → List Ln) (p : Ln → Bool) : ∀ k, upto (fun j => (S j).filter p) k = (upto S k).filter p
  | 0 => rfl
  | k + 1 => by simp [upto, flush_law S p k]
theorem clear_law : ∀ k, upto (fun _ => []) k = []
  | 0 => rfl
  | k + 1 => by simp [upto, clear_law k]
theorem look_law {S : Nat → List Ln} (hg : Good S) {a n : Int} (hn : 0 ≤ n) : look S a n = rlook (upto S 4) a n := by
  obtain ⟨X, Z, hQ, hX, hZ⟩ := parts4 S (i := (n % 4).toNat) (mod4 hn)
  have h0 := hQ (S (n % 4).toNat)
  rw [put4_self] at h0
  unfold look rlook
  rw [h0, List.find?_append, List.find?_append]
  have e1 : X.find? (fun l => l.a == a && l.n == n) = none := List.find?_eq_none.2 fun x hx => by
    obtain ⟨j, hj, hxj⟩ := hX x hx
    have := hg.num j x hxj
    have : x.n ≠ n := by rintro rfl; omega
    simp [this]
  have e2 : Z.find? (fun l => l.a == a && l.n == n) = none := List.find?_eq_none.2 fun x hx => by
    obtain ⟨j, hj, hxj⟩ := hZ x hx
    have := hg.num j x hxj
    have : x.n ≠ n := by rintro rfl; omega
    simp [this]
  rw [e1, e2]
  simp only [Option.none_or, Option.or_none]
  cases (S (n % 4).toNat).find? (fun l => l.a == a && l.n == n) <;> rfl
/-- what 'rput' asks of its lines. -/
theorem put_law {S : Nat → List Ln} (hg : Good S) {l : Ln} (hn : 0 ≤ l.n) : ∃ A B : Nat, A ≤ ((upto S 4).filter (fun r => !(r.a == l.a && r.n == l.n))).length ∧ B ≤ A ∧
    (∀ j (h : j < ((upto S 4).filter (fun r => !(r.a == l.a && r.n == l.n))).length), ((upto S 4).filter (fun r => !(r.a == l.a && r.n == l.n)))[j].n % 4 ≤ l.n % 4 ↔ j < A) ∧
    (∀ j (h : j < ((upto S 4).filter (fun r => !(r.a == l.a && r.n == l.n))).length), ((upto S 4).filter (fun r => !(r.a == l.a && r.n == l.n)))[j].n % 4 = l.n % 4 ↔ B ≤ j ∧ j < A) ∧
    rput ((upto S 4).filter (fun r => !(r.a == l.a && r.n == l.n))) l A B = upto (putS S l) 4 := by
  obtain ⟨X, Z, hQ, hX, hZ⟩ := parts4 S (i := (l.n % 4).toNat) (mod4 hn)
  have hd := drop_law hg (a := l.a) hn
  rw [hQ] at hd
  rw [← hd]
  unfold putS
  rw [hQ]
  have hY2 : ((S (l.n % 4).toNat).filter (fun r => !(r.a == l.a && r.n == l.n))).length ≤ 2 := Nat.le_trans (List.length_filter_le _ _) (hg.two _)
  have hX' : ∀ x ∈ X, 0 ≤ x.n ∧ x.n % 4 < l.n % 4 := fun x hx => by
    obtain ⟨j, hj, hxj⟩ := hX x hx
    have := hg.num j x hxj
    omega
  have hZ' : ∀ x ∈ Z, l.n % 4 < x.n % 4 := fun x hx => by
    obtain ⟨j, hj, hxj⟩ := hZ x hx
    have := hg.num j x hxj
    omega
  have hY' : ∀ x ∈ (S (l.n % 4).toNat).filter (fun r => !(r.a == l.a && r.n == l.n)), x.n % 4 = l.n % 4 := fun x hx => by
    have := hg.num _ x (List.mem_filter.1 hx).1
    omega
  generalize (S (l.n % 4).toNat).filter (fun r => !(r.a == l.a && r.n == l.n)) = Y at hY2 hY'
  have key : ∀ j (h : j < (X ++ (Y ++ Z)).length), (j < X.length ∧ (X ++ (Y ++ Z))[j].n % 4 < l.n % 4) ∨ (X.length ≤ j ∧ j < X.length + Y.length ∧ (X ++ (Y ++ Z))[j].n % 4 = l.n % 4) ∨ (X.length + Y.length ≤ j ∧ l.n % 4 < (X ++ (Y ++ Z))[j].n % 4) := by
    intro j h
    by_cases h1 : j < X.length
    · left
      rw [List.getElem_append_left h1]
      exact ⟨h1, (hX' _ (List.getElem_mem h1)).2⟩
    · right
      rw [List.getElem_append_right (by omega)]
      simp only [List.length_append] at h
      by_cases h2 : j < X.length + Y.length
      · left
        rw [List.getElem_append_left (by omega)]
        exact ⟨by omega, h2, hY' _ (List.getElem_mem _)⟩
      · right
        rw [List.getElem_append_right (by omega)]
        exact ⟨by omega, hZ' _ (List.getElem_mem _)⟩
  refine ⟨X.length + Y.length, X.length, by simp, by omega, fun j h => ?_, fun j h => ?_, ?_⟩
  · rcases key j h with h1 | h1 | h1 <;> omega
  · rcases key j h with h1 | h1 | h1 <;> omega
  · unfold rput put2
    have e1 : (X ++ (Y ++ Z)).take (X.length + Y.length) = X ++ Y := by rw [← List.append_assoc, ← List.length_append, List.take_left]
    have e2 : (X ++ (Y ++ Z)).drop (X.length + Y.length) = Z := by rw [← List.append_assoc, ← List.length_append, List.drop_left]
    rw [e1, e2, Nat.add_sub_cancel_left]
    by_cases h : Y.length = 2
    · rw [if_pos h, if_pos h]
      match Y, h with
      | [y, z], _ => simp [List.eraseIdx_append_of_length_le]
    · rw [if_neg h, if_neg h]
      simp
theorem upto_nod {S : Nat → List Ln} (h : Good S) : ∀ k, (upto S k).Pairwise fun x y => ¬ (x.a = y.a ∧ x.n = y.n)
  | 0 => by simp [upto]
  | k + 1 => by
    show (upto S k ++ S k).Pairwise _
    refine List.pairwise_append.2 ⟨upto_nod h k, h.nod k, fun x hx y hy => ?_⟩
    have h1 := upto_num h k x hx
    have h2 := h.num k y hy
    rintro ⟨-, h3⟩
    rw [h3] at h1
    omega
theorem erase_filter : ∀ {M : List Ln} {g : Nat} {x : Ln}, M.Pairwise (fun x y => ¬ (x.a = y.a ∧ x.n = y.n)) → M[g]? = some x → M.eraseIdx g = M.filter (fun r => !(r.a == x.a && r.n == x.n))
  | [], g, x, _, h => by simp at h
  | y :: M, 0, x, hp, h => by
    simp at h
    subst h
    obtain ⟨h1, h2⟩ := List.pairwise_cons.1 hp
    rw [List.eraseIdx_cons_zero, List.filter_cons_of_neg (by simp), List.filter_eq_self.2]
    intro z hz
    have := h1 z hz
    simp
    exact Decidable.not_and_iff_or_not.1 fun e => this ⟨e.1.symm, e.2.symm⟩
  | y :: M, g + 1, x, hp, h => by
    obtain ⟨h1, h2⟩ := List.pairwise_cons.1 hp
    rw [List.getElem?_cons_succ] at h
    have hx := List.mem_of_getElem? h
    rw [List.eraseIdx_cons_succ, List.filter_cons_of_pos, erase_filter h2 h]
    have := h1 x hx
    simp
    exact Decidable.not_and_iff_or_not.1 this
theorem evict_law {S : Nat → List Ln} (hg : Good S) {place : Int} : upto (evictS S place) 4 = (upto S 4).eraseIdx (gone (upto S 4).length place) := by
  unfold evictS
  split
  · rename_i x hx
    rw [drop_law hg (upto_num hg 4 x (List.mem_of_getElem? hx)).1, erase_filter (upto_nod hg 4) hx]
  · rename_i hx
    rw [List.eraseIdx_of_length_le (List.getElem?_eq_none_iff.1 hx)]
theorem Good.filter {S : Nat → List Ln} (h : Good S) (p : Ln → Bool) : Good (fun j => (S j).filter p) :=
  ⟨fun i => Nat.le_trans (List.length_filter_le _ _) (h.two i), fun i x hx => h.num i x (List.mem_filter.1 hx).1, fun i x hx => h.top i x (List.mem_filter.1 hx).1, fun i => (h.nod i).filter _⟩
theorem Good.drop {S : Nat → List Ln} (h : Good S) (i : Nat) (p : Ln → Bool) : Good (Ytlklhempbpphhaa.put4 S i ((S i).filter p)) :=
  h.put4 (Nat.le_trans (List.length_filter_le _ _) (h.two i)) (fun x hx => h.num i x (List.mem_filter.1 hx).1) (fun x hx => h.top i x (List.mem_filter.1 hx).1) ((h.nod i).filter _)
theorem Good.evict {S : Nat → List Ln} (h : Good S) (place : Int) : Good (evictS S place) := by
  unfold evictS
  split
  · exact h.drop _ _
  · exact h
/-! ### the walk -/
theorem plays_spec {w : World} {v : Value} {l : List Ac} (hv : RowsAt w v 5 (l.map acC)) (hl : ∀ c ∈ l, c.Ok) {K : Value → World → Prop}
    (hK : ∀ w', Ext [] w w' → K (.bool true) w') : callsK Try.prog 6 #[v] w K := by
  apply F6_ok
  unfold F6
  have hlv := hv.lenR (ty := 3) Try.underlying46
  rw [List.length_map] at hlv
  simp (disch := first | assumption | omega | (simp only [szR] <;> omega) | rfl | decide) only [gen0, gen1, gen2, rulesT, litR, bolR, Nat.reduceAdd, Nat.reduceLeDiff, numR, memR, valR, heapR, updR, intR, decR, extR, slR, segR, thenR, pnR, Int.reduceToNat, Int.reduceAdd, Int.reduceSub, Int.reduceLT, Int.reduceLE, Nat.reduceSub, Nat.reduceMul, Nat.reduceEqDiff, zero58]
  refine loopT.intro (fun st w' => ∃ (k : Nat) (z : Int) (S : Nat → List Ln) (r : Value), k ≤ l.length ∧ st = [r, .int .i64 z] ∧ z = k ∧ At w' w.heap.size S ∧ Good S ∧ RowsAt w' r 3 ((upto S 4).map rfC) ∧ (∀ b, blockOf r = some b → b ≠ w.heap.size) ∧ Ext [] w w')
    (fun st _ => match st with
      | [_, .int _ z] => l.length - z.toNat
      | _ => 0) ⟨0, 0, fun _ => [], _, Nat.zero_le _, rfl, rfl, ⟨58, by simp (disch := first | assumption | omega | (simp only [szR] <;> omega) | rfl | decide) only [gen0, gen1, gen2, rulesT, litR, bolR, Nat.reduceAdd, Nat.reduceLeDiff, numR, memR, valR, heapR, updR, intR, decR, extR, slR, segR, thenR, pnR, Int.reduceToNat, Int.reduceAdd, Int.reduceSub, Int.reduceLT, Int.reduceLE, Nat.reduceSub, Nat.reduceMul, Nat.reduceEqDiff]⟩, Good.none, OwnR.nil.rows (base := 0) (e := 73), by simp [blockOf], by (repeat first | assumption | exact Ext.refl | apply Ext.alloc | apply Ext.drew | (refine Ext.updN ?_ ?_; (focus first | omega | (simp only [szR] <;> omega))) | (refine Ext.updI ?_ ?_; (focus (simp; done))))⟩ ?_
  rintro st w' ⟨k, z, S, r, hk, rfl, rfl, hS, hg, hr, hrb, hx'⟩ _
  have hv' := hv.ext hx' (by simp)
  have hbt := lt_of_at hS.choose_spec
  by_cases hlt : k < l.length
  · by_cases h60 : k < 100
    · obtain ⟨b, o, cap, L, E, f, he, hb, hfit, hsub, -⟩ := hv'.row (k := k) (r := acC l[k]) (by simp [hlt])
      have hbl := lt_of_at hb
      have hok := hl l[k] (List.getElem_mem hlt)
      have hlen : (l.map acC).length = l.length := List.length_map ..
      have hix : ∀ w, (Instr.indexAt 46 v (.int .i64 k)).run Try.prog w = .ok (.pointer (some ⟨b, o + k * 5, none⟩)) w := by
        rw [he]
        intro w
        simp (disch := first | assumption | omega | (simp only [szR] <;> omega) | rfl | decide) only [gen0, gen1, gen2, rulesT, litR, bolR, Nat.reduceAdd, Nat.reduceLeDiff, numR, memR, valR, heapR, updR, intR, decR, extR, slR, segR, thenR, pnR, Int.reduceToNat, Int.reduceAdd, Int.reduceSub, Int.reduceLT, Int.reduceLE, Nat.reduceSub, Nat.reduceMul, Nat.reduceEqDiff, hlen]
      generalize l[k] = c at hsub hok
      have hle := upto_le hg.two 4
      have hc := hok.n
      simp only [acC] at hsub
      simp (disch := first | assumption | omega | (simp only [szR] <;> omega) | rfl | decide) only [gen0, gen1, gen2, rulesT, litR, bolR, Nat.reduceAdd, Nat.reduceLeDiff, numR, memR, valR, heapR, updR, intR, decR, extR, slR, segR, thenR, pnR, Int.reduceToNat, Int.reduceAdd, Int.reduceSub, Int.reduceLT, Int.reduceLE, Nat.reduceSub, Nat.reduceMul, Nat.reduceEqDiff, joinBR, hlv, hix, hb, hsub]
      refine joinL.intro fun J3 hJ3 => ?_
      have hrest : ∀ S2 r2 w2, At w2 w.heap.size S2 → Good S2 → RowsAt w2 r2 3 ((upto S2 4).map rfC) → (∀ b, blockOf r2 = some b → b ≠ w.heap.size) → Ext [] w w2 → J3 [r2] w2 := by
        intro S2 r2 w2 h1 h2 h3 h5 h4
        have hle2 := upto_le h2.two 4
        apply hJ3
        intro _
        simp (disch := first | assumption | omega | (simp only [szR] <;> omega) | rfl | decide) only [gen0, gen1, gen2, rulesT, litR, bolR, Nat.reduceAdd, Nat.reduceLeDiff, numR, memR, valR, heapR, updR, intR, decR, extR, slR, segR, thenR, pnR, Int.reduceToNat, Int.reduceAdd, Int.reduceSub, Int.reduceLT, Int.reduceLE, Nat.reduceSub, Nat.reduceMul, Nat.reduceEqDiff]
        refine Lines_spec h1 h2.two fun v119 w3 hown hx3 => ?_
        have hrows : RowsAt w3 v119 16 ((upto S2 4).map lnC) := Own.rows (by rw [List.length_map]; exact hown) rfl (by simp [lnC_len])
        refine same_spec hrows (h3.ext hx3 (by simp)) (by omega) fun w4 hx4 => ?_
        simp (disch := first | assumption | omega | (simp only [szR] <;> omega) | rfl | decide) only [gen0, gen1, gen2, rulesT, litR, bolR, Nat.reduceAdd, Nat.reduceLeDiff, numR, memR, valR, heapR, updR, intR, decR, extR, slR, segR, thenR, pnR, Int.reduceToNat, Int.reduceAdd, Int.reduceSub, Int.reduceLT, Int.reduceLE, Nat.reduceSub, Nat.reduceMul, Nat.reduceEqDiff]
        exact ⟨⟨k + 1, _, S2, r2, by omega, rfl, by omega, (h1.ext hx3 (by simp)).ext hx4 (by simp), h2, (h3.ext hx3 (by simp)).ext hx4 (by simp), h5, (h4.trans hx3 (by simp)).trans hx4 (by simp)⟩, by simp; omega⟩
      have hx1 : Ext [] w' (w'.alloc (.cells [.int .i64 c.kind, .int .i64 c.place, .int .u64 c.a, .int .u64 c.n, .int .u64 c.x].toArray 61)) := by (repeat first | assumption | exact Ext.refl | apply Ext.alloc | apply Ext.drew | (refine Ext.updN ?_ ?_; (focus first | omega | (simp only [szR] <;> omega))) | (refine Ext.updI ?_ ?_; (focus (simp; done))))
      have hc1 : (w'.alloc (.cells [.int .i64 c.kind, .int .i64 c.place, .int .u64 c.a, .int .u64 c.n, .int .u64 c.x].toArray 61)).heap[w'.heap.size]? = some (.cells [.int .i64 c.kind, .int .i64 c.place, .int .u64 c.a, .int .u64 c.n, .int .u64 c.x].toArray 61 (0, 0)) := by simp (disch := first | assumption | omega | (simp only [szR] <;> omega) | rfl | decide) only [gen0, gen1, gen2, rulesT, litR, bolR, Nat.reduceAdd, Nat.reduceLeDiff, numR, memR, valR, heapR, updR, intR, decR, extR, slR, segR, thenR, pnR, Int.reduceToNat, Int.reduceAdd, Int.reduceSub, Int.reduceLT, Int.reduceLE, Nat.reduceSub, Nat.reduceMul, Nat.reduceEqDiff]
      have hS1 := hS.ext hx1 (by simp)
      have hr1 := hr.ext hx1 (by simp)
      have hxw := hx'.trans hx1 (by simp)
      have hsz := hx1.size
      have hcell : ∀ w2 T, Ext T (w'.alloc (.cells [.int .i64 c.kind, .int .i64 c.place, .int .u64 c.a, .int .u64 c.n, .int .u64 c.x].toArray 61)) w2 → w'.heap.size ∉ T → w2.heap[w'.heap.size]? = some (.cells [.int .i64 c.kind, .int .i64 c.place, .int .u64 c.a, .int .u64 c.n, .int .u64 c.x].toArray 61 (0, 0)) := fun w2 T h1 h2 => h1.at hc1 h2
      generalize w'.alloc (.cells [.int .i64 c.kind, .int .i64 c.place, .int .u64 c.a, .int .u64 c.n, .int .u64 c.x].toArray 61) = wc at hx1 hc1 hS1 hr1 hxw hcell hsz
      have hbs : w'.heap.size ∉ [w.heap.size] := by simp; omega
      have hrn : ∀ b, blockOf r = some b → b ∉ [w.heap.size] := fun b hb => by simpa using hrb b hb
      have hnew : ∀ (w4 : World) (v2 : Value), Ext [w.heap.size] wc w4 → (∀ b, blockOf v2 = some b → w4.heap.size ≤ b ∨ blockOf r = some b) → ∀ b, blockOf v2 = some b → b ≠ w.heap.size := fun w4 v2 h1 h2 b hb => by
        rcases h2 b hb with h | h
        · have := h1.size; omega
        · exact hrb b h
      by_cases h0 : c.kind = 0
      · simp (disch := first | assumption | omega | (simp only [szR] <;> omega) | rfl | decide) only [gen0, gen1, gen2, rulesT, litR, bolR, Nat.reduceAdd, Nat.reduceLeDiff, numR, memR, valR, heapR, updR, intR, decR, extR, slR, segR, thenR, pnR, Int.reduceToNat, Int.reduceAdd, Int.reduceSub, Int.reduceLT, Int.reduceLE, Nat.reduceSub, Nat.reduceMul, Nat.reduceEqDiff, hc1]
        refine line_spec (c := c) fun w3 hx3 => ?_
        refine Put_spec (l := ⟨c.a, c.n, c.x⟩) (hS1.ext hx3 (by simp)) hg.two hc fun w4 hS4 hx4 => ?_
        have hx5 : Ext [w.heap.size] wc w4 := (hx3.mono (by simp)).trans hx4 (by simp)
        have hc4 := hcell w4 _ hx5 hbs
        obtain ⟨A, B, p1, p2, p3, p4, p5⟩ := put_law hg (l := ⟨c.a, c.n, c.x⟩) hc.1
        have hr4 : RowsAt w4 r 3 ((upto S 4).map rfC) := hr1.at hx5 hrn
        simp (disch := first | assumption | omega | (simp only [szR] <;> omega) | rfl | decide) only [gen0, gen1, gen2, rulesT, litR, bolR, Nat.reduceAdd, Nat.reduceLeDiff, numR, memR, valR, heapR, updR, intR, decR, extR, slR, segR, thenR, pnR, Int.reduceToNat, Int.reduceAdd, Int.reduceSub, Int.reduceLT, Int.reduceLE, Nat.reduceSub, Nat.reduceMul, Nat.reduceEqDiff, hc4]
        refine rPut_spec (l := ⟨c.a, c.n, c.x⟩) hr4 (by omega) rfl (fun x hx => (upto_num hg 4 x hx).1) hc.1 p1 p2 p3 p4 fun v40 w5 hr5 hb5 hx6 => ?_
        rw [p5] at hr5
        exact hrest _ _ _ (hS4.ext hx6 (by simp)) (hg.putS hc) hr5 (hnew w4 _ hx5 hb5) ((hxw.trans hx5 (by simp)).trans hx6 (by simp))
      by_cases h1 : c.kind = 1
      · simp (disch := first | assumption | omega | (simp only [szR] <;> omega) | rfl | decide) only [gen0, gen1, gen2, rulesT, litR, bolR, Nat.reduceAdd, Nat.reduceLeDiff, numR, memR, valR, heapR, updR, intR, decR, extR, slR, segR, thenR, pnR, Int.reduceToNat, Int.reduceAdd, Int.reduceSub, Int.reduceLT, Int.reduceLE, Nat.reduceSub, Nat.reduceMul, Nat.reduceEqDiff, hc1]
        refine Look_spec hS1 hg.two hc fun w4 hx4 => ?_
        rw [look_law hg hc.1]
        have hc4 := hcell w4 _ hx4 (by simp)
        have hl4 := lt_of_at hc4
        generalize hq : rlook (upto S 4) c.a c.n = q
        have hx5 : Ext [] wc (w4.alloc (.cells (lnC q.1).toArray 52)) := by (repeat first | assumption | exact Ext.refl | apply Ext.alloc | apply Ext.drew | (refine Ext.updN ?_ ?_; (focus first | omega | (simp only [szR] <;> omega))) | (refine Ext.updI ?_ ?_; (focus (simp; done))))
        simp only [lnC] at hx5
        simp only [lnC]
        simp (disch := first | assumption | omega | (simp only [szR] <;> omega) | rfl | decide) only [gen0, gen1, gen2, rulesT, litR, bolR, Nat.reduceAdd, Nat.reduceLeDiff, numR, memR, valR, heapR, updR, intR, decR, extR, slR, segR, thenR, pnR, Int.reduceToNat, Int.reduceAdd, Int.reduceSub, Int.reduceLT, Int.reduceLE, Nat.reduceSub, Nat.reduceMul, Nat.reduceEqDiff, hc4]
        refine rLook_spec (hr1.ext hx5 (by simp)) (by omega) fun w5 hx6 => ?_
        rw [hq]
        have hq5 := hx6.at (b := w4.heap.size) (o := .cells (lnC q.1).toArray 52) (by simp only [lnC]; simp (disch := first | assumption | omega | (simp only [szR] <;> omega) | rfl | decide) only [gen0, gen1, gen2, rulesT, litR, bolR, Nat.reduceAdd, Nat.reduceLeDiff, numR, memR, valR, heapR, updR, intR, decR, extR, slR, segR, thenR, pnR, Int.reduceToNat, Int.reduceAdd, Int.reduceSub, Int.reduceLT, Int.reduceLE, Nat.reduceSub, Nat.reduceMul, Nat.reduceEqDiff]) (by simp)
        have hl5 := lt_of_at hq5
        simp only [lnC] at hq5
        simp only [rfC]
        have hqq : (q.2 == q.2) = true := by simp
        simp (disch := first | assumption | omega | (simp only [szR] <;> omega) | rfl | decide) only [gen0, gen1, gen2, rulesT, litR, bolR, Nat.reduceAdd, Nat.reduceLeDiff, numR, memR, valR, heapR, updR, intR, decR, extR, slR, segR, thenR, pnR, Int.reduceToNat, Int.reduceAdd, Int.reduceSub, Int.reduceLT, Int.reduceLE, Nat.reduceSub, Nat.reduceMul, Nat.reduceEqDiff, joinBR, hq5, hqq]
        exact hrest S r _ (((hS1.ext hx5 (by simp)).ext hx6 (by simp)).ext (Ext.alloc (S := []) Ext.refl _ _) (by simp)) hg (((hr1.ext hx5 (by simp)).ext hx6 (by simp)).ext (Ext.alloc (S := []) Ext.refl _ _) (by simp)) hrb (((hxw.trans hx5 (by simp)).trans hx6 (by simp)).alloc _ _)
      by_cases h2 : c.kind = 2
      · simp (disch := first | assumption | omega | (simp only [szR] <;> omega) | rfl | decide) only [gen0, gen1, gen2, rulesT, litR, bolR, Nat.reduceAdd, Nat.reduceLeDiff, numR, memR, valR, heapR, updR, intR, decR, extR, slR, segR, thenR, pnR, Int.reduceToNat, Int.reduceAdd, Int.reduceSub, Int.reduceLT, Int.reduceLE, Nat.reduceSub, Nat.reduceMul, Nat.reduceEqDiff, hc1]
        refine Drop_spec hS1 hg.two hc fun w4 hS4 hx4 => ?_
        have hc4 := hcell w4 _ hx4 hbs
        have hr4 : RowsAt w4 r 3 ((upto S 4).map rfC) := hr1.at hx4 hrn
        simp (disch := first | assumption | omega | (simp only [szR] <;> omega) | rfl | decide) only [gen0, gen1, gen2, rulesT, litR, bolR, Nat.reduceAdd, Nat.reduceLeDiff, numR, memR, valR, heapR, updR, intR, decR, extR, slR, segR, thenR, pnR, Int.reduceToNat, Int.reduceAdd, Int.reduceSub, Int.reduceLT, Int.reduceLE, Nat.reduceSub, Nat.reduceMul, Nat.reduceEqDiff, hc4]
        refine rDrop_spec hr4 (by omega) fun v97 w5 hr5 hx6 => ?_
        rw [← drop_law hg hc.1] at hr5
        exact hrest _ _ _ (hS4.ext hx6 (by simp)) (hg.drop _ _) hr5.rows (hnew w4 _ hx4 fun b hb => .inl (hr5.block b hb)) ((hxw.trans hx4 (by simp)).trans hx6 (by simp))
      by_cases h3 : c.kind = 3
      · simp (disch := first | assumption | omega | (simp only [szR] <;> omega) | rfl | decide) only [gen0, gen1, gen2, rulesT, litR, bolR, Nat.reduceAdd, Nat.reduceLeDiff, numR, memR, valR, heapR, updR, intR, decR, extR, slR, segR, thenR, pnR, Int.reduceToNat, Int.reduceAdd, Int.reduceSub, Int.reduceLT, Int.reduceLE, Nat.reduceSub, Nat.reduceMul, Nat.reduceEqDiff, hc1]
        refine Flush_spec hS1 hg.two fun w4 hS4 hx4 => ?_
        have hc4 := hcell w4 _ hx4 hbs
        have hr4 : RowsAt w4 r 3 ((upto S 4).map rfC) := hr1.at hx4 hrn
        simp (disch := first | assumption | omega | (simp only [szR] <;> omega) | rfl | decide) only [gen0, gen1, gen2, rulesT, litR, bolR, Nat.reduceAdd, Nat.reduceLeDiff, numR, memR, valR, heapR, updR, intR, decR, extR, slR, segR, thenR, pnR, Int.reduceToNat, Int.reduceAdd, Int.reduceSub, Int.reduceLT, Int.reduceLE, Nat.reduceSub, Nat.reduceMul, Nat.reduceEqDiff, hc4]
        refine rFlush_spec hr4 (by omega) fun v97 w5 hr5 hx6 => ?_
        rw [← flush_law] at hr5
        exact hrest _ _ _ (hS4.ext hx6 (by simp)) (hg.filter _) hr5.rows (hnew w4 _ hx4 fun b hb => .inl (hr5.block b hb)) ((hxw.trans hx4 (by simp)).trans hx6 (by simp))
      by_cases h4 : c.kind = 4
      · simp (disch := first | assumption | omega | (simp only [szR] <;> omega) | rfl | decide) only [gen0, gen1, gen2, rulesT, litR, bolR, Nat.reduceAdd, Nat.reduceLeDiff, numR, memR, valR, heapR, updR, intR, decR, extR, slR, segR, thenR, pnR, Int.reduceToNat, Int.reduceAdd, Int.reduceSub, Int.reduceLT, Int.reduceLE, Nat.reduceSub, Nat.reduceMul, Nat.reduceEqDiff, hc1]
        refine Clear_spec hS1 hg.two fun w4 hS4 hx4 => ?_
        exact hrest _ _ _ hS4 Good.none (by rw [clear_law]; exact OwnR.nil.rows (base := 0) (e := 73)) (by simp [blockOf]) (hxw.trans hx4 (by simp))
      by_cases h5 : c.kind = 5
      · simp (disch := first | assumption | omega | (simp only [szR] <;> omega) | rfl | decide) only [gen0, gen1, gen2, rulesT, litR, bolR, Nat.reduceAdd, Nat.reduceLeDiff, numR, memR, valR, heapR, updR, intR, decR, extR, slR, segR, thenR, pnR, Int.reduceToNat, Int.reduceAdd, Int.reduceSub, Int.reduceLT, Int.reduceLE, Nat.reduceSub, Nat.reduceMul, Nat.reduceEqDiff, hc1]
        refine Evict_spec hS1 hg fun w4 hS4 hx4 => ?_
        have hc4 := hcell w4 _ hx4 hbs
        have hr4 : RowsAt w4 r 3 ((upto S 4).map rfC) := hr1.at hx4 hrn
        simp (disch := first | assumption | omega | (simp only [szR] <;> omega) | rfl | decide) only [gen0, gen1, gen2, rulesT, litR, bolR, Nat.reduceAdd, Nat.reduceLeDiff, numR, memR, valR, heapR, updR, intR, decR, extR, slR, segR, thenR, pnR, Int.reduceToNat, Int.reduceAdd, Int.reduceSub, Int.reduceLT, Int.reduceLE, Nat.reduceSub, Nat.reduceMul, Nat.reduceEqDiff, hc4]
        refine rEvict_spec hr4 (by omega) fun v97 w5 hr5 hb5 hx6 => ?_
        rw [← evict_law hg] at hr5
        exact hrest _ _ _ (hS4.ext hx6 (by simp)) (hg.evict _) hr5 (hnew w4 _ hx4 hb5) ((hxw.trans hx4 (by simp)).trans hx6 (by simp))
      simp (disch := first | assumption | omega | (simp only [szR] <;> omega) | rfl | decide) only [gen0, gen1, gen2, rulesT, litR, bolR, Nat.reduceAdd, Nat.reduceLeDiff, numR, memR, valR, heapR, updR, intR, decR, extR, slR, segR, thenR, pnR, Int.reduceToNat, Int.reduceAdd, Int.reduceSub, Int.reduceLT, Int.reduceLE, Nat.reduceSub, Nat.reduceMul, Nat.reduceEqDiff, hc1]
      exact hrest S r wc hS1 hg hr1 hrb hxw
    · simp (disch := first | assumption | omega | (simp only [szR] <;> omega) | rfl | decide) only [gen0, gen1, gen2, rulesT, litR, bolR, Nat.reduceAdd, Nat.reduceLeDiff, numR, memR, valR, heapR, updR, intR, decR, extR, slR, segR, thenR, pnR, Int.reduceToNat, Int.reduceAdd, Int.reduceSub, Int.reduceLT, Int.reduceLE, Nat.reduceSub, Nat.reduceMul, Nat.reduceEqDiff, joinBR, hlv]
      exact one_spec fun w3 hx3 => hK _ (hx'.trans hx3 (by simp))
  · simp (disch := first | assumption | omega | (simp only [szR] <;> omega) | rfl | decide) only [gen0, gen1, gen2, rulesT, litR, bolR, Nat.reduceAdd, Nat.reduceLeDiff, numR, memR, valR, heapR, updR, intR, decR, extR, slR, segR, thenR, pnR, Int.reduceToNat, Int.reduceAdd, Int.reduceSub, Int.reduceLT, Int.reduceLE, Nat.reduceSub, Nat.reduceMul, Nat.reduceEqDiff, joinBR, hlv]
    exact one_spec fun w3 hx3 => hK _ (hx'.trans hx3 (by simp))
end Go.Proofs.Ytlklhempbpphhaa
