/- Physical memory: frames of bytes and tags, and what loads and stores make of them; conditions: those of each theorem. -/
import Derived.Test.YtfpcflmgipklcaaTags
namespace Go.Proofs.Ytfpcflmgipklcaa
open Go.Fx
set_option maxRecDepth 100000
set_option linter.unusedSimpArgs false
set_option linter.unusedVariables false
/-- the cells of so many frames: bytes by their address, tags by their words. -/
structure Cells (L : List Value) (n : Nat) (m g : Nat → Int) : Prop where
  len : L.length = n * 4100
  byte : ∀ p i, p < n → i < 4096 → L[p * 4100 + i]? = some (.int .u8 (m (p * 4096 + i)))
  word : ∀ p j, p < n → j < 4 → L[p * 4100 + 4096 + j]? = some (.int .u64 (g (p * 4 + j)))
def Byte (m : Nat → Int) : Prop := ∀ a, 0 ≤ m a ∧ m a < 256
theorem Byte.wset {m : Nat → Int} (h : Byte m) {k : Nat} {v : Int} (hv : 0 ≤ v ∧ v < 256) : Byte (wset m k v) := by
  intro j
  unfold Ytfpcflmgipklcaa.wset
  split
  · exact hv
  · exact h j
/-- memory at a pointer's block r, its frames in block q. -/
structure Mem (w : World) (r q n : Nat) (m g : Nat → Int) : Prop where
  head : w.heap[r]? = some (.cells [.slice (some ⟨q, 0, none⟩) n n].toArray 78 (0, 0))
  body : ∃ L, w.heap[q]? = some (.cells L.toArray 121 (0, 0)) ∧ Cells L n m g
  byte : Byte m
  word : Wok g
theorem Mem.ne {w : World} {r q n : Nat} {m g : Nat → Int} (h : Mem w r q n m g) : r ≠ q := by
  rintro rfl
  obtain ⟨L, h1, -⟩ := h.body
  rw [h.head] at h1
  simp only [Option.some.injEq, Obj.cells.injEq] at h1
  exact absurd h1.2.1 (by decide)
theorem Mem.lt {w : World} {r q n : Nat} {m g : Nat → Int} (h : Mem w r q n m g) : r < w.heap.size ∧ q < w.heap.size := ⟨lt_of_at h.head, lt_of_at h.body.choose_spec.1⟩
theorem Mem.ext {w w' : World} {r q n : Nat} {m g : Nat → Int} {S : List Nat} (h : Mem w r q n m g) (hx : Ext S w w') (hr : r ∉ S) (hq : q ∉ S) : Mem w' r q n m g :=
  ⟨hx.at h.head hr, ⟨_, hx.at h.body.choose_spec.1 hq, h.body.choose_spec.2⟩, h.byte, h.word⟩
theorem Cells.set {L : List Value} {n : Nat} {m g : Nat → Int} (h : Cells L n m g) {p i : Nat} {v : Int} (hp : p < n) (hi : i < 4096) : Cells (L.set (p * 4100 + i) (.int .u8 v)) n (wset m (p * 4096 + i) v) g := by
  have hl := h.len
  refine ⟨by rw [List.length_set, h.len], fun p' i' hp' hi' => ?_, fun p' j hp' hj => ?_⟩
  · rw [List.getElem?_set]
    unfold wset
    by_cases hc : p * 4100 + i = p' * 4100 + i'
    · have : p = p' ∧ i = i' := by omega
      rw [if_pos hc, if_pos (by omega), if_pos (by omega)]
    · rw [if_neg hc, if_neg (by omega), h.byte p' i' hp' hi']
  · rw [List.getElem?_set, if_neg (by omega), h.word p' j hp' hj]
def wset4 (g : Nat → Int) (p : Nat) (t : Nat → Int) : Nat → Int := fun k => if k / 4 = p then t (k % 4) else g k
theorem Cells.tags {L : List Value} {n : Nat} {m g : Nat → Int} (h : Cells L n m g) {p : Nat} {t : Nat → Int} (hp : p < n) : Cells (splice L (p * 4100 + 4096) (tgC t)) n m (wset4 g p t) := by
  have hl := h.len
  have ht : (tgC t).length = 4 := tgC_len t
  refine ⟨by rw [splice_length (by omega), h.len], fun p' i' hp' hi' => ?_, fun p' j hp' hj => ?_⟩
  · rw [splice_get (by omega), ← h.byte p' i' hp' hi']
    by_cases h1 : p' * 4100 + i' < p * 4100 + 4096
    · rw [if_pos h1]
    · rw [if_neg h1, if_neg (by omega)]
  · rw [splice_get (by omega)]
    unfold wset4
    by_cases hc : p' = p
    · subst hc
      rw [if_neg (by omega), if_pos (by omega), show p' * 4100 + 4096 + j - (p' * 4100 + 4096) = j by omega, tgC_get hj, if_pos (by omega), show (p' * 4 + j) % 4 = j by omega]
    · rw [if_neg (show ¬ (p' * 4 + j) / 4 = p by omega), ← h.word p' j hp' hj]
      by_cases h1 : p' * 4100 + 4096 + j < p * 4100 + 4096
      · rw [if_pos h1]
      · rw [if_neg h1, if_neg (by omega)]
theorem Cells.sub {L : List Value} {n : Nat} {m g : Nat → Int} (h : Cells L n m g) {p : Nat} (hp : p < n) : sub L (p * 4100 + 4096) 4 = tgC (fun j => g (p * 4 + j)) := by
  have hl := h.len
  apply List.ext_getElem?
  intro i
  unfold Go.Fx.sub
  by_cases hi : i < 4
  · rw [List.getElem?_take_of_lt hi, List.getElem?_drop, h.word p i hp hi, tgC_get hi]
  · rw [List.getElem?_eq_none (by simp; omega), List.getElem?_eq_none (by rw [tgC_len]; omega)]
theorem wset4_ok {g t : Nat → Int} {p : Nat} (hg : Wok g) (ht : Wok t) : Wok (wset4 g p t) := by
  intro k
  unfold wset4
  split
  · exact ht _
  · exact hg k
/-- whether a granule has its tag. -/
def tagOf (g : Nat → Int) (i : Nat) : Bool := bit g i
theorem none_spec {w : World} {r q n : Nat} {m g : Nat → Int} (h : Mem w r q n m g) (hn : 0 < n ∧ n ≤ 1000) {K : Value → World → Prop} (hK : K (.bool false) w) : callsK Try.prog 58 #[.pointer (some ⟨r, 0, none⟩)] w K := by
  have h1 := h.head
  apply F58_ok
  unfold F58
  simp (disch := first | assumption | omega | (simp only [szR, tgC_len, tgC_all] <;> omega) | rfl | decide) only [gen0, gen1, gen2, rulesM, litR, bolR, Nat.reduceAdd, Nat.reduceLeDiff, numR, memR, valR, heapR, updR, intR, decR, extR, slR, segR, thenR, pnR, Int.reduceToNat, Int.reduceAdd, Int.reduceSub, Int.reduceLT, Int.reduceLE, Nat.reduceSub, Nat.reduceMul, Nat.reduceEqDiff, joinBR, h1, Option.isNone_some]
  exact hK
theorem place_spec {w : World} {r q n : Nat} {m g : Nat → Int} {a s : Int} (h : Mem w r q n m g) (hn : 0 < n ∧ n ≤ 1000) (ha : 0 ≤ a ∧ a < 18446744073709551616) (hs : 1 ≤ s ∧ s < 18446744073709551616) {K : Value → World → Prop}
    (h1 : a % s = 0 → a / 4096 < n → K (.tuple #[.pointer (some ⟨q, (a / 4096).toNat * 4100, none⟩), .int .i64 (a % 4096), .int .i64 0]) w)
    (h2 : ¬ (a % s = 0 ∧ a / 4096 < n) → K (.tuple #[.pointer none, .int .i64 0, .int .i64 2]) w) : callsK Try.prog 62 #[.pointer (some ⟨r, 0, none⟩), .int .u64 a, .int .u64 s] w K := by
  have hh := h.head
  apply F62_ok
  unfold F62
  simp (disch := first | assumption | omega | (simp only [szR, tgC_len, tgC_all] <;> omega) | rfl | decide) only [gen0, gen1, gen2, rulesM, litR, bolR, Nat.reduceAdd, Nat.reduceLeDiff, numR, memR, valR, heapR, updR, intR, decR, extR, slR, segR, thenR, pnR, Int.reduceToNat, Int.reduceAdd, Int.reduceSub, Int.reduceLT, Int.reduceLE, Nat.reduceSub, Nat.reduceMul, Nat.reduceEqDiff]
  refine none_spec h hn ?_
  by_cases c1 : a % s = 0
  · by_cases c2 : a / 4096 < n
    · simp (disch := first | assumption | omega | (simp only [szR, tgC_len, tgC_all] <;> omega) | rfl | decide) only [gen0, gen1, gen2, rulesM, litR, bolR, Nat.reduceAdd, Nat.reduceLeDiff, numR, memR, valR, heapR, updR, intR, decR, extR, slR, segR, thenR, pnR, Int.reduceToNat, Int.reduceAdd, Int.reduceSub, Int.reduceLT, Int.reduceLE, Nat.reduceSub, Nat.reduceMul, Nat.reduceEqDiff, joinBR, hh, c1]
      exact h1 c1 c2
    · simp (disch := first | assumption | omega | (simp only [szR, tgC_len, tgC_all] <;> omega) | rfl | decide) only [gen0, gen1, gen2, rulesM, litR, bolR, Nat.reduceAdd, Nat.reduceLeDiff, numR, memR, valR, heapR, updR, intR, decR, extR, slR, segR, thenR, pnR, Int.reduceToNat, Int.reduceAdd, Int.reduceSub, Int.reduceLT, Int.reduceLE, Nat.reduceSub, Nat.reduceMul, Nat.reduceEqDiff, joinBR, hh, c1]
      exact h2 fun h => c2 h.2
  · simp (disch := first | assumption | omega | (simp only [szR, tgC_len, tgC_all] <;> omega) | rfl | decide) only [gen0, gen1, gen2, rulesM, litR, bolR, Nat.reduceAdd, Nat.reduceLeDiff, numR, memR, valR, heapR, updR, intR, decR, extR, slR, segR, thenR, pnR, Int.reduceToNat, Int.reduceAdd, Int.reduceSub, Int.reduceLT, Int.reduceLE, Nat.reduceSub, Nat.reduceMul, Nat.reduceEqDiff, joinBR, hh]
    exact h2 fun h => c1 h.1
theorem number_spec {w : World} {k : Int} {K : Value → World → Prop} (hK : K (if k = 1 ∨ k = 2 ∨ k = 4 ∨ k = 8 then .tuple #[.int .u64 k, .bool true] else .tuple #[.int .u64 1, .bool false]) w) : callsK Try.prog 61 #[.int .i64 k] w K := by
  apply F61_ok
  unfold F61
  by_cases c1 : k = 1
  · rw [if_pos (.inl c1)] at hK
    simp (disch := first | assumption | omega | (simp only [szR, tgC_len, tgC_all] <;> omega) | rfl | decide) only [gen0, gen1, gen2, rulesM, litR, bolR, Nat.reduceAdd, Nat.reduceLeDiff, numR, memR, valR, heapR, updR, intR, decR, extR, slR, segR, thenR, pnR, Int.reduceToNat, Int.reduceAdd, Int.reduceSub, Int.reduceLT, Int.reduceLE, Nat.reduceSub, Nat.reduceMul, Nat.reduceEqDiff, joinR]
    intro _
    exact hK
  by_cases c2 : k = 2
  · rw [if_pos (.inr (.inl c2))] at hK
    simp (disch := first | assumption | omega | (simp only [szR, tgC_len, tgC_all] <;> omega) | rfl | decide) only [gen0, gen1, gen2, rulesM, litR, bolR, Nat.reduceAdd, Nat.reduceLeDiff, numR, memR, valR, heapR, updR, intR, decR, extR, slR, segR, thenR, pnR, Int.reduceToNat, Int.reduceAdd, Int.reduceSub, Int.reduceLT, Int.reduceLE, Nat.reduceSub, Nat.reduceMul, Nat.reduceEqDiff, joinR]
    intro _
    exact hK
  by_cases c3 : k = 4
  · rw [if_pos (.inr (.inr (.inl c3)))] at hK
    simp (disch := first | assumption | omega | (simp only [szR, tgC_len, tgC_all] <;> omega) | rfl | decide) only [gen0, gen1, gen2, rulesM, litR, bolR, Nat.reduceAdd, Nat.reduceLeDiff, numR, memR, valR, heapR, updR, intR, decR, extR, slR, segR, thenR, pnR, Int.reduceToNat, Int.reduceAdd, Int.reduceSub, Int.reduceLT, Int.reduceLE, Nat.reduceSub, Nat.reduceMul, Nat.reduceEqDiff, joinR]
    intro _
    exact hK
  by_cases c4 : k = 8
  · rw [if_pos (.inr (.inr (.inr c4)))] at hK
    simp (disch := first | assumption | omega | (simp only [szR, tgC_len, tgC_all] <;> omega) | rfl | decide) only [gen0, gen1, gen2, rulesM, litR, bolR, Nat.reduceAdd, Nat.reduceLeDiff, numR, memR, valR, heapR, updR, intR, decR, extR, slR, segR, thenR, pnR, Int.reduceToNat, Int.reduceAdd, Int.reduceSub, Int.reduceLT, Int.reduceLE, Nat.reduceSub, Nat.reduceMul, Nat.reduceEqDiff, joinR]
    intro _
    exact hK
  rw [if_neg (by omega)] at hK
  simp (disch := first | assumption | omega | (simp only [szR, tgC_len, tgC_all] <;> omega) | rfl | decide) only [gen0, gen1, gen2, rulesM, litR, bolR, Nat.reduceAdd, Nat.reduceLeDiff, numR, memR, valR, heapR, updR, intR, decR, extR, slR, segR, thenR, pnR, Int.reduceToNat, Int.reduceAdd, Int.reduceSub, Int.reduceLT, Int.reduceLE, Nat.reduceSub, Nat.reduceMul, Nat.reduceEqDiff, joinR]
  intro _
  exact hK
/-- each index in turn. -/
theorem each_spec {w : World} {f : Value} {n : Nat} {I : Nat → World → Prop} (hn : n ≤ 1000000) (hI : I 0 w) (hf : ∀ i w', i < n → I i w' → ∀ K : Value → World → Prop, (∀ w'', I (i + 1) w'' → K (.tuple #[]) w'') → kN Try.prog (callN f #[.int .i64 i]) w' K) {K : Value → World → Prop}
    (hK : ∀ w', I n w' → K (.tuple #[]) w') : callsK Try.prog 63 #[.int .i64 n, f] w K := by
  apply F63_ok
  unfold F63
  refine loopT.intro (fun st w' => ∃ (k : Nat) (z : Int), k ≤ n ∧ st = [.int .i64 z] ∧ z = k ∧ I k w')
    (fun st _ => match st with
      | [.int _ z] => n - z.toNat
      | _ => 0) ⟨0, 0, by omega, rfl, rfl, hI⟩ ?_
  rintro st w' ⟨k, z, hk, rfl, rfl, hi⟩ _
  by_cases hkn : k < n
  · simp (disch := first | assumption | omega | (simp only [szR, tgC_len, tgC_all] <;> omega) | rfl | decide) only [gen0, gen1, gen2, rulesM, litR, bolR, Nat.reduceAdd, Nat.reduceLeDiff, numR, memR, valR, heapR, updR, intR, decR, extR, slR, segR, thenR, pnR, Int.reduceToNat, Int.reduceAdd, Int.reduceSub, Int.reduceLT, Int.reduceLE, Nat.reduceSub, Nat.reduceMul, Nat.reduceEqDiff]
    refine hf k w' hkn hi _ fun w2 h2 => ?_
    simp (disch := first | assumption | omega | (simp only [szR, tgC_len, tgC_all] <;> omega) | rfl | decide) only [gen0, gen1, gen2, rulesM, litR, bolR, Nat.reduceAdd, Nat.reduceLeDiff, numR, memR, valR, heapR, updR, intR, decR, extR, slR, segR, thenR, pnR, Int.reduceToNat, Int.reduceAdd, Int.reduceSub, Int.reduceLT, Int.reduceLE, Nat.reduceSub, Nat.reduceMul, Nat.reduceEqDiff]
    exact ⟨⟨k + 1, (k : Int) + 1, by omega, rfl, by omega, h2⟩, by first | omega | (simp <;> omega)⟩
  · obtain rfl : k = n := by omega
    simp (disch := first | assumption | omega | (simp only [szR, tgC_len, tgC_all] <;> omega) | rfl | decide) only [gen0, gen1, gen2, rulesM, litR, bolR, Nat.reduceAdd, Nat.reduceLeDiff, numR, memR, valR, heapR, updR, intR, decR, extR, slR, segR, thenR, pnR, Int.reduceToNat, Int.reduceAdd, Int.reduceSub, Int.reduceLT, Int.reduceLE, Nat.reduceSub, Nat.reduceMul, Nat.reduceEqDiff]
    exact hK _ hi
/-! ### storing -/
def stored (m : Nat → Int) (a s : Nat) (v : Int) : Nat → Int := fun x => if a ≤ x ∧ x < a + s then ((v.toNat / 2 ^ (8 * (x - a)) % 256 : Nat) : Int) else m x
theorem stored_zero (m : Nat → Int) (a : Nat) (v : Int) : stored m a 0 v = m := by
  funext x
  unfold stored
  rw [if_neg (by omega)]
theorem stored_succ (m : Nat → Int) (a i : Nat) (v : Int) : wset (stored m a i v) (a + i) ((v.toNat / 2 ^ (8 * i) % 256 : Nat) : Int) = stored m a (i + 1) v := by
  funext x
  unfold wset stored
  by_cases h : x = a + i
  · subst h
    rw [if_pos rfl, if_pos (by omega), show a + i - a = i by omega]
  · rw [if_neg h]
    by_cases h2 : a ≤ x ∧ x < a + i
    · rw [if_pos h2, if_pos (by omega)]
    · rw [if_neg h2, if_neg (by omega)]
theorem stored_byte {m : Nat → Int} (h : Byte m) (a s : Nat) (v : Int) : Byte (stored m a s v) := by
  intro x
  unfold stored
  split
  · have := Nat.mod_lt (v.toNat / 2 ^ (8 * (x - a))) (show 0 < 256 by omega)
    omega
  · exact h x
theorem wrapU8 (n : Int) : IntKind.u8.wrap n = n % 256 := by
  simp [IntKind.wrap, IntKind.signed, IntKind.bits]
theorem fdiv_pow {v : Int} (h : 0 ≤ v) (k : Nat) : v.fdiv (2 ^ k) = ((v.toNat / 2 ^ k : Nat) : Int) := by
  rw [Int.fdiv_eq_ediv_of_nonneg _ (Int.le_of_lt (Int.pow_pos (by omega)))]
  have : v = (v.toNat : Int) := by omega
  rw [this]
  simp
/-- the cells that a store goes by. -/
structure At3 (w : World) (b7 b11 b12 q p : Nat) (off : Int) (v : Value) : Prop where
  c7 : w.heap[b7]? = some (.cells [v].toArray 23 (0, 0))
  c11 : w.heap[b11]? = some (.cells [.pointer (some ⟨q, p * 4100, none⟩)].toArray 113 (0, 0))
  c12 : w.heap[b12]? = some (.cells [.int .i64 off].toArray 3 (0, 0))
theorem storeF_spec {w : World} {b7 b11 b12 r q n p i : Nat} {o : Nat} {v : Int} {m g : Nat → Int} (h3 : At3 w b7 b11 b12 q p o (.int .u64 v)) (h : Mem w r q n m g) (hp : p < n) (hn : n ≤ 1000) (hi : o + i < 4096) (hi8 : i < 8) (hv : 0 ≤ v ∧ v < 18446744073709551616) {K : Value → World → Prop}
    (hK : ∀ w', Mem w' r q n (wset m (p * 4096 + (o + i)) ((v.toNat / 2 ^ (8 * i) % 256 : Nat) : Int)) g → Ext [q] w w' → K (.tuple #[]) w') :
    callsK Try.prog 64 #[.int .i64 i, .pointer (some ⟨b7, 0, none⟩), .pointer (some ⟨b11, 0, none⟩), .pointer (some ⟨b12, 0, none⟩)] w K := by
  obtain ⟨c7, c11, c12⟩ := h3
  obtain ⟨L, hb, hL⟩ := h.body
  have hl := hL.len
  have hq := h.lt
  have hne := h.ne
  have hfd := fdiv_pow hv.1 (8 * i)
  have he : (8 * (i : Int)).toNat = 8 * i := by omega
  have hw8 := wrapU8 ((v.toNat / 2 ^ (8 * i) : Nat) : Int)
  have hwe : ((v.toNat / 2 ^ (8 * i) : Nat) : Int) % 256 = ((v.toNat / 2 ^ (8 * i) % 256 : Nat) : Int) := by simp
  rw [hwe] at hw8
  have hbyte := Nat.mod_lt (v.toNat / 2 ^ (8 * i)) (show 0 < 256 by omega)
  obtain ⟨x, hx⟩ : ∃ x, x = v.toNat / 2 ^ (8 * i) := ⟨_, rfl⟩
  rw [← hx] at hfd hw8 hbyte hK
  have hidx : ((o : Int) + (i : Int)).toNat = o + i := by omega
  apply F64_ok
  unfold F64
  simp (disch := first | assumption | omega | (simp only [szR, tgC_len, tgC_all] <;> omega) | rfl | decide) only [gen0, gen1, gen2, rulesM, litR, bolR, Nat.reduceAdd, Nat.reduceLeDiff, numR, memR, valR, heapR, updR, intR, decR, extR, slR, segR, thenR, pnR, Int.reduceToNat, Int.reduceAdd, Int.reduceSub, Int.reduceLT, Int.reduceLE, Nat.reduceSub, Nat.reduceMul, Nat.reduceEqDiff, c7, c11, c12, hb, he, hfd, hw8, hidx]
  have hs := hL.set (p := p) (i := o + i) (v := ((x % 256 : Nat) : Int)) hp hi
  refine hK _ ⟨?_, ⟨_, ?_, hs⟩, h.byte.wset (by omega), h.word⟩ ?_
  · have := h.head
    (first | with_reducible rfl | assumption | (simp (disch := first | assumption | omega | (simp only [szR, tgC_len, tgC_all] <;> omega) | rfl | decide) only [gen0, gen1, gen2, rulesM, litR, bolR, Nat.reduceAdd, Nat.reduceLeDiff, numR, memR, valR, heapR, updR, intR, decR, extR, slR, segR, thenR, pnR, Int.reduceToNat, Int.reduceAdd, Int.reduceSub, Int.reduceLT, Int.reduceLE, Nat.reduceSub, Nat.reduceMul, Nat.reduceEqDiff, this] <;> try rfl))
  · (first | with_reducible rfl | assumption | (simp (disch := first | assumption | omega | (simp only [szR, tgC_len, tgC_all] <;> omega) | rfl | decide) only [gen0, gen1, gen2, rulesM, litR, bolR, Nat.reduceAdd, Nat.reduceLeDiff, numR, memR, valR, heapR, updR, intR, decR, extR, slR, segR, thenR, pnR, Int.reduceToNat, Int.reduceAdd, Int.reduceSub, Int.reduceLT, Int.reduceLE, Nat.reduceSub, Nat.reduceMul, Nat.reduceEqDiff, hb] <;> try rfl))
  · (repeat first | assumption | exact Ext.refl | apply Ext.alloc | apply Ext.drew | (refine Ext.updN ?_ ?_; (focus first | omega | (simp only [szR] <;> omega))) | (refine Ext.updI ?_ ?_; (focus (simp; done))))
theorem kept0 {w w' : World} (h : Ext [] w w') : ∀ k, k < w.heap.size → w'.heap[k]? = w.heap[k]? := fun k hk => h.kept k hk (by simp)
theorem bit_wset4 {g t : Nat → Int} {p x : Nat} : bit (wset4 g p t) x = if x / 256 = p then bit t (x % 256) else bit g x := by
  unfold bit wset4
  by_cases h : x / 256 = p
  · rw [if_pos (by omega), if_pos h]
    rw [show x / 64 % 4 = x % 256 / 64 by omega, show x % 256 % 64 = x % 64 by omega]
  · rw [if_neg (by omega), if_neg h]
theorem bit_page {g : Nat → Int} {p x : Nat} (h : x < 256) : bit (fun j => g (p * 4 + j)) x = bit g (p * 256 + x) := by
  unfold bit
  rw [show (p * 256 + x) / 64 = p * 4 + x / 64 by omega, show (p * 256 + x) % 64 = x % 64 by omega]
/-- a size that numbers may have. -/
def Size (s : Nat) : Prop := s = 1 ∨ s = 2 ∨ s = 4 ∨ s = 8
set_option maxHeartbeats 4000000 in
theorem Store_spec {w : World} {r q n a s : Nat} {v : Int} {m g : Nat → Int} (h : Mem w r q n m g) (hn : 0 < n ∧ n ≤ 1000) (ha : a < n * 4096) (hs : Size s) (hal : a % s = 0) (hv : 0 ≤ v ∧ v < 18446744073709551616) {K : Value → World → Prop}
    (hK : ∀ g' w', Mem w' r q n (stored m a s v) g' → (∀ x, x < n * 256 → bit g' x = (bit g x && !decide (x = a / 16))) → Ext [q] w w' → K (.int .i64 0) w') :
    callsK Try.prog 36 #[.pointer (some ⟨r, 0, none⟩), .int .u64 a, .int .i64 s, .int .u64 v] w K := by
  have hs8 : s ≤ 8 ∧ 1 ≤ s := by rcases hs with h | h | h | h <;> omega
  have hoff : a % 4096 + s ≤ 4096 := by rcases hs with h | h | h | h <;> subst h <;> omega
  have hgr : (a % 4096 + s - 1) / 16 = a % 4096 / 16 := by rcases hs with h | h | h | h <;> subst h <;> omega
  have hq := h.lt
  have hne := h.ne
  apply F36_ok
  unfold F36
  simp (disch := first | assumption | omega | (simp only [szR, tgC_len, tgC_all] <;> omega) | rfl | decide) only [gen0, gen1, gen2, rulesM, litR, bolR, Nat.reduceAdd, Nat.reduceLeDiff, numR, memR, valR, heapR, updR, intR, decR, extR, slR, segR, thenR, pnR, Int.reduceToNat, Int.reduceAdd, Int.reduceSub, Int.reduceLT, Int.reduceLE, Nat.reduceSub, Nat.reduceMul, Nat.reduceEqDiff]
  refine number_spec ?_
  rw [if_pos (by rcases hs with h | h | h | h <;> omega)]
  simp (disch := first | assumption | omega | (simp only [szR, tgC_len, tgC_all] <;> omega) | rfl | decide) only [gen0, gen1, gen2, rulesM, litR, bolR, Nat.reduceAdd, Nat.reduceLeDiff, numR, memR, valR, heapR, updR, intR, decR, extR, slR, segR, thenR, pnR, Int.reduceToNat, Int.reduceAdd, Int.reduceSub, Int.reduceLT, Int.reduceLE, Nat.reduceSub, Nat.reduceMul, Nat.reduceEqDiff]
  have hx1 : Ext [] w (w.alloc (.cells [.int .u64 v].toArray 23)) := by (repeat first | assumption | exact Ext.refl | apply Ext.alloc | apply Ext.drew | (refine Ext.updN ?_ ?_; (focus first | omega | (simp only [szR] <;> omega))) | (refine Ext.updI ?_ ?_; (focus (simp; done))))
  refine place_spec (h.ext hx1 (by simp) (by simp)) hn (by omega) (by omega) (fun c1 c2 => ?_) (fun c => absurd ⟨by omega, by omega⟩ c)
  have e1 : ((a : Int) / 4096).toNat = a / 4096 := by omega
  have e2 : (a : Int) % 4096 = ((a % 4096 : Nat) : Int) := by omega
  rw [e1, e2]
  simp (disch := first | assumption | omega | (simp only [szR, tgC_len, tgC_all] <;> omega) | rfl | decide) only [gen0, gen1, gen2, rulesM, litR, bolR, Nat.reduceAdd, Nat.reduceLeDiff, numR, memR, valR, heapR, updR, intR, decR, extR, slR, segR, thenR, pnR, Int.reduceToNat, Int.reduceAdd, Int.reduceSub, Int.reduceLT, Int.reduceLE, Nat.reduceSub, Nat.reduceMul, Nat.reduceEqDiff, joinBR]
  refine joinL.intro fun J0 hJ0 => ?_
  simp (disch := first | assumption | omega | (simp only [szR, tgC_len, tgC_all] <;> omega) | rfl | decide) only [gen0, gen1, gen2, rulesM, litR, bolR, Nat.reduceAdd, Nat.reduceLeDiff, numR, memR, valR, heapR, updR, intR, decR, extR, slR, segR, thenR, pnR, Int.reduceToNat, Int.reduceAdd, Int.reduceSub, Int.reduceLT, Int.reduceLE, Nat.reduceSub, Nat.reduceMul, Nat.reduceEqDiff, joinBR]
  apply hJ0
  intro _
  simp (disch := first | assumption | omega | (simp only [szR, tgC_len, tgC_all] <;> omega) | rfl | decide) only [gen0, gen1, gen2, rulesM, litR, bolR, Nat.reduceAdd, Nat.reduceLeDiff, numR, memR, valR, heapR, updR, intR, decR, extR, slR, segR, thenR, pnR, Int.reduceToNat, Int.reduceAdd, Int.reduceSub, Int.reduceLT, Int.reduceLE, Nat.reduceSub, Nat.reduceMul, Nat.reduceEqDiff, joinBR]
  refine each_spec (n := s) (by omega) (I := fun i w' => At3 w' w.heap.size (w.heap.size + 1) (w.heap.size + 1 + 1) q (a / 4096) ((a % 4096 : Nat) : Int) (.int .u64 v) ∧ Mem w' r q n (stored m a i v) g ∧ Ext [q] w w') ⟨⟨by simp (disch := first | assumption | omega | (simp only [szR, tgC_len, tgC_all] <;> omega) | rfl | decide) only [gen0, gen1, gen2, rulesM, litR, bolR, Nat.reduceAdd, Nat.reduceLeDiff, numR, memR, valR, heapR, updR, intR, decR, extR, slR, segR, thenR, pnR, Int.reduceToNat, Int.reduceAdd, Int.reduceSub, Int.reduceLT, Int.reduceLE, Nat.reduceSub, Nat.reduceMul, Nat.reduceEqDiff], by simp (disch := first | assumption | omega | (simp only [szR, tgC_len, tgC_all] <;> omega) | rfl | decide) only [gen0, gen1, gen2, rulesM, litR, bolR, Nat.reduceAdd, Nat.reduceLeDiff, numR, memR, valR, heapR, updR, intR, decR, extR, slR, segR, thenR, pnR, Int.reduceToNat, Int.reduceAdd, Int.reduceSub, Int.reduceLT, Int.reduceLE, Nat.reduceSub, Nat.reduceMul, Nat.reduceEqDiff], by simp (disch := first | assumption | omega | (simp only [szR, tgC_len, tgC_all] <;> omega) | rfl | decide) only [gen0, gen1, gen2, rulesM, litR, bolR, Nat.reduceAdd, Nat.reduceLeDiff, numR, memR, valR, heapR, updR, intR, decR, extR, slR, segR, thenR, pnR, Int.reduceToNat, Int.reduceAdd, Int.reduceSub, Int.reduceLT, Int.reduceLE, Nat.reduceSub, Nat.reduceMul, Nat.reduceEqDiff]⟩, ?_, by (repeat first | assumption | exact Ext.refl | apply Ext.alloc | apply Ext.drew | (refine Ext.updN ?_ ?_; (focus first | omega | (simp only [szR] <;> omega))) | (refine Ext.updI ?_ ?_; (focus (simp; done))))⟩ ?_ fun w2 h2 => ?_
  · rw [stored_zero]
    refine h.ext (S := []) ?_ (by simp) (by simp)
    (repeat first | assumption | exact Ext.refl | apply Ext.alloc | apply Ext.drew | (refine Ext.updN ?_ ?_; (focus first | omega | (simp only [szR] <;> omega))) | (refine Ext.updI ?_ ?_; (focus (simp; done))))
  · rintro i w2 hi ⟨h1, h2, h3⟩ K hK
    simp (disch := first | assumption | omega | (simp only [szR, tgC_len, tgC_all] <;> omega) | rfl | decide) only [gen0, gen1, gen2, rulesM, litR, bolR, Nat.reduceAdd, Nat.reduceLeDiff, numR, memR, valR, heapR, updR, intR, decR, extR, slR, segR, thenR, pnR, Int.reduceToNat, Int.reduceAdd, Int.reduceSub, Int.reduceLT, Int.reduceLE, Nat.reduceSub, Nat.reduceMul, Nat.reduceEqDiff]
    refine storeF_spec h1 h2 (by omega) hn.2 (by omega) (by omega) hv fun w3 h4 h5 => hK w3 ⟨?_, ?_, h3.trans h5 (by simp)⟩
    · exact ⟨h5.at h1.c7 (by simp; omega), h5.at h1.c11 (by simp; omega), h5.at h1.c12 (by simp; omega)⟩
    · have e3 : a / 4096 * 4096 + (a % 4096 + i) = a + i := by omega
      rw [e3, stored_succ] at h4
      exact h4
  obtain ⟨⟨c7, c11, c12⟩, hm, hx⟩ := h2
  obtain ⟨L, hb, hL⟩ := hm.body
  have hl := hL.len
  have hhd := hm.head
  have hsub := hL.sub (p := a / 4096) (by omega)
  have hql := hm.lt
  have l11 := lt_of_at c11
  have l12 := lt_of_at c12
  refine joinL.intro fun J2 hJ2 => ?_
  have hrest : ∀ gw w6, Wok gw → (∀ j, j < 256 → bit gw j = (bit (fun j => g (a / 4096 * 4 + j)) j && !decide (j = a % 4096 / 16))) → w6.heap[r]? = some (.cells [.slice (some ⟨q, 0, none⟩) n n].toArray 78 (0, 0)) → w6.heap[q]? = some (.cells (splice L (a / 4096 * 4100 + 4096) (tgC gw)).toArray 121 (0, 0)) → Ext [q] w w6 → J2 [] w6 := by
    intro gw w6 g1 g2 g3 g4 g5
    apply hJ2
    intro _
    refine hK (wset4 g (a / 4096) gw) w6 ⟨g3, ⟨_, g4, hL.tags (by omega)⟩, hm.byte, wset4_ok hm.word g1⟩ (fun x hx => ?_) g5
    rw [bit_wset4]
    by_cases hp : x / 256 = a / 4096
    · rw [if_pos hp, g2 _ (by omega), bit_page (by omega), show a / 4096 * 256 + x % 256 = x by omega]
      congr 2
      rw [Bool.eq_iff_iff]
      simp only [decide_eq_true_eq]
      omega
    · rw [if_neg hp, decide_eq_false (by omega)]
      simp
  clear hJ2 hJ0 hK
  simp (disch := first | assumption | omega | (simp only [szR, tgC_len, tgC_all] <;> omega) | rfl | decide) only [gen0, gen1, gen2, rulesM, litR, bolR, Nat.reduceAdd, Nat.reduceLeDiff, numR, memR, valR, heapR, updR, intR, decR, extR, slR, segR, thenR, pnR, Int.reduceToNat, Int.reduceAdd, Int.reduceSub, Int.reduceLT, Int.reduceLE, Nat.reduceSub, Nat.reduceMul, Nat.reduceEqDiff, c11, c12, hb, hsub, Option.isNone_some, and_self]
  repeat' (with_reducible apply And.intro)
  all_goals refine Cover_spec (by omega) (by omega) fun gc w4 hgc hbc hx4 => ?_
  all_goals
    have hk4 := kept0 hx4
    have hs4 : w2.heap.size ≤ w4.heap.size := hx4.size
    simp (disch := first | assumption | omega | (simp only [szR, tgC_len, tgC_all] <;> omega) | rfl | decide) only [gen0, gen1, gen2, rulesM, litR, bolR, Nat.reduceAdd, Nat.reduceLeDiff, numR, memR, valR, heapR, updR, intR, decR, extR, slR, segR, thenR, pnR, Int.reduceToNat, Int.reduceAdd, Int.reduceSub, Int.reduceLT, Int.reduceLE, Nat.reduceSub, Nat.reduceMul, Nat.reduceEqDiff, hk4, c11, c12, hb, hsub, Option.isNone_some, and_self]
  all_goals repeat' (with_reducible apply And.intro)
  all_goals refine Without_spec (g := fun j => g (a / 4096 * 4 + j)) (fun j => hm.word _) hgc fun gw w5 hgw hbw hx5 => ?_
  all_goals
    have hk5 := kept0 hx5
    have hs5 := hx5.size
    simp (disch := first | assumption | omega | (simp only [szR, tgC_len, tgC_all] <;> omega) | rfl | decide) only [gen0, gen1, gen2, rulesM, litR, bolR, Nat.reduceAdd, Nat.reduceLeDiff, numR, memR, valR, heapR, updR, intR, decR, extR, slR, segR, thenR, pnR, Int.reduceToNat, Int.reduceAdd, Int.reduceSub, Int.reduceLT, Int.reduceLE, Nat.reduceSub, Nat.reduceMul, Nat.reduceEqDiff, hk5, hk4, c11, c12, hb, hsub, Option.isNone_some, and_self]
  all_goals repeat' (with_reducible apply And.intro)
  all_goals
    refine hrest gw _ hgw (fun j hj => ?_) (by first | with_reducible rfl | assumption | (simp (disch := first | assumption | omega | (simp only [szR, tgC_len, tgC_all] <;> omega) | rfl | decide) only [gen0, gen1, gen2, rulesM, litR, bolR, Nat.reduceAdd, Nat.reduceLeDiff, numR, memR, valR, heapR, updR, intR, decR, extR, slR, segR, thenR, pnR, Int.reduceToNat, Int.reduceAdd, Int.reduceSub, Int.reduceLT, Int.reduceLE, Nat.reduceSub, Nat.reduceMul, Nat.reduceEqDiff, hk5, hk4, hhd] <;> rfl)) (by first | with_reducible rfl | assumption | (simp (disch := first | assumption | omega | (simp only [szR, tgC_len, tgC_all] <;> omega) | rfl | decide) only [gen0, gen1, gen2, rulesM, litR, bolR, Nat.reduceAdd, Nat.reduceLeDiff, numR, memR, valR, heapR, updR, intR, decR, extR, slR, segR, thenR, pnR, Int.reduceToNat, Int.reduceAdd, Int.reduceSub, Int.reduceLT, Int.reduceLE, Nat.reduceSub, Nat.reduceMul, Nat.reduceEqDiff, hk5, hk4, hb] <;> rfl)) ?_
    · rw [hbw j hj, hbc j hj]
      congr 2
      rw [Bool.eq_iff_iff]
      simp only [decide_eq_true_eq]
      omega
    · have hx6 : Ext [q] w w5 := (hx.drew.trans hx4 (by simp)).trans hx5 (by simp)
      (repeat first | assumption | exact Ext.refl | apply Ext.alloc | apply Ext.drew | (refine Ext.updN ?_ ?_; (focus first | omega | (simp only [szR] <;> omega))) | (refine Ext.updI ?_ ?_; (focus (simp; done))))
/-! ### loading -/
def leN (m : Nat → Int) (a : Nat) : Nat → Nat
  | 0 => 0
  | k + 1 => leN m a k + (m (a + k)).toNat * 2 ^ (8 * k)
theorem leN_lt {m : Nat → Int} (h : Byte m) (a : Nat) : ∀ k, leN m a k < 2 ^ (8 * k)
  | 0 => by simp [leN]
  | k + 1 => by
    have h1 := leN_lt h a k
    have h2 := h (a + k)
    have h3 : (m (a + k)).toNat * 2 ^ (8 * k) ≤ 255 * 2 ^ (8 * k) := Nat.mul_le_mul_right _ (by omega)
    have h4 : (2 : Nat) ^ (8 * (k + 1)) = 256 * 2 ^ (8 * k) := by rw [show 8 * (k + 1) = 8 + 8 * k by omega, Nat.pow_add]
    unfold leN
    omega
theorem leN_or {m : Nat → Int} (h : Byte m) (a k : Nat) : leN m a k ||| (m (a + k)).toNat * 2 ^ (8 * k) = leN m a (k + 1) := by
  have h1 := Nat.shiftLeft_add_eq_or_of_lt (leN_lt h a k) (m (a + k)).toNat
  rw [Nat.shiftLeft_eq] at h1
  rw [Nat.or_comm, ← h1, Nat.add_comm]
  rfl
structure At4 (w : World) (b13 b10 b11 q p : Nat) (off : Int) (x : Nat) : Prop where
  c13 : w.heap[b13]? = some (.cells [.int .u64 x].toArray 23 (0, 0))
  c10 : w.heap[b10]? = some (.cells [.pointer (some ⟨q, p * 4100, none⟩)].toArray 113 (0, 0))
  c11 : w.heap[b11]? = some (.cells [.int .i64 off].toArray 3 (0, 0))
theorem loadF_spec {w : World} {b13 b10 b11 r q n p i : Nat} {o : Nat} {m g : Nat → Int} (h3 : At4 w b13 b10 b11 q p o (leN m (p * 4096 + o) i)) (h : Mem w r q n m g) (hp : p < n) (hn : n ≤ 1000) (hi : o + i < 4096) (hi8 : i < 8) (hd : b13 ≠ q) {K : Value → World → Prop}
    (hK : ∀ w', w'.heap[b13]? = some (.cells [.int .u64 (leN m (p * 4096 + o) (i + 1) : Nat)].toArray 23 (0, 0)) → Ext [b13] w w' → K (.tuple #[]) w') :
    callsK Try.prog 72 #[.int .i64 i, .pointer (some ⟨b13, 0, none⟩), .pointer (some ⟨b10, 0, none⟩), .pointer (some ⟨b11, 0, none⟩)] w K := by
  obtain ⟨c13, c10, c11⟩ := h3
  obtain ⟨L, hb, hL⟩ := h.body
  have hl := hL.len
  have hlt := lt_of_at c13
  have he : (8 * (i : Int)).toNat = 8 * i := by omega
  have hidx : ((o : Int) + (i : Int)).toNat = o + i := by omega
  have hg := hL.byte p (o + i) hp hi
  have hby := h.byte (p * 4096 + (o + i))
  have hle := leN_lt h.byte (p * 4096 + o) i
  have hle2 := leN_lt h.byte (p * 4096 + o) (i + 1)
  have hor := leN_or h.byte (p * 4096 + o) i
  have hpw : (2 : Nat) ^ (8 * (i + 1)) ≤ 18446744073709551616 := Nat.le_trans (Nat.pow_le_pow_right (show 0 < 2 by omega) (show 8 * (i + 1) ≤ 64 by omega)) (by decide)
  have hlb : leN m (p * 4096 + o) (i + 1) = leN m (p * 4096 + o) i + (m (p * 4096 + o + i)).toNat * 2 ^ (8 * i) := rfl
  rw [show p * 4096 + (o + i) = p * 4096 + o + i by omega] at hg hby
  generalize leN m (p * 4096 + o) (i + 1) = y at hle2 hor hK hlb
  generalize leN m (p * 4096 + o) i = x at hle hor c13 hlb
  generalize m (p * 4096 + o + i) = b at hg hby hor hlb
  obtain ⟨z, hz⟩ : ∃ z, z = b.toNat * 2 ^ (8 * i) := ⟨_, rfl⟩
  have hsh : IntKind.u64.wrap (b * 2 ^ (8 * i)) = (z : Int) := by
    have e : b * 2 ^ (8 * i) = (z : Int) := by
      rw [hz]
      have : b = (b.toNat : Int) := by omega
      rw [this]
      simp
    rw [e]
    exact wrap_u64 (by omega)
  rw [← hz] at hor hlb
  have hor2 := or_u64 (a := (x : Int)) (b := (z : Int)) (by omega) (by omega)
  simp only [Int.toNat_natCast, hor] at hor2
  apply F72_ok
  unfold F72
  simp (disch := first | assumption | omega | (simp only [szR, tgC_len, tgC_all] <;> omega) | rfl | decide) only [gen0, gen1, gen2, rulesM, litR, bolR, Nat.reduceAdd, Nat.reduceLeDiff, numR, memR, valR, heapR, updR, intR, decR, extR, slR, segR, thenR, pnR, Int.reduceToNat, Int.reduceAdd, Int.reduceSub, Int.reduceLT, Int.reduceLE, Nat.reduceSub, Nat.reduceMul, Nat.reduceEqDiff, c13, c10, c11, hb, he, hidx, hg, hsh, hor2]
  refine hK _ (by first | with_reducible rfl | assumption | (simp (disch := first | assumption | omega | (simp only [szR, tgC_len, tgC_all] <;> omega) | rfl | decide) only [gen0, gen1, gen2, rulesM, litR, bolR, Nat.reduceAdd, Nat.reduceLeDiff, numR, memR, valR, heapR, updR, intR, decR, extR, slR, segR, thenR, pnR, Int.reduceToNat, Int.reduceAdd, Int.reduceSub, Int.reduceLT, Int.reduceLE, Nat.reduceSub, Nat.reduceMul, Nat.reduceEqDiff, c13] <;> rfl)) ?_
  (repeat first | assumption | exact Ext.refl | apply Ext.alloc | apply Ext.drew | (refine Ext.updN ?_ ?_; (focus first | omega | (simp only [szR] <;> omega))) | (refine Ext.updI ?_ ?_; (focus (simp; done))))
theorem Load_spec {w : World} {r q n a s : Nat} {m g : Nat → Int} (h : Mem w r q n m g) (hn : 0 < n ∧ n ≤ 1000) (ha : a < n * 4096) (hs : Size s) (hal : a % s = 0) {K : Value → World → Prop}
    (hK : ∀ w', Ext [] w w' → K (.tuple #[.int .u64 (leN m a s : Nat), .int .i64 0]) w') :
    callsK Try.prog 50 #[.pointer (some ⟨r, 0, none⟩), .int .u64 a, .int .i64 s] w K := by
  have hs8 : s ≤ 8 ∧ 1 ≤ s := by rcases hs with h | h | h | h <;> omega
  have hoff : a % 4096 + s ≤ 4096 := by rcases hs with h | h | h | h <;> subst h <;> omega
  have hq := h.lt
  apply F50_ok
  unfold F50
  simp (disch := first | assumption | omega | (simp only [szR, tgC_len, tgC_all] <;> omega) | rfl | decide) only [gen0, gen1, gen2, rulesM, litR, bolR, Nat.reduceAdd, Nat.reduceLeDiff, numR, memR, valR, heapR, updR, intR, decR, extR, slR, segR, thenR, pnR, Int.reduceToNat, Int.reduceAdd, Int.reduceSub, Int.reduceLT, Int.reduceLE, Nat.reduceSub, Nat.reduceMul, Nat.reduceEqDiff]
  refine number_spec ?_
  rw [if_pos (by rcases hs with h | h | h | h <;> omega)]
  simp (disch := first | assumption | omega | (simp only [szR, tgC_len, tgC_all] <;> omega) | rfl | decide) only [gen0, gen1, gen2, rulesM, litR, bolR, Nat.reduceAdd, Nat.reduceLeDiff, numR, memR, valR, heapR, updR, intR, decR, extR, slR, segR, thenR, pnR, Int.reduceToNat, Int.reduceAdd, Int.reduceSub, Int.reduceLT, Int.reduceLE, Nat.reduceSub, Nat.reduceMul, Nat.reduceEqDiff]
  refine place_spec h hn (by omega) (by omega) (fun c1 c2 => ?_) (fun c => absurd ⟨by omega, by omega⟩ c)
  have e1 : ((a : Int) / 4096).toNat = a / 4096 := by omega
  have e2 : (a : Int) % 4096 = ((a % 4096 : Nat) : Int) := by omega
  have e3 : a / 4096 * 4096 + a % 4096 = a := by omega
  rw [e1, e2]
  simp (disch := first | assumption | omega | (simp only [szR, tgC_len, tgC_all] <;> omega) | rfl | decide) only [gen0, gen1, gen2, rulesM, litR, bolR, Nat.reduceAdd, Nat.reduceLeDiff, numR, memR, valR, heapR, updR, intR, decR, extR, slR, segR, thenR, pnR, Int.reduceToNat, Int.reduceAdd, Int.reduceSub, Int.reduceLT, Int.reduceLE, Nat.reduceSub, Nat.reduceMul, Nat.reduceEqDiff, joinBR]
  refine joinL.intro fun J0 hJ0 => ?_
  simp (disch := first | assumption | omega | (simp only [szR, tgC_len, tgC_all] <;> omega) | rfl | decide) only [gen0, gen1, gen2, rulesM, litR, bolR, Nat.reduceAdd, Nat.reduceLeDiff, numR, memR, valR, heapR, updR, intR, decR, extR, slR, segR, thenR, pnR, Int.reduceToNat, Int.reduceAdd, Int.reduceSub, Int.reduceLT, Int.reduceLE, Nat.reduceSub, Nat.reduceMul, Nat.reduceEqDiff, joinBR]
  apply hJ0
  intro _
  simp (disch := first | assumption | omega | (simp only [szR, tgC_len, tgC_all] <;> omega) | rfl | decide) only [gen0, gen1, gen2, rulesM, litR, bolR, Nat.reduceAdd, Nat.reduceLeDiff, numR, memR, valR, heapR, updR, intR, decR, extR, slR, segR, thenR, pnR, Int.reduceToNat, Int.reduceAdd, Int.reduceSub, Int.reduceLT, Int.reduceLE, Nat.reduceSub, Nat.reduceMul, Nat.reduceEqDiff, joinBR]
  refine each_spec (n := s) (by omega) (I := fun i w' => At4 w' (w.heap.size + 1 + 1) w.heap.size (w.heap.size + 1) q (a / 4096) ((a % 4096 : Nat) : Int) (leN m a i) ∧ Mem w' r q n m g ∧ Ext [] w w') ⟨⟨by simp (disch := first | assumption | omega | (simp only [szR, tgC_len, tgC_all] <;> omega) | rfl | decide) only [gen0, gen1, gen2, rulesM, litR, bolR, Nat.reduceAdd, Nat.reduceLeDiff, numR, memR, valR, heapR, updR, intR, decR, extR, slR, segR, thenR, pnR, Int.reduceToNat, Int.reduceAdd, Int.reduceSub, Int.reduceLT, Int.reduceLE, Nat.reduceSub, Nat.reduceMul, Nat.reduceEqDiff]; rfl, by simp (disch := first | assumption | omega | (simp only [szR, tgC_len, tgC_all] <;> omega) | rfl | decide) only [gen0, gen1, gen2, rulesM, litR, bolR, Nat.reduceAdd, Nat.reduceLeDiff, numR, memR, valR, heapR, updR, intR, decR, extR, slR, segR, thenR, pnR, Int.reduceToNat, Int.reduceAdd, Int.reduceSub, Int.reduceLT, Int.reduceLE, Nat.reduceSub, Nat.reduceMul, Nat.reduceEqDiff], by simp (disch := first | assumption | omega | (simp only [szR, tgC_len, tgC_all] <;> omega) | rfl | decide) only [gen0, gen1, gen2, rulesM, litR, bolR, Nat.reduceAdd, Nat.reduceLeDiff, numR, memR, valR, heapR, updR, intR, decR, extR, slR, segR, thenR, pnR, Int.reduceToNat, Int.reduceAdd, Int.reduceSub, Int.reduceLT, Int.reduceLE, Nat.reduceSub, Nat.reduceMul, Nat.reduceEqDiff]⟩, ?_, by (repeat first | assumption | exact Ext.refl | apply Ext.alloc | apply Ext.drew | (refine Ext.updN ?_ ?_; (focus first | omega | (simp only [szR] <;> omega))) | (refine Ext.updI ?_ ?_; (focus (simp; done))))⟩ ?_ fun w2 h2 => ?_
  · refine h.ext (S := []) ?_ (by simp) (by simp)
    (repeat first | assumption | exact Ext.refl | apply Ext.alloc | apply Ext.drew | (refine Ext.updN ?_ ?_; (focus first | omega | (simp only [szR] <;> omega))) | (refine Ext.updI ?_ ?_; (focus (simp; done))))
  · rintro i w2 hi ⟨h1, h2, h3⟩ K hK
    simp (disch := first | assumption | omega | (simp only [szR, tgC_len, tgC_all] <;> omega) | rfl | decide) only [gen0, gen1, gen2, rulesM, litR, bolR, Nat.reduceAdd, Nat.reduceLeDiff, numR, memR, valR, heapR, updR, intR, decR, extR, slR, segR, thenR, pnR, Int.reduceToNat, Int.reduceAdd, Int.reduceSub, Int.reduceLT, Int.reduceLE, Nat.reduceSub, Nat.reduceMul, Nat.reduceEqDiff]
    refine loadF_spec (m := m) (by rw [e3]; exact h1) h2 (by omega) hn.2 (by omega) (by omega) (by omega) fun w3 h4 h5 => hK w3 ⟨⟨?_, ?_, ?_⟩, ?_, h3.trans h5 (by simp; omega)⟩
    · rw [e3] at h4; exact h4
    · exact h5.at h1.c10 (by simp <;> omega)
    · exact h5.at h1.c11 (by simp <;> omega)
    · exact h2.ext h5 (by simp; omega) (by simp; omega)
  obtain ⟨⟨c13, c10, c11⟩, hm, hx⟩ := h2
  simp (disch := first | assumption | omega | (simp only [szR, tgC_len, tgC_all] <;> omega) | rfl | decide) only [gen0, gen1, gen2, rulesM, litR, bolR, Nat.reduceAdd, Nat.reduceLeDiff, numR, memR, valR, heapR, updR, intR, decR, extR, slR, segR, thenR, pnR, Int.reduceToNat, Int.reduceAdd, Int.reduceSub, Int.reduceLT, Int.reduceLE, Nat.reduceSub, Nat.reduceMul, Nat.reduceEqDiff, c13]
  exact hK _ hx
/-! ### new memory -/
def pageZ : List Value := List.replicate 4096 (.int .u8 0) ++ List.replicate 4 (.int .u64 0)
theorem pageZ_len : pageZ.length = 4100 := by unfold pageZ; rw [List.length_append, List.length_replicate, List.length_replicate]
theorem pageZ_low {i : Nat} (h : i < 4096) : pageZ.getD i undef = .int .u8 0 := by
  unfold pageZ
  rw [List.getD_eq_getElem?_getD, List.getElem?_append_left (by rw [List.length_replicate]; exact h), List.getElem?_replicate, if_pos h]
  rfl
theorem pageZ_high {j : Nat} (h : j < 4) : pageZ.getD (4096 + j) undef = .int .u64 0 := by
  unfold pageZ
  rw [List.getD_eq_getElem?_getD, List.getElem?_append_right (by rw [List.length_replicate]; omega), List.length_replicate, Nat.add_sub_cancel_left, List.getElem?_replicate, if_pos h]
  rfl
theorem page_info : (Try.prog.info? 121).map (fun i => (i.size, i.bytes, i.zero.map fun z => z.cells.toList)) = some (4100, 4128, some pageZ) := by kernel_rfl
theorem New_spec {w : World} {n : Nat} (hn : 1 ≤ n ∧ n ≤ 64) {K : Value → World → Prop}
    (hK : ∀ w', Mem w' (w.heap.size + 1) w.heap.size n (fun _ => 0) (fun _ => 0) → Ext [] w w' → K (.tuple #[.pointer (some ⟨w.heap.size + 1, 0, none⟩), .int .i64 0]) w') : callsK Try.prog 6 #[.int .i64 n] w K := by
  have hzl := pageZ_len
  have hmk := fun w => run_mk (P := Try.prog) Try.underlying76 page_info .i64 .i64 n (by intro h; rw [h] at hzl; simp at hzl) (by omega) (by omega) (by omega) w
  apply F6_ok
  unfold F6
  simp (disch := first | assumption | omega | (simp only [szR, tgC_len, tgC_all] <;> omega) | rfl | decide) only [gen0, gen1, gen2, rulesM, litR, bolR, Nat.reduceAdd, Nat.reduceLeDiff, numR, memR, valR, heapR, updR, intR, decR, extR, slR, segR, thenR, pnR, Int.reduceToNat, Int.reduceAdd, Int.reduceSub, Int.reduceLT, Int.reduceLE, Nat.reduceSub, Nat.reduceMul, Nat.reduceEqDiff, joinBR, hmk]
  refine hK _ ⟨by simp (disch := first | assumption | omega | (simp only [szR, tgC_len, tgC_all] <;> omega) | rfl | decide) only [gen0, gen1, gen2, rulesM, litR, bolR, Nat.reduceAdd, Nat.reduceLeDiff, numR, memR, valR, heapR, updR, intR, decR, extR, slR, segR, thenR, pnR, Int.reduceToNat, Int.reduceAdd, Int.reduceSub, Int.reduceLT, Int.reduceLE, Nat.reduceSub, Nat.reduceMul, Nat.reduceEqDiff], ⟨madeL pageZ (n * 4100), by simp (disch := first | assumption | omega | (simp only [szR, tgC_len, tgC_all] <;> omega) | rfl | decide) only [gen0, gen1, gen2, rulesM, litR, bolR, Nat.reduceAdd, Nat.reduceLeDiff, numR, memR, valR, heapR, updR, intR, decR, extR, slR, segR, thenR, pnR, Int.reduceToNat, Int.reduceAdd, Int.reduceSub, Int.reduceLT, Int.reduceLE, Nat.reduceSub, Nat.reduceMul, Nat.reduceEqDiff], ⟨by rw [madeL_length], fun p i hp hi => ?_, fun p j hp hj => ?_⟩⟩, fun _ => ⟨by decide, by decide⟩, Wok.zero⟩ (by (repeat first | assumption | exact Ext.refl | apply Ext.alloc | apply Ext.drew | (refine Ext.updN ?_ ?_; (focus first | omega | (simp only [szR] <;> omega))) | (refine Ext.updI ?_ ?_; (focus (simp; done)))))
  · rw [madeL_get (by omega), hzl, show (p * 4100 + i) % 4100 = i by omega]
    rw [pageZ_low hi]
  · rw [madeL_get (by omega), hzl, show (p * 4100 + 4096 + j) % 4100 = 4096 + j by omega]
    rw [pageZ_high hj]
end Go.Proofs.Ytfpcflmgipklcaa
