/- Part 8 of what the law ExecLays stands on: formulas of the functions that it reaches, and what each of them does; conditions: those of each theorem. -/
import Derived.Test.YtldkfbelnndaoaaGreatDoorP7
set_option linter.unusedVariables false
set_option linter.unusedSimpArgs false
namespace Go.Proofs.YtldkfbelnndaoaaGreatDoor
open Go.Fx
set_option maxRecDepth 100000
/-- the cells of so many frames: bytes by their address, tags by their words. -/
structure Cells (L : List Value) (n : Nat) (m g : Nat -> Int) : Prop where
 len : L.length = n * 4100
 byte : ∀ p i, p < n -> i < 4096 -> L[p * 4100 + i]? = some (.int .u8 (m (p * 4096 + i)))
 word : ∀ p j, p < n -> j < 4 -> L[p * 4100 + 4096 + j]? = some (.int .u64 (g (p * 4 + j)))
def Byte (m : Nat -> Int) : Prop := ∀ a, 0 <= m a /\ m a < 256
theorem Byte.wset {m : Nat -> Int} (h : Byte m) {k : Nat} {v : Int} (hv : 0 <= v /\ v < 256) : Byte (wset m k v) := by
 intro j
 unfold YtldkfbelnndaoaaGreatDoor.wset
 split
 ·exact hv
 ·exact h j
/-- memory at a pointer's block r, its frames in block q. -/
structure Mem (w : World) (r q n : Nat) (m g : Nat -> Int) : Prop where
 head : w.heap[r]? = some (.cells [.slice (some ⟨q, 0, none⟩) n n].toArray 134 (0, 0))
 body : ∃ L, w.heap[q]? = some (.cells L.toArray 145 (0, 0)) /\ Cells L n m g
 byte : Byte m
 word : Wok g
theorem Mem.ne {w : World} {r q n : Nat} {m g : Nat -> Int} (h : Mem w r q n m g) : r ≠ q := by
 rintro rfl
 obtain ⟨L, h1, -⟩ := h.body
 rw [h.head] at h1
 simp only [Option.some.injEq, Obj.cells.injEq] at h1
 exact absurd h1.2.1 (by decide)
theorem Mem.lt {w : World} {r q n : Nat} {m g : Nat -> Int} (h : Mem w r q n m g) : r < w.heap.size /\ q < w.heap.size := ⟨lt_of_at h.head, lt_of_at h.body.choose_spec.1⟩
theorem Mem.ext {w w' : World} {r q n : Nat} {m g : Nat -> Int} {S : List Nat} (h : Mem w r q n m g) (hx : Ext S w w') (hr : r ∉ S) (hq : q ∉ S) : Mem w' r q n m g :=
 ⟨hx.at h.head hr, ⟨_, hx.at h.body.choose_spec.1 hq, h.body.choose_spec.2⟩, h.byte, h.word⟩
theorem Cells.set {L : List Value} {n : Nat} {m g : Nat -> Int} (h : Cells L n m g) {p i : Nat} {v : Int} (hp : p < n) (hi : i < 4096) : Cells (L.set (p * 4100 + i) (.int .u8 v)) n (wset m (p * 4096 + i) v) g := by
 have hl := h.len
 refine ⟨by rw [List.length_set, h.len], fun p' i' hp' hi' => ?_, fun p' j hp' hj => ?_⟩
 ·rw [List.getElem?_set]
  unfold wset
  by_cases hc : p * 4100 + i = p' * 4100 + i'
  ·have : p = p' /\ i = i' := by omega
   rw [if_pos hc, if_pos (by omega), if_pos (by omega)]
  ·rw [if_neg hc, if_neg (by omega), h.byte p' i' hp' hi']
 ·rw [List.getElem?_set, if_neg (by omega), h.word p' j hp' hj]
def wset4 (g : Nat -> Int) (p : Nat) (t : Nat -> Int) : Nat -> Int := fun k => if k / 4 = p then t (k % 4) else g k
theorem Cells.tags {L : List Value} {n : Nat} {m g : Nat -> Int} (h : Cells L n m g) {p : Nat} {t : Nat -> Int} (hp : p < n) : Cells (splice L (p * 4100 + 4096) (tgC t)) n m (wset4 g p t) := by
 have hl := h.len
 have ht : (tgC t).length = 4 := tgC_len t
 refine ⟨by rw [splice_length (by omega), h.len], fun p' i' hp' hi' => ?_, fun p' j hp' hj => ?_⟩
 ·rw [splice_get (by omega), <- h.byte p' i' hp' hi']
  by_cases h1 : p' * 4100 + i' < p * 4100 + 4096
  ·rw [if_pos h1]
  ·rw [if_neg h1, if_neg (by omega)]
 ·rw [splice_get (by omega)]
  unfold wset4
  by_cases hc : p' = p
  ·subst hc
   rw [if_neg (by omega), if_pos (by omega), show p' * 4100 + 4096 + j - (p' * 4100 + 4096) = j by omega, tgC_get hj, if_pos (by omega), show (p' * 4 + j) % 4 = j by omega]
  ·rw [if_neg (show ¬ (p' * 4 + j) / 4 = p by omega), <- h.word p' j hp' hj]
   by_cases h1 : p' * 4100 + 4096 + j < p * 4100 + 4096
   ·rw [if_pos h1]
   ·rw [if_neg h1, if_neg (by omega)]
theorem Cells.sub {L : List Value} {n : Nat} {m g : Nat -> Int} (h : Cells L n m g) {p : Nat} (hp : p < n) : sub L (p * 4100 + 4096) 4 = tgC (fun j => g (p * 4 + j)) := by
 have hl := h.len
 apply List.ext_getElem?
 intro i
 unfold Go.Fx.sub
 by_cases hi : i < 4
 ·rw [List.getElem?_take_of_lt hi, List.getElem?_drop, h.word p i hp hi, tgC_get hi]
 ·rw [List.getElem?_eq_none (by simp; omega), List.getElem?_eq_none (by rw [tgC_len]; omega)]
theorem wset4_ok {g t : Nat -> Int} {p : Nat} (hg : Wok g) (ht : Wok t) : Wok (wset4 g p t) := by
 intro k
 unfold wset4
 split
 ·exact ht _
 ·exact hg k
theorem none_spec {w : World} {r q n : Nat} {m g : Nat -> Int} (h : Mem w r q n m g) (hn : 0 < n /\ n <= 1000) {K : Value -> World -> Prop} (hK : K (.bool false) w) : callsK Tryz.prog 102 #[.pointer (some ⟨r, 0, none⟩)] w K := by
 have h1 := h.head
 apply F102_ok
 unfold F102
 simp (disch := first | exact qD16 | fail) only [qG3, Nat.reduceAdd, Nat.reduceLeDiff, Int.reduceToNat, Int.reduceAdd, Int.reduceSub, Int.reduceLT, Int.reduceLE, Nat.reduceSub, Nat.reduceMul, Nat.reduceEqDiff, joinBR, h1, Option.isNone_some]
 exact hK
theorem place_spec {w : World} {r q n : Nat} {m g : Nat -> Int} {a s : Int} (h : Mem w r q n m g) (hn : 0 < n /\ n <= 1000) (ha : 0 <= a /\ a < 18446744073709551616) (hs : 1 <= s /\ s < 18446744073709551616) {K : Value -> World -> Prop}
  (h1 : a % s = 0 -> a / 4096 < n -> K (.tuple #[.pointer (some ⟨q, (a / 4096).toNat * 4100, none⟩), .int .i64 (a % 4096), .int .i64 0]) w)
  (h2 : ¬ (a % s = 0 /\ a / 4096 < n) -> K (.tuple #[.pointer none, .int .i64 0, .int .i64 2]) w) : callsK Tryz.prog 55 #[.pointer (some ⟨r, 0, none⟩), .int .u64 a, .int .u64 s] w K := by
 have hh := h.head
 apply F55_ok
 unfold F55
 simp (disch := first | exact qD16 | fail) only [qG3, Nat.reduceAdd, Nat.reduceLeDiff, Int.reduceToNat, Int.reduceAdd, Int.reduceSub, Int.reduceLT, Int.reduceLE, Nat.reduceSub, Nat.reduceMul, Nat.reduceEqDiff]
 refine none_spec h hn ?_
 by_cases c1 : a % s = 0
 ·by_cases c2 : a / 4096 < n
  ·simp (disch := first | exact qD16 | fail) only [qG3, Nat.reduceAdd, Nat.reduceLeDiff, Int.reduceToNat, Int.reduceAdd, Int.reduceSub, Int.reduceLT, Int.reduceLE, Nat.reduceSub, Nat.reduceMul, Nat.reduceEqDiff, joinBR, hh, c1]
   exact h1 c1 c2
  ·simp (disch := first | exact qD16 | fail) only [qG3, Nat.reduceAdd, Nat.reduceLeDiff, Int.reduceToNat, Int.reduceAdd, Int.reduceSub, Int.reduceLT, Int.reduceLE, Nat.reduceSub, Nat.reduceMul, Nat.reduceEqDiff, joinBR, hh, c1]
   exact h2 fun h => c2 h.2
 ·simp (disch := first | exact qD16 | fail) only [qG3, Nat.reduceAdd, Nat.reduceLeDiff, Int.reduceToNat, Int.reduceAdd, Int.reduceSub, Int.reduceLT, Int.reduceLE, Nat.reduceSub, Nat.reduceMul, Nat.reduceEqDiff, joinBR, hh]
  exact h2 fun h => c1 h.1
theorem number_spec {w : World} {k : Int} {K : Value -> World -> Prop} (hK : K (if k = 1 ∨ k = 2 ∨ k = 4 ∨ k = 8 then .tuple #[.int .u64 k, .bool true] else .tuple #[.int .u64 1, .bool false]) w) : callsK Tryz.prog 54 #[.int .i64 k] w K := by
 apply F54_ok
 unfold F54
 by_cases c1 : k = 1
 ·rw [if_pos (.inl c1)] at hK
  simp (disch := first | exact qD16 | fail) only [qG3, Nat.reduceAdd, Nat.reduceLeDiff, Int.reduceToNat, Int.reduceAdd, Int.reduceSub, Int.reduceLT, Int.reduceLE, Nat.reduceSub, Nat.reduceMul, Nat.reduceEqDiff, joinR]
  intro _
  exact hK
 by_cases c2 : k = 2
 ·rw [if_pos (.inr (.inl c2))] at hK
  simp (disch := first | exact qD16 | fail) only [qG3, Nat.reduceAdd, Nat.reduceLeDiff, Int.reduceToNat, Int.reduceAdd, Int.reduceSub, Int.reduceLT, Int.reduceLE, Nat.reduceSub, Nat.reduceMul, Nat.reduceEqDiff, joinR]
  intro _
  exact hK
 by_cases c3 : k = 4
 ·rw [if_pos (.inr (.inr (.inl c3)))] at hK
  simp (disch := first | exact qD16 | fail) only [qG3, Nat.reduceAdd, Nat.reduceLeDiff, Int.reduceToNat, Int.reduceAdd, Int.reduceSub, Int.reduceLT, Int.reduceLE, Nat.reduceSub, Nat.reduceMul, Nat.reduceEqDiff, joinR]
  intro _
  exact hK
 by_cases c4 : k = 8
 ·rw [if_pos (.inr (.inr (.inr c4)))] at hK
  simp (disch := first | exact qD16 | fail) only [qG3, Nat.reduceAdd, Nat.reduceLeDiff, Int.reduceToNat, Int.reduceAdd, Int.reduceSub, Int.reduceLT, Int.reduceLE, Nat.reduceSub, Nat.reduceMul, Nat.reduceEqDiff, joinR]
  intro _
  exact hK
 rw [if_neg (by omega)] at hK
 simp (disch := first | exact qD16 | fail) only [qG3, Nat.reduceAdd, Nat.reduceLeDiff, Int.reduceToNat, Int.reduceAdd, Int.reduceSub, Int.reduceLT, Int.reduceLE, Nat.reduceSub, Nat.reduceMul, Nat.reduceEqDiff, joinR]
 intro _
 exact hK
/-- each index in turn. -/
theorem each_spec {w : World} {f : Value} {n : Nat} {I : Nat -> World -> Prop} (hn : n <= 1000000) (hI : I 0 w) (hf : ∀ i w', i < n -> I i w' -> ∀ K : Value -> World -> Prop, (∀ w'', I (i + 1) w'' -> K (.tuple #[]) w'') -> kN Tryz.prog (callN f #[.int .i64 i]) w' K) {K : Value -> World -> Prop}
  (hK : ∀ w', I n w' -> K (.tuple #[]) w') : callsK Tryz.prog 56 #[.int .i64 n, f] w K := by
 apply F56_ok
 unfold F56
 refine loopT.intro (fun st w' => ∃ (k : Nat) (z : Int), k <= n /\ st = [.int .i64 z] /\ z = k /\ I k w')
  (fun st _ => match st with
   | [.int _ z] => n - z.toNat
   | _ => 0) ⟨0, 0, by omega, rfl, rfl, hI⟩ ?_
 rintro st w' ⟨k, z, hk, rfl, rfl, hi⟩ _
 by_cases hkn : k < n
 ·simp (disch := first | exact qD16 | fail) only [qG3, Nat.reduceAdd, Nat.reduceLeDiff, Int.reduceToNat, Int.reduceAdd, Int.reduceSub, Int.reduceLT, Int.reduceLE, Nat.reduceSub, Nat.reduceMul, Nat.reduceEqDiff]
  refine hf k w' hkn hi _ fun w2 h2 => ?_
  simp (disch := first | exact qD16 | fail) only [qG3, Nat.reduceAdd, Nat.reduceLeDiff, Int.reduceToNat, Int.reduceAdd, Int.reduceSub, Int.reduceLT, Int.reduceLE, Nat.reduceSub, Nat.reduceMul, Nat.reduceEqDiff]
  exact ⟨⟨k + 1, (k : Int) + 1, by omega, rfl, by omega, h2⟩, by first | omega | (simp <;> omega)⟩
 ·obtain rfl : k = n := by omega
  simp (disch := first | exact qD16 | fail) only [qG3, Nat.reduceAdd, Nat.reduceLeDiff, Int.reduceToNat, Int.reduceAdd, Int.reduceSub, Int.reduceLT, Int.reduceLE, Nat.reduceSub, Nat.reduceMul, Nat.reduceEqDiff]
  exact hK _ hi
def stored (m : Nat -> Int) (a s : Nat) (v : Int) : Nat -> Int := fun x => if a <= x /\ x < a + s then ((v.toNat / 2 ^ (8 * (x - a)) % 256 : Nat) : Int) else m x
theorem stored_zero (m : Nat -> Int) (a : Nat) (v : Int) : stored m a 0 v = m := by
 funext x
 unfold stored
 rw [if_neg (by omega)]
theorem stored_succ (m : Nat -> Int) (a i : Nat) (v : Int) : wset (stored m a i v) (a + i) ((v.toNat / 2 ^ (8 * i) % 256 : Nat) : Int) = stored m a (i + 1) v := by
 funext x
 unfold wset stored
 by_cases h : x = a + i
 ·subst h
  rw [if_pos rfl, if_pos (by omega), show a + i - a = i by omega]
 ·rw [if_neg h]
  by_cases h2 : a <= x /\ x < a + i
  ·rw [if_pos h2, if_pos (by omega)]
  ·rw [if_neg h2, if_neg (by omega)]
theorem wrapU8 (n : Int) : IntKind.u8.wrap n = n % 256 := by
 simp [IntKind.wrap, IntKind.signed, IntKind.bits]
theorem fdiv_pow {v : Int} (h : 0 <= v) (k : Nat) : v.fdiv (2 ^ k) = ((v.toNat / 2 ^ k : Nat) : Int) := by
 rw [Int.fdiv_eq_ediv_of_nonneg _ (Int.le_of_lt (Int.pow_pos (by omega)))]
 have : v = (v.toNat : Int) := by omega
 rw [this]
 simp
/-- the cells that a store goes by. -/
structure At3 (w : World) (b7 b11 b12 q p : Nat) (off : Int) (v : Value) : Prop where
 c7 : w.heap[b7]? = some (.cells [v].toArray 35 (0, 0))
 c11 : w.heap[b11]? = some (.cells [.pointer (some ⟨q, p * 4100, none⟩)].toArray 137 (0, 0))
 c12 : w.heap[b12]? = some (.cells [.int .i64 off].toArray 3 (0, 0))
theorem storeF_spec {w : World} {b7 b11 b12 r q n p i : Nat} {o : Nat} {v : Int} {m g : Nat -> Int} (h3 : At3 w b7 b11 b12 q p o (.int .u64 v)) (h : Mem w r q n m g) (hp : p < n) (hn : n <= 1000) (hi : o + i < 4096) (hi8 : i < 8) (hv : 0 <= v /\ v < 18446744073709551616) {K : Value -> World -> Prop}
  (hK : ∀ w', Mem w' r q n (wset m (p * 4096 + (o + i)) ((v.toNat / 2 ^ (8 * i) % 256 : Nat) : Int)) g -> Ext [q] w w' -> K (.tuple #[]) w') :
  callsK Tryz.prog 57 #[.int .i64 i, .pointer (some ⟨b7, 0, none⟩), .pointer (some ⟨b11, 0, none⟩), .pointer (some ⟨b12, 0, none⟩)] w K := by
 obtain ⟨c7, c11, c12⟩ := h3
 obtain ⟨L, hb, hL⟩ := h.body
 have hl := hL.len
 have hq := h.lt
 have hne := h.ne
 have hfd := fdiv_pow hv.1 (8 * i)
 have he : (8 * (i : Int)).toNat = 8 * i := by omega
 have hw8 := wrapU8 ((v.toNat / 2 ^ (8 * i) : Nat) : Int)
 have hwe : ((v.toNat / 2 ^ (8 * i) : Nat) : Int) % 256 = ((v.toNat / 2 ^ (8 * i) % 256 : Nat) : Int) := by simp
 rw [hwe] at hw8
 have hbyte := Nat.mod_lt (v.toNat / 2 ^ (8 * i)) (show 0 < 256 by omega)
 obtain ⟨x, hx⟩ : ∃ x, x = v.toNat / 2 ^ (8 * i) := ⟨_, rfl⟩
 rw [<- hx] at hfd hw8 hbyte hK
 have hidx : ((o : Int) + (i : Int)).toNat = o + i := by omega
 apply F57_ok
 unfold F57
 simp (disch := first | exact qD16 | fail) only [qG3, Nat.reduceAdd, Nat.reduceLeDiff, Int.reduceToNat, Int.reduceAdd, Int.reduceSub, Int.reduceLT, Int.reduceLE, Nat.reduceSub, Nat.reduceMul, Nat.reduceEqDiff, c7, c11, c12, hb, he, hfd, hw8, hidx]
 have hs := hL.set (p := p) (i := o + i) (v := ((x % 256 : Nat) : Int)) hp hi
 refine hK _ ⟨?_, ⟨_, ?_, hs⟩, h.byte.wset (by omega), h.word⟩ ?_
 ·have := h.head
  (first | with_reducible rfl | assumption | (simp (disch := first | exact qD16 | fail) only [qG3, Nat.reduceAdd, Nat.reduceLeDiff, Int.reduceToNat, Int.reduceAdd, Int.reduceSub, Int.reduceLT, Int.reduceLE, Nat.reduceSub, Nat.reduceMul, Nat.reduceEqDiff, this] <;> try rfl))
 ·(first | with_reducible rfl | assumption | (simp (disch := first | exact qD16 | fail) only [qG3, Nat.reduceAdd, Nat.reduceLeDiff, Int.reduceToNat, Int.reduceAdd, Int.reduceSub, Int.reduceLT, Int.reduceLE, Nat.reduceSub, Nat.reduceMul, Nat.reduceEqDiff, hb] <;> try rfl))
 ·exact qX
theorem bit_wset4 {g t : Nat -> Int} {p x : Nat} : bit (wset4 g p t) x = if x / 256 = p then bit t (x % 256) else bit g x := by
 unfold bit wset4
 by_cases h : x / 256 = p
 ·rw [if_pos (by omega), if_pos h]
  rw [show x / 64 % 4 = x % 256 / 64 by omega, show x % 256 % 64 = x % 64 by omega]
 ·rw [if_neg (by omega), if_neg h]
theorem bit_page {g : Nat -> Int} {p x : Nat} (h : x < 256) : bit (fun j => g (p * 4 + j)) x = bit g (p * 256 + x) := by
 unfold bit
 rw [show (p * 256 + x) / 64 = p * 4 + x / 64 by omega, show (p * 256 + x) % 64 = x % 64 by omega]
/-- a size that numbers may have. -/
def Size (s : Nat) : Prop := s = 1 ∨ s = 2 ∨ s = 4 ∨ s = 8
set_option maxHeartbeats 4000000 in
theorem Store_spec {w : World} {r q n a s : Nat} {v : Int} {m g : Nat -> Int} (h : Mem w r q n m g) (hn : 0 < n /\ n <= 1000) (ha : a < n * 4096) (hs : Size s) (hal : a % s = 0) (hv : 0 <= v /\ v < 18446744073709551616) {K : Value -> World -> Prop}
  (hK : ∀ g' w', Mem w' r q n (stored m a s v) g' -> (∀ x, x < n * 256 -> bit g' x = (bit g x && !decide (x = a / 16))) -> Ext [q] w w' -> K (.int .i64 0) w') :
  callsK Tryz.prog 21 #[.pointer (some ⟨r, 0, none⟩), .int .u64 a, .int .i64 s, .int .u64 v] w K := by
 have hs8 : s <= 8 /\ 1 <= s := by rcases hs with h | h | h | h <;> omega
 have hoff : a % 4096 + s <= 4096 := by rcases hs with h | h | h | h <;> subst h <;> omega
 have hgr : (a % 4096 + s - 1) / 16 = a % 4096 / 16 := by rcases hs with h | h | h | h <;> subst h <;> omega
 have hq := h.lt
 have hne := h.ne
 apply F21_ok
 unfold F21
 simp (disch := first | exact qD16 | fail) only [qG3, Nat.reduceAdd, Nat.reduceLeDiff, Int.reduceToNat, Int.reduceAdd, Int.reduceSub, Int.reduceLT, Int.reduceLE, Nat.reduceSub, Nat.reduceMul, Nat.reduceEqDiff]
 refine number_spec ?_
 rw [if_pos (by rcases hs with h | h | h | h <;> omega)]
 simp (disch := first | exact qD16 | fail) only [qG3, Nat.reduceAdd, Nat.reduceLeDiff, Int.reduceToNat, Int.reduceAdd, Int.reduceSub, Int.reduceLT, Int.reduceLE, Nat.reduceSub, Nat.reduceMul, Nat.reduceEqDiff]
 have hx1 : Ext [] w (w.alloc (.cells [.int .u64 v].toArray 35)) := qX
 refine place_spec (h.ext hx1 (by simp) (by simp)) hn (by omega) (by omega) (fun c1 c2 => ?_) (fun c => absurd ⟨by omega, by omega⟩ c)
 have e1 : ((a : Int) / 4096).toNat = a / 4096 := by omega
 have e2 : (a : Int) % 4096 = ((a % 4096 : Nat) : Int) := by omega
 rw [e1, e2]
 simp (disch := first | exact qD16 | fail) only [qG3, Nat.reduceAdd, Nat.reduceLeDiff, Int.reduceToNat, Int.reduceAdd, Int.reduceSub, Int.reduceLT, Int.reduceLE, Nat.reduceSub, Nat.reduceMul, Nat.reduceEqDiff, joinBR]
 refine joinL.intro fun J0 hJ0 => ?_
 simp (disch := first | exact qD16 | fail) only [qG3, Nat.reduceAdd, Nat.reduceLeDiff, Int.reduceToNat, Int.reduceAdd, Int.reduceSub, Int.reduceLT, Int.reduceLE, Nat.reduceSub, Nat.reduceMul, Nat.reduceEqDiff, joinBR]
 apply hJ0
 intro _
 simp (disch := first | exact qD16 | fail) only [qG3, Nat.reduceAdd, Nat.reduceLeDiff, Int.reduceToNat, Int.reduceAdd, Int.reduceSub, Int.reduceLT, Int.reduceLE, Nat.reduceSub, Nat.reduceMul, Nat.reduceEqDiff, joinBR]
 refine each_spec (n := s) (by omega) (I := fun i w' => At3 w' w.heap.size (w.heap.size + 1) (w.heap.size + 1 + 1) q (a / 4096) ((a % 4096 : Nat) : Int) (.int .u64 v) /\ Mem w' r q n (stored m a i v) g /\ Ext [q] w w') ⟨⟨by simp (disch := first | exact qD16 | fail) only [qG3, Nat.reduceAdd, Nat.reduceLeDiff, Int.reduceToNat, Int.reduceAdd, Int.reduceSub, Int.reduceLT, Int.reduceLE, Nat.reduceSub, Nat.reduceMul, Nat.reduceEqDiff], by simp (disch := first | exact qD16 | fail) only [qG3, Nat.reduceAdd, Nat.reduceLeDiff, Int.reduceToNat, Int.reduceAdd, Int.reduceSub, Int.reduceLT, Int.reduceLE, Nat.reduceSub, Nat.reduceMul, Nat.reduceEqDiff], by simp (disch := first | exact qD16 | fail) only [qG3, Nat.reduceAdd, Nat.reduceLeDiff, Int.reduceToNat, Int.reduceAdd, Int.reduceSub, Int.reduceLT, Int.reduceLE, Nat.reduceSub, Nat.reduceMul, Nat.reduceEqDiff]⟩, ?_, qX⟩ ?_ fun w2 h2 => ?_
 ·rw [stored_zero]
  refine h.ext (S := []) ?_ (by simp) (by simp)
  exact qX
 ·rintro i w2 hi ⟨h1, h2, h3⟩ K hK
  simp (disch := first | exact qD16 | fail) only [qG3, Nat.reduceAdd, Nat.reduceLeDiff, Int.reduceToNat, Int.reduceAdd, Int.reduceSub, Int.reduceLT, Int.reduceLE, Nat.reduceSub, Nat.reduceMul, Nat.reduceEqDiff]
  refine storeF_spec h1 h2 (by omega) hn.2 (by omega) (by omega) hv fun w3 h4 h5 => hK w3 ⟨?_, ?_, h3.trans h5 (by simp)⟩
  ·exact ⟨h5.at h1.c7 (by simp; omega), h5.at h1.c11 (by simp; omega), h5.at h1.c12 (by simp; omega)⟩
  ·have e3 : a / 4096 * 4096 + (a % 4096 + i) = a + i := by omega
   rw [e3, stored_succ] at h4
   exact h4
 obtain ⟨⟨c7, c11, c12⟩, hm, hx⟩ := h2
 obtain ⟨L, hb, hL⟩ := hm.body
 have hl := hL.len
 have hhd := hm.head
 have hsub := hL.sub (p := a / 4096) (by omega)
 have hql := hm.lt
 have l11 := lt_of_at c11
 have l12 := lt_of_at c12
 refine joinL.intro fun J2 hJ2 => ?_
 have hrest : ∀ gw w6, Wok gw -> (∀ j, j < 256 -> bit gw j = (bit (fun j => g (a / 4096 * 4 + j)) j && !decide (j = a % 4096 / 16))) -> w6.heap[r]? = some (.cells [.slice (some ⟨q, 0, none⟩) n n].toArray 134 (0, 0)) -> w6.heap[q]? = some (.cells (splice L (a / 4096 * 4100 + 4096) (tgC gw)).toArray 145 (0, 0)) -> Ext [q] w w6 -> J2 [] w6 := by
  intro gw w6 g1 g2 g3 g4 g5
  apply hJ2
  intro _
  refine hK (wset4 g (a / 4096) gw) w6 ⟨g3, ⟨_, g4, hL.tags (by omega)⟩, hm.byte, wset4_ok hm.word g1⟩ (fun x hx => ?_) g5
  rw [bit_wset4]
  by_cases hp : x / 256 = a / 4096
  ·rw [if_pos hp, g2 _ (by omega), bit_page (by omega), show a / 4096 * 256 + x % 256 = x by omega]
   congr 2
   rw [Bool.eq_iff_iff]
   simp only [decide_eq_true_eq]
   omega
  ·rw [if_neg hp, decide_eq_false (by omega)]
   simp
 clear hJ2 hJ0 hK
 simp (disch := first | exact qD16 | fail) only [qG3, Nat.reduceAdd, Nat.reduceLeDiff, Int.reduceToNat, Int.reduceAdd, Int.reduceSub, Int.reduceLT, Int.reduceLE, Nat.reduceSub, Nat.reduceMul, Nat.reduceEqDiff, c11, c12, hb, hsub, Option.isNone_some, and_self]
 repeat' (with_reducible apply And.intro)
 all_goals refine Cover_spec (by omega) (by omega) fun gc w4 hgc hbc hx4 => ?_
 all_goals
  have hk4 := kept0 hx4
  have hs4 : w2.heap.size <= w4.heap.size := hx4.size
  simp (disch := first | exact qD16 | fail) only [qG3, Nat.reduceAdd, Nat.reduceLeDiff, Int.reduceToNat, Int.reduceAdd, Int.reduceSub, Int.reduceLT, Int.reduceLE, Nat.reduceSub, Nat.reduceMul, Nat.reduceEqDiff, hk4, c11, c12, hb, hsub, Option.isNone_some, and_self]
 all_goals repeat' (with_reducible apply And.intro)
 all_goals refine Without_spec (g := fun j => g (a / 4096 * 4 + j)) (fun j => hm.word _) hgc fun gw w5 hgw hbw hx5 => ?_
 all_goals
  have hk5 := kept0 hx5
  have hs5 := hx5.size
  simp (disch := first | exact qD16 | fail) only [qG3, Nat.reduceAdd, Nat.reduceLeDiff, Int.reduceToNat, Int.reduceAdd, Int.reduceSub, Int.reduceLT, Int.reduceLE, Nat.reduceSub, Nat.reduceMul, Nat.reduceEqDiff, hk5, hk4, c11, c12, hb, hsub, Option.isNone_some, and_self]
 all_goals repeat' (with_reducible apply And.intro)
 all_goals
  refine hrest gw _ hgw (fun j hj => ?_) (by first | with_reducible rfl | assumption | (simp (disch := first | exact qD16 | fail) only [qG3, Nat.reduceAdd, Nat.reduceLeDiff, Int.reduceToNat, Int.reduceAdd, Int.reduceSub, Int.reduceLT, Int.reduceLE, Nat.reduceSub, Nat.reduceMul, Nat.reduceEqDiff, hk5, hk4, hhd] <;> rfl)) (by first | with_reducible rfl | assumption | (simp (disch := first | exact qD16 | fail) only [qG3, Nat.reduceAdd, Nat.reduceLeDiff, Int.reduceToNat, Int.reduceAdd, Int.reduceSub, Int.reduceLT, Int.reduceLE, Nat.reduceSub, Nat.reduceMul, Nat.reduceEqDiff, hk5, hk4, hb] <;> rfl)) ?_
  ·rw [hbw j hj, hbc j hj]
   congr 2
   rw [Bool.eq_iff_iff]
   simp only [decide_eq_true_eq]
   omega
  ·have hx6 : Ext [q] w w5 := (hx.drew.trans hx4 (by simp)).trans hx5 (by simp)
   exact qX
def leN (m : Nat -> Int) (a : Nat) : Nat -> Nat
 | 0 => 0
 | k + 1 => leN m a k + (m (a + k)).toNat * 2 ^ (8 * k)
theorem leN_lt {m : Nat -> Int} (h : Byte m) (a : Nat) : ∀ k, leN m a k < 2 ^ (8 * k)
 | 0 => by simp [leN]
 | k + 1 => by
  have h1 := leN_lt h a k
  have h2 := h (a + k)
  have h3 : (m (a + k)).toNat * 2 ^ (8 * k) <= 255 * 2 ^ (8 * k) := Nat.mul_le_mul_right _ (by omega)
  have h4 : (2 : Nat) ^ (8 * (k + 1)) = 256 * 2 ^ (8 * k) := by rw [show 8 * (k + 1) = 8 + 8 * k by omega, Nat.pow_add]
  unfold leN
  omega
theorem leN_or {m : Nat -> Int} (h : Byte m) (a k : Nat) : leN m a k ||| (m (a + k)).toNat * 2 ^ (8 * k) = leN m a (k + 1) := by
 have h1 := Nat.shiftLeft_add_eq_or_of_lt (leN_lt h a k) (m (a + k)).toNat
 rw [Nat.shiftLeft_eq] at h1
 rw [Nat.or_comm, <- h1, Nat.add_comm]
 rfl
structure At4 (w : World) (b13 b10 b11 q p : Nat) (off : Int) (x : Nat) : Prop where
 c13 : w.heap[b13]? = some (.cells [.int .u64 x].toArray 35 (0, 0))
 c10 : w.heap[b10]? = some (.cells [.pointer (some ⟨q, p * 4100, none⟩)].toArray 137 (0, 0))
 c11 : w.heap[b11]? = some (.cells [.int .i64 off].toArray 3 (0, 0))
theorem loadF_spec {w : World} {b13 b10 b11 r q n p i : Nat} {o : Nat} {m g : Nat -> Int} (h3 : At4 w b13 b10 b11 q p o (leN m (p * 4096 + o) i)) (h : Mem w r q n m g) (hp : p < n) (hn : n <= 1000) (hi : o + i < 4096) (hi8 : i < 8) (hd : b13 ≠ q) {K : Value -> World -> Prop}
  (hK : ∀ w', w'.heap[b13]? = some (.cells [.int .u64 (leN m (p * 4096 + o) (i + 1) : Nat)].toArray 35 (0, 0)) -> Ext [b13] w w' -> K (.tuple #[]) w') :
  callsK Tryz.prog 210 #[.int .i64 i, .pointer (some ⟨b13, 0, none⟩), .pointer (some ⟨b10, 0, none⟩), .pointer (some ⟨b11, 0, none⟩)] w K := by
 obtain ⟨c13, c10, c11⟩ := h3
 obtain ⟨L, hb, hL⟩ := h.body
 have hl := hL.len
 have hlt := lt_of_at c13
 have he : (8 * (i : Int)).toNat = 8 * i := by omega
 have hidx : ((o : Int) + (i : Int)).toNat = o + i := by omega
 have hg := hL.byte p (o + i) hp hi
 have hby := h.byte (p * 4096 + (o + i))
 have hle := leN_lt h.byte (p * 4096 + o) i
 have hle2 := leN_lt h.byte (p * 4096 + o) (i + 1)
 have hor := leN_or h.byte (p * 4096 + o) i
 have hpw : (2 : Nat) ^ (8 * (i + 1)) <= 18446744073709551616 := Nat.le_trans (Nat.pow_le_pow_right (show 0 < 2 by omega) (show 8 * (i + 1) <= 64 by omega)) (by decide)
 have hlb : leN m (p * 4096 + o) (i + 1) = leN m (p * 4096 + o) i + (m (p * 4096 + o + i)).toNat * 2 ^ (8 * i) := rfl
 rw [show p * 4096 + (o + i) = p * 4096 + o + i by omega] at hg hby
 generalize leN m (p * 4096 + o) (i + 1) = y at hle2 hor hK hlb
 generalize leN m (p * 4096 + o) i = x at hle hor c13 hlb
 generalize m (p * 4096 + o + i) = b at hg hby hor hlb
 obtain ⟨z, hz⟩ : ∃ z, z = b.toNat * 2 ^ (8 * i) := ⟨_, rfl⟩
 have hsh : IntKind.u64.wrap (b * 2 ^ (8 * i)) = (z : Int) := by
  have e : b * 2 ^ (8 * i) = (z : Int) := by
   rw [hz]
   have : b = (b.toNat : Int) := by omega
   rw [this]
   simp
  rw [e]
  exact wrap_u64 (by omega)
 rw [<- hz] at hor hlb
 have hor2 := or_u64 (a := (x : Int)) (b := (z : Int)) (by omega) (by omega)
 simp only [Int.toNat_natCast, hor] at hor2
 apply F210_ok
 unfold F210
 simp (disch := first | exact qD16 | fail) only [qG3, Nat.reduceAdd, Nat.reduceLeDiff, Int.reduceToNat, Int.reduceAdd, Int.reduceSub, Int.reduceLT, Int.reduceLE, Nat.reduceSub, Nat.reduceMul, Nat.reduceEqDiff, c13, c10, c11, hb, he, hidx, hg, hsh, hor2]
 refine hK _ (by first | with_reducible rfl | assumption | (simp (disch := first | exact qD16 | fail) only [qG3, Nat.reduceAdd, Nat.reduceLeDiff, Int.reduceToNat, Int.reduceAdd, Int.reduceSub, Int.reduceLT, Int.reduceLE, Nat.reduceSub, Nat.reduceMul, Nat.reduceEqDiff, c13] <;> rfl)) ?_
 exact qX
theorem Load_spec {w : World} {r q n a s : Nat} {m g : Nat -> Int} (h : Mem w r q n m g) (hn : 0 < n /\ n <= 1000) (ha : a < n * 4096) (hs : Size s) (hal : a % s = 0) {K : Value -> World -> Prop}
  (hK : ∀ w', Ext [] w w' -> K (.tuple #[.int .u64 (leN m a s : Nat), .int .i64 0]) w') :
  callsK Tryz.prog 208 #[.pointer (some ⟨r, 0, none⟩), .int .u64 a, .int .i64 s] w K := by
 have hs8 : s <= 8 /\ 1 <= s := by rcases hs with h | h | h | h <;> omega
 have hoff : a % 4096 + s <= 4096 := by rcases hs with h | h | h | h <;> subst h <;> omega
 have hq := h.lt
 apply F208_ok
 unfold F208
 simp (disch := first | exact qD16 | fail) only [qG3, Nat.reduceAdd, Nat.reduceLeDiff, Int.reduceToNat, Int.reduceAdd, Int.reduceSub, Int.reduceLT, Int.reduceLE, Nat.reduceSub, Nat.reduceMul, Nat.reduceEqDiff]
 refine number_spec ?_
 rw [if_pos (by rcases hs with h | h | h | h <;> omega)]
 simp (disch := first | exact qD16 | fail) only [qG3, Nat.reduceAdd, Nat.reduceLeDiff, Int.reduceToNat, Int.reduceAdd, Int.reduceSub, Int.reduceLT, Int.reduceLE, Nat.reduceSub, Nat.reduceMul, Nat.reduceEqDiff]
 refine place_spec h hn (by omega) (by omega) (fun c1 c2 => ?_) (fun c => absurd ⟨by omega, by omega⟩ c)
 have e1 : ((a : Int) / 4096).toNat = a / 4096 := by omega
 have e2 : (a : Int) % 4096 = ((a % 4096 : Nat) : Int) := by omega
 have e3 : a / 4096 * 4096 + a % 4096 = a := by omega
 rw [e1, e2]
 simp (disch := first | exact qD16 | fail) only [qG3, Nat.reduceAdd, Nat.reduceLeDiff, Int.reduceToNat, Int.reduceAdd, Int.reduceSub, Int.reduceLT, Int.reduceLE, Nat.reduceSub, Nat.reduceMul, Nat.reduceEqDiff, joinBR]
 refine joinL.intro fun J0 hJ0 => ?_
 simp (disch := first | exact qD16 | fail) only [qG3, Nat.reduceAdd, Nat.reduceLeDiff, Int.reduceToNat, Int.reduceAdd, Int.reduceSub, Int.reduceLT, Int.reduceLE, Nat.reduceSub, Nat.reduceMul, Nat.reduceEqDiff, joinBR]
 apply hJ0
 intro _
 simp (disch := first | exact qD16 | fail) only [qG3, Nat.reduceAdd, Nat.reduceLeDiff, Int.reduceToNat, Int.reduceAdd, Int.reduceSub, Int.reduceLT, Int.reduceLE, Nat.reduceSub, Nat.reduceMul, Nat.reduceEqDiff, joinBR]
 refine each_spec (n := s) (by omega) (I := fun i w' => At4 w' (w.heap.size + 1 + 1) w.heap.size (w.heap.size + 1) q (a / 4096) ((a % 4096 : Nat) : Int) (leN m a i) /\ Mem w' r q n m g /\ Ext [] w w') ⟨⟨by simp (disch := first | exact qD16 | fail) only [qG3, Nat.reduceAdd, Nat.reduceLeDiff, Int.reduceToNat, Int.reduceAdd, Int.reduceSub, Int.reduceLT, Int.reduceLE, Nat.reduceSub, Nat.reduceMul, Nat.reduceEqDiff]; rfl, by simp (disch := first | exact qD16 | fail) only [qG3, Nat.reduceAdd, Nat.reduceLeDiff, Int.reduceToNat, Int.reduceAdd, Int.reduceSub, Int.reduceLT, Int.reduceLE, Nat.reduceSub, Nat.reduceMul, Nat.reduceEqDiff], by simp (disch := first | exact qD16 | fail) only [qG3, Nat.reduceAdd, Nat.reduceLeDiff, Int.reduceToNat, Int.reduceAdd, Int.reduceSub, Int.reduceLT, Int.reduceLE, Nat.reduceSub, Nat.reduceMul, Nat.reduceEqDiff]⟩, ?_, qX⟩ ?_ fun w2 h2 => ?_
 ·refine h.ext (S := []) ?_ (by simp) (by simp)
  exact qX
 ·rintro i w2 hi ⟨h1, h2, h3⟩ K hK
  simp (disch := first | exact qD16 | fail) only [qG3, Nat.reduceAdd, Nat.reduceLeDiff, Int.reduceToNat, Int.reduceAdd, Int.reduceSub, Int.reduceLT, Int.reduceLE, Nat.reduceSub, Nat.reduceMul, Nat.reduceEqDiff]
  refine loadF_spec (m := m) (by rw [e3]; exact h1) h2 (by omega) hn.2 (by omega) (by omega) (by omega) fun w3 h4 h5 => hK w3 ⟨⟨?_, ?_, ?_⟩, ?_, h3.trans h5 (by simp; omega)⟩
  ·rw [e3] at h4; exact h4
  ·exact h5.at h1.c10 (by simp <;> omega)
  ·exact h5.at h1.c11 (by simp <;> omega)
  ·exact h2.ext h5 (by simp; omega) (by simp; omega)
 obtain ⟨⟨c13, c10, c11⟩, hm, hx⟩ := h2
 simp (disch := first | exact qD16 | fail) only [qG3, Nat.reduceAdd, Nat.reduceLeDiff, Int.reduceToNat, Int.reduceAdd, Int.reduceSub, Int.reduceLT, Int.reduceLE, Nat.reduceSub, Nat.reduceMul, Nat.reduceEqDiff, c13]
 exact hK _ hx
def pageZ : List Value := List.replicate 4096 (.int .u8 0) ++ List.replicate 4 (.int .u64 0)
theorem pageZ_len : pageZ.length = 4100 := by unfold pageZ; rw [List.length_append, List.length_replicate, List.length_replicate]
theorem pageZ_low {i : Nat} (h : i < 4096) : pageZ.getD i undef = .int .u8 0 := by
 unfold pageZ
 rw [List.getD_eq_getElem?_getD, List.getElem?_append_left (by rw [List.length_replicate]; exact h), List.getElem?_replicate, if_pos h]
 rfl
theorem pageZ_high {j : Nat} (h : j < 4) : pageZ.getD (4096 + j) undef = .int .u64 0 := by
 unfold pageZ
 rw [List.getD_eq_getElem?_getD, List.getElem?_append_right (by rw [List.length_replicate]; omega), List.length_replicate, Nat.add_sub_cancel_left, List.getElem?_replicate, if_pos h]
 rfl
theorem page_info : (Tryz.prog.info? 145).map (fun i => (i.size, i.bytes, i.zero.map fun z => z.cells.toList)) = some (4100, 4128, some pageZ) := by kernel_rfl
theorem New_spec {w : World} {n : Nat} (hn : 1 <= n /\ n <= 64) {K : Value -> World -> Prop}
  (hK : ∀ w', Mem w' (w.heap.size + 1) w.heap.size n (fun _ => 0) (fun _ => 0) -> Ext [] w w' -> K (.tuple #[.pointer (some ⟨w.heap.size + 1, 0, none⟩), .int .i64 0]) w') : callsK Tryz.prog 19 #[.int .i64 n] w K := by
 have hzl := pageZ_len
 have hmk := fun w => run_mk (P := Tryz.prog) Tryz.underlying132 page_info .i64 .i64 n (by intro h; rw [h] at hzl; simp at hzl) (by omega) (by omega) (by omega) w
 apply F19_ok
 unfold F19
 simp (disch := first | exact qD16 | fail) only [qG3, Nat.reduceAdd, Nat.reduceLeDiff, Int.reduceToNat, Int.reduceAdd, Int.reduceSub, Int.reduceLT, Int.reduceLE, Nat.reduceSub, Nat.reduceMul, Nat.reduceEqDiff, joinBR, hmk]
 refine hK _ ⟨by simp (disch := first | exact qD16 | fail) only [qG3, Nat.reduceAdd, Nat.reduceLeDiff, Int.reduceToNat, Int.reduceAdd, Int.reduceSub, Int.reduceLT, Int.reduceLE, Nat.reduceSub, Nat.reduceMul, Nat.reduceEqDiff], ⟨madeL pageZ (n * 4100), by simp (disch := first | exact qD16 | fail) only [qG3, Nat.reduceAdd, Nat.reduceLeDiff, Int.reduceToNat, Int.reduceAdd, Int.reduceSub, Int.reduceLT, Int.reduceLE, Nat.reduceSub, Nat.reduceMul, Nat.reduceEqDiff], ⟨by rw [madeL_length], fun p i hp hi => ?_, fun p j hp hj => ?_⟩⟩, fun _ => ⟨by decide, by decide⟩, Wok.zero⟩ qX
 ·rw [madeL_get (by omega), hzl, show (p * 4100 + i) % 4100 = i by omega]
  rw [pageZ_low hi]
 ·rw [madeL_get (by omega), hzl, show (p * 4100 + 4096 + j) % 4100 = 4096 + j by omega]
  rw [pageZ_high hj]
open Go.Fx
theorem qG4 : type_of% (And.intro @gen0 (And.intro (@gen1 Tryz.prog) (And.intro @gen2 (And.intro @rulesC (And.intro @rulesX (And.intro @rulesM (And.intro @litR (And.intro @bolR (And.intro (@numR Tryz.prog) (And.intro (@memR Tryz.prog) (And.intro @valR (And.intro @heapR (And.intro @updR (And.intro @intR (And.intro @decR (And.intro (@extR Tryz.prog) (And.intro (@slR Tryz.prog) (And.intro @segR (And.intro @thenR ((@pnR Tryz.prog))))))))))))))))))))) := ⟨@gen0, (@gen1 Tryz.prog), @gen2, @rulesC, @rulesX, @rulesM, @litR, @bolR, (@numR Tryz.prog), (@memR Tryz.prog), @valR, @heapR, @updR, @intR, @decR, (@extR Tryz.prog), (@slR Tryz.prog), @segR, @thenR, (@pnR Tryz.prog)⟩
set_option maxRecDepth 100000
theorem sub_left {A B : List Value} {o n : Nat} (h : o + n <= A.length) : sub (A ++ B) o n = sub A o n := by
 unfold sub
 rw [List.drop_append_of_le_length (by omega), List.take_append_of_le_length (by rw [List.length_drop]; omega)]
theorem sub_right {A B : List Value} {o n k : Nat} (h : o = A.length + k) : sub (A ++ B) o n = sub B k n := by
 unfold sub
 rw [h, List.drop_append, List.drop_of_length_le (by omega), List.nil_append, Nat.add_sub_cancel_left]
theorem sub_whole {A : List Value} {n : Nat} (h : n = A.length) : sub A 0 n = A := by
 unfold sub
 rw [List.drop_zero, List.take_of_length_le (by omega)]
theorem splice_left {A B V : List Value} {o : Nat} (h : o + V.length <= A.length) : splice (A ++ B) o V = splice A o V ++ B := by
 unfold splice
 rw [List.take_append_of_le_length (by omega), List.drop_append_of_le_length (by omega)]
 simp only [List.append_assoc]
theorem splice_right {A B V : List Value} {o k : Nat} (h : o = A.length + k) : splice (A ++ B) o V = A ++ splice B k V := by
 unfold splice
 rw [h, List.take_append, List.drop_append, List.take_of_length_le (by omega), List.drop_of_length_le (l := A) (by omega), List.nil_append, Nat.add_sub_cancel_left, show A.length + k + V.length - A.length = k + V.length by omega]
 simp only [List.append_assoc]
theorem splice_whole {A V : List Value} (h : V.length = A.length) : splice A 0 V = V := by
 unfold splice
 rw [List.take_zero, List.nil_append, List.drop_of_length_le (by omega), List.append_nil]
/-- what came of an instruction. -/
def ouC (k c v : Nat) (i : In) : List Value := [.int .i64 k, .int .i64 c, .int .u64 v] ++ inC i
theorem ouC_len (k c v : Nat) (i : In) : (ouC k c v i).length = 8 := by simp [ouC, inC]
theorem ouC_all (k c v : Nat) (i : In) : (ouC k c v i).all (fun v => v.oneCell') = true := by simp [ouC, inC]; exact ⟨rfl, rfl, rfl, rfl, rfl, rfl, rfl, rfl⟩
theorem ou_sub (k c v : Nat) (i : In) : sub (ouC k c v i) 0 8 = ouC k c v i := rfl
def In.zero : In := ⟨0, 0, 0, 0, 0⟩
theorem ou_over (k c v : Nat) (i : In) : splice [.int .i64 0, .int .i64 0, .int .u64 0, .int .i64 0, .int .i64 0, .int .i64 0, .int .i64 0, .int .i64 0] 0 (ouC k c v i) = ouC k c v i := rfl
theorem ou_put (k c v : Nat) (i : In) : ouC k c v i ++ List.drop (ouC k c v i).length [.int .i64 0, .int .i64 0, .int .u64 0, .int .i64 0, .int .i64 0, .int .i64 0, .int .i64 0, .int .i64 0] = ouC k c v i := by simp [ouC, inC]
/-- an instruction that is run. -/
structure Rn where
 c : Nat -> Cq
 d : Nat -> Cq
 m : Value
 hm : m.oneCell' = true
 i : In
 a : Cq
 b : Cq
def rnC (r : Rn) : List Value := cxC r.c ++ (cxC r.d ++ (r.m :: (inC r.i ++ (cq r.a ++ cq r.b))))
theorem rnC_len (r : Rn) : (rnC r).length = 210 := by
 unfold rnC
 simp only [List.length_append, List.length_cons, cxC_len, inC_len, cq_len]
theorem rnC_all (r : Rn) : (rnC r).all (fun v => v.oneCell') = true := by
 unfold rnC
 rw [List.all_append, List.all_append, List.all_cons, List.all_append, List.all_append, cxC_all, cxC_all, inC_all, cq_all, cq_all, r.hm]
 rfl
theorem rn_c (r : Rn) : sub (rnC r) 0 99 = cxC r.c := by
 unfold rnC
 rw [sub_left (by rw [cxC_len]; omega), sub_whole (by rw [cxC_len])]
theorem rn_d (r : Rn) : sub (rnC r) 99 99 = cxC r.d := by
 unfold rnC
 rw [sub_right (k := 0) (by rw [cxC_len]), sub_left (by rw [cxC_len]; omega), sub_whole (by rw [cxC_len])]
theorem rnC_cons (r : Rn) : rnC r = (cxC r.c ++ (cxC r.d ++ [r.m])) ++ (inC r.i ++ (cq r.a ++ cq r.b)) := by
 unfold rnC
 simp
theorem rn_i (r : Rn) : sub (rnC r) 199 5 = inC r.i := by
 rw [rnC_cons, sub_right (k := 0) (by simp [cxC_len]), sub_left (by rw [inC_len]; omega), sub_whole (by rw [inC_len])]
theorem rn_a (r : Rn) : sub (rnC r) 204 3 = cq r.a := by
 rw [rnC_cons, sub_right (k := 5) (by simp [cxC_len]), sub_right (k := 0) (by rw [inC_len]), sub_left (by rw [cq_len]; omega), sub_whole (by rw [cq_len])]
theorem rn_b (r : Rn) : sub (rnC r) 207 3 = cq r.b := by
 rw [rnC_cons, sub_right (k := 8) (by simp [cxC_len]), sub_right (k := 3) (by rw [inC_len]), sub_right (k := 0) (by rw [cq_len]), sub_whole (by rw [cq_len])]
theorem get_sub {L : List Value} {o n j : Nat} (h : j < n) : L[o + j]? = (sub L o n)[j]? := by
 unfold sub
 rw [List.getElem?_take, if_pos h, List.getElem?_drop]
theorem rn_op (r : Rn) : (rnC r)[199]? = some (.int .i64 r.i.op) := by
 rw [get_sub (o := 199) (n := 5) (j := 0) (by omega), rn_i]
 rfl
theorem rn_rd (r : Rn) : (rnC r)[200]? = some (.int .i64 r.i.rd) := by
 rw [get_sub (o := 199) (n := 5) (j := 1) (by omega), rn_i]
 rfl
theorem rn_im (r : Rn) : (rnC r)[203]? = some (.int .i64 r.i.im) := by
 rw [get_sub (o := 199) (n := 5) (j := 4) (by omega), rn_i]
 rfl
theorem rn_aa (r : Rn) : (rnC r)[206]? = some (.int .u64 r.a.a) := by
 rw [get_sub (o := 204) (n := 3) (j := 2) (by omega), rn_a]
 rfl
theorem rn_ba (r : Rn) : (rnC r)[209]? = some (.int .u64 r.b.a) := by
 rw [get_sub (o := 207) (n := 3) (j := 2) (by omega), rn_b]
 rfl
theorem rn_setc (r : Rn) (c : Nat -> Cq) : splice (rnC r) 0 (cxC c) = rnC { r with c := c } := by
 unfold rnC
 rw [splice_left (by rw [cxC_len, cxC_len]; omega), splice_whole (by rw [cxC_len, cxC_len])]
theorem rn_seti (r : Rn) (i : In) : splice (rnC r) 199 (inC i) = rnC { r with i := i } := by
 rw [rnC_cons, rnC_cons, splice_right (k := 0) (by simp [cxC_len]), splice_left (by rw [inC_len, inC_len]; omega), splice_whole (by rw [inC_len, inC_len])]
theorem rn_seta (r : Rn) (a : Cq) : splice (rnC r) 204 (cq a) = rnC { r with a := a } := by
 rw [rnC_cons, rnC_cons, splice_right (k := 5) (by simp [cxC_len]), splice_right (k := 0) (by rw [inC_len]), splice_left (by rw [cq_len, cq_len]; omega), splice_whole (by rw [cq_len, cq_len])]
theorem rn_setb (r : Rn) (b : Cq) : splice (rnC r) 207 (cq b) = rnC { r with b := b } := by
 rw [rnC_cons, rnC_cons, splice_right (k := 8) (by simp [cxC_len]), splice_right (k := 3) (by rw [inC_len]), splice_right (k := 0) (by rw [cq_len]), splice_whole (by rw [cq_len, cq_len])]
/-- a block that is written by one operation, as a whole. -/
theorem relX.one (b : Nat) (o : Obj) {G : (World -> World -> Prop) -> Prop} (h : G fun w w' => Ext [b] w w' /\ ∀ x, w.heap[b]? = some x -> w'.heap[b]? = some x ∨ w'.heap[b]? = some o) : relX G := by
 refine ⟨_, fun _ => ⟨Ext.refl, fun _ h => .inl h⟩, fun a b c h1 h2 => ⟨h1.1.step h2.1, fun x hx => ?_⟩, fun _ _ h => h.1.size, h⟩
 rcases h1.2 x hx with h3 | h3
 ·exact h2.2 x h3
 ·rcases h2.2 o h3 with h4 | h4
  ·exact .inr h4
  ·exact .inr h4
theorem okX.one {b : Nat} {o : Obj} {w : World} {v : Value} : okX (fun w w' => Ext [b] w w' /\ ∀ x, w.heap[b]? = some x -> w'.heap[b]? = some x ∨ w'.heap[b]? = some o) w (fun u _ => u = v) v w := ⟨⟨Ext.refl, fun _ h => .inl h⟩, rfl⟩
theorem qZ17 : type_of% (And.intro @szR (And.intro @cq_len (And.intro @cq_all (And.intro @cxC_len (And.intro @cxC_all (And.intro @inC_len (And.intro @inC_all (And.intro @rnC_len (And.intro @rnC_all (And.intro @ouC_len (@ouC_all))))))))))) := ⟨@szR, @cq_len, @cq_all, @cxC_len, @cxC_all, @inC_len, @inC_all, @rnC_len, @rnC_all, @ouC_len, @ouC_all⟩
theorem qD17 {p : Prop} (h : p := by first | assumption | omega | (simp only [qZ17] <;> omega) | rfl | decide) : p := h
theorem retire_spec {w : World} {q : Nat} {r : Rn} (hr : w.heap[q]? = some (.cells (rnC r).toArray 88 (0, 0))) {K : Value -> World -> Prop} (hK : ∀ w', Ext [] w w' -> K (.tuple #[.agg (cxC r.c).toArray, .agg (ouC 0 0 0 r.i).toArray]) w') : callsK Tryz.prog 109 #[.pointer (some ⟨q, 0, none⟩)] w K := by
 apply F109_ok
 unfold F109
 have l0 := lt_of_at hr
 simp (disch := first | exact qD17 | fail) only [qG4, Nat.reduceAdd, Nat.reduceLeDiff, Int.reduceToNat, Int.reduceAdd, Int.reduceSub, Int.reduceLT, Int.reduceLE, Nat.reduceSub, Nat.reduceMul, Nat.reduceEqDiff, zeroX_cells]
 have hx0 : Ext [] w ((w.alloc (.cells (cxC zeroX).toArray 40)).alloc (.cells [.int .i64 0, .int .i64 0, .int .u64 0, .int .i64 0, .int .i64 0, .int .i64 0, .int .i64 0, .int .i64 0].toArray 48)).drew := qX
 have g1 : ((w.alloc (.cells (cxC zeroX).toArray 40)).alloc (.cells [.int .i64 0, .int .i64 0, .int .u64 0, .int .i64 0, .int .i64 0, .int .i64 0, .int .i64 0, .int .i64 0].toArray 48)).drew.heap[w.heap.size]? = some (.cells (cxC zeroX).toArray 40 (0, 0)) := (by first | with_reducible rfl | assumption | (simp (disch := first | exact qD17 | fail) only [qG4, Nat.reduceAdd, Nat.reduceLeDiff, Int.reduceToNat, Int.reduceAdd, Int.reduceSub, Int.reduceLT, Int.reduceLE, Nat.reduceSub, Nat.reduceMul, Nat.reduceEqDiff] <;> rfl))
 have g2 : ((w.alloc (.cells (cxC zeroX).toArray 40)).alloc (.cells [.int .i64 0, .int .i64 0, .int .u64 0, .int .i64 0, .int .i64 0, .int .i64 0, .int .i64 0, .int .i64 0].toArray 48)).drew.heap[w.heap.size + 1]? = some (.cells [.int .i64 0, .int .i64 0, .int .u64 0, .int .i64 0, .int .i64 0, .int .i64 0, .int .i64 0, .int .i64 0].toArray 48 (0, 0)) := (by first | with_reducible rfl | assumption | (simp (disch := first | exact qD17 | fail) only [qG4, Nat.reduceAdd, Nat.reduceLeDiff, Int.reduceToNat, Int.reduceAdd, Int.reduceSub, Int.reduceLT, Int.reduceLE, Nat.reduceSub, Nat.reduceMul, Nat.reduceEqDiff] <;> rfl))
 have g0 := hx0.at hr (by simp)
 obtain ⟨b1, hb1⟩ : ∃ b1, b1 = w.heap.size := ⟨_, rfl⟩
 have hq : q ≠ b1 := by omega
 rw [<- hb1] at g1 g2 ⊢
 generalize ((w.alloc (.cells (cxC zeroX).toArray 40)).alloc (.cells [.int .i64 0, .int .i64 0, .int .u64 0, .int .i64 0, .int .i64 0, .int .i64 0, .int .i64 0, .int .i64 0].toArray 48)).drew = w1 at *
 refine relX.one b1 (.cells (cxC r.c).toArray 40 (0, 0)) ?_
 refine postX.is (.pointer (some ⟨q, 0, none⟩)) (fun v w2 hR _ => okX.one) ?_
 refine postX.is (.pointer (some ⟨q, 0, none⟩)) (fun v w2 hR hd => by obtain ⟨d1, -⟩ := hd; simp (disch := first | exact qD17 | fail) only [qG4, Nat.reduceAdd, Nat.reduceLeDiff, Int.reduceToNat, Int.reduceAdd, Int.reduceSub, Int.reduceLT, Int.reduceLE, Nat.reduceSub, Nat.reduceMul, Nat.reduceEqDiff, d1]; exact okX.one) ?_
 refine postX.is (.pointer (some ⟨q, 0, none⟩)) (fun v w2 hR hd => by obtain ⟨d1, -⟩ := hd; simp (disch := first | exact qD17 | fail) only [qG4, Nat.reduceAdd, Nat.reduceLeDiff, Int.reduceToNat, Int.reduceAdd, Int.reduceSub, Int.reduceLT, Int.reduceLE, Nat.reduceSub, Nat.reduceMul, Nat.reduceEqDiff, d1]; exact okX.one) ?_
 refine postX.is (.agg (cxC r.c).toArray) (fun v w2 hR hd => by
  obtain ⟨d1, -⟩ := hd
  have e := hR.1.at g0 (by simpa using hq)
  simp (disch := first | exact qD17 | fail) only [qG4, Nat.reduceAdd, Nat.reduceLeDiff, Int.reduceToNat, Int.reduceAdd, Int.reduceSub, Int.reduceLT, Int.reduceLE, Nat.reduceSub, Nat.reduceMul, Nat.reduceEqDiff, d1, e, rn_c]
  exact okX.one) ?_
 refine postX.is (.pointer (some ⟨q, 0, none⟩)) (fun v w2 hR _ => okX.one) ?_
 refine postX.is (.pointer (some ⟨q, 0, none⟩)) (fun v w2 hR hd => by obtain ⟨d1, -⟩ := hd; simp (disch := first | exact qD17 | fail) only [qG4, Nat.reduceAdd, Nat.reduceLeDiff, Int.reduceToNat, Int.reduceAdd, Int.reduceSub, Int.reduceLT, Int.reduceLE, Nat.reduceSub, Nat.reduceMul, Nat.reduceEqDiff, d1]; exact okX.one) ?_
 refine postX.is (.pointer (some ⟨q, 199, none⟩)) (fun v w2 hR hd => by obtain ⟨d1, -⟩ := hd; simp (disch := first | exact qD17 | fail) only [qG4, Nat.reduceAdd, Nat.reduceLeDiff, Int.reduceToNat, Int.reduceAdd, Int.reduceSub, Int.reduceLT, Int.reduceLE, Nat.reduceSub, Nat.reduceMul, Nat.reduceEqDiff, d1]; exact okX.one) ?_
 refine postX.is (.agg (inC r.i).toArray) (fun v w2 hR hd => by
  obtain ⟨d1, -⟩ := hd
  have e := hR.1.at g0 (by simpa using hq)
  simp (disch := first | exact qD17 | fail) only [qG4, Nat.reduceAdd, Nat.reduceLeDiff, Int.reduceToNat, Int.reduceAdd, Int.reduceSub, Int.reduceLT, Int.reduceLE, Nat.reduceSub, Nat.reduceMul, Nat.reduceEqDiff, d1, e, rn_i]
  exact okX.one) ?_
 have hb : ∀ (a0 a1 a2 a3 a4 : Int) (w : World), (Instr.build 48 #[(3, .agg [.int .i64 a0, .int .i64 a1, .int .i64 a2, .int .i64 a3, .int .i64 a4].toArray)]).run Tryz.prog w = .ok (.agg [.int .i64 0, .int .i64 0, .int .u64 0, .int .i64 a0, .int .i64 a1, .int .i64 a2, .int .i64 a3, .int .i64 a4].toArray) w := fun a0 a1 a2 a3 a4 w => run_build w 48 _ _ (by kernel_rfl)
 have hb2 : ∀ (w : World), (Instr.build 48 #[(3, .agg (inC r.i).toArray)]).run Tryz.prog w = .ok (.agg (ouC 0 0 0 r.i).toArray) w := fun w => hb _ _ _ _ _ w
 refine postX.is (.agg (ouC 0 0 0 r.i).toArray) (fun v w2 hR hd => by
  obtain ⟨d1, -⟩ := hd
  simp (disch := first | exact qD17 | fail) only [qG4, Nat.reduceAdd, Nat.reduceLeDiff, Int.reduceToNat, Int.reduceAdd, Int.reduceSub, Int.reduceLT, Int.reduceLE, Nat.reduceSub, Nat.reduceMul, Nat.reduceEqDiff, d1, hb2]
  exact okX.one) ?_
 have hat : ∀ w2, (Ext [b1] w1 w2 /\ ∀ x, w1.heap[b1]? = some x -> w2.heap[b1]? = some x ∨ w2.heap[b1]? = some (.cells (cxC r.c).toArray 40 (0, 0))) -> ∃ d, w2.heap[b1]? = some (.cells (cxC d).toArray 40 (0, 0)) := by
  intro w2 h
  rcases h.2 _ g1 with h | h
  ·exact ⟨_, h⟩
  ·exact ⟨_, h⟩
 refine postX.intro (fun _ w => w.heap[b1]? = some (.cells (cxC r.c).toArray 40 (0, 0))) (fun _ w w' hR h => by rcases hR.2 _ h with h | h <;> exact h) (fun v w2 hR hd => by
  obtain ⟨-, -, -, d4, -⟩ := hd
  obtain ⟨d, e⟩ := hat w2 hR
  simp (disch := first | exact qD17 | fail) only [qG4, Nat.reduceAdd, Nat.reduceLeDiff, Int.reduceToNat, Int.reduceAdd, Int.reduceSub, Int.reduceLT, Int.reduceLE, Nat.reduceSub, Nat.reduceMul, Nat.reduceEqDiff, d4, e, cx_over, cx_put]
  have l := lt_of_at e
  have hxe : Ext [b1] w2 (World.upd w2 b1 (cxC r.c)) := qX
  have hue : (World.upd w2 b1 (cxC r.c)).heap[b1]? = some (.cells (cxC r.c).toArray 40 (0, 0)) := upd_at e
  exact okX.mk ⟨hxe, fun x _ => .inr hue⟩ hue) ?_
 intro v w2 hR hd _
 obtain ⟨-, -, -, -, -, -, -, -, d9, ⟨u, h1⟩, -⟩ := hd
 have h2 := hR.1.at g2 (by simp)
 have l1 := lt_of_at h1
 have l2 := lt_of_at h2
 have hx : Ext [] w w2 := hx0.trans hR.1 (by simp [hb1])
 simp (disch := first | exact qD17 | fail) only [qG4, Nat.reduceAdd, Nat.reduceLeDiff, Int.reduceToNat, Int.reduceAdd, Int.reduceSub, Int.reduceLT, Int.reduceLE, Nat.reduceSub, Nat.reduceMul, Nat.reduceEqDiff, d9, h1, h2, ou_over, ou_put, cx_sub, ou_sub]
 exact hK _ qX
open Go.Fx
set_option maxRecDepth 100000
theorem rn_putc (r : Rn) (c : Nat -> Cq) : cxC c ++ List.drop (cxC c).length (rnC r) = rnC { r with c := c } := by
 rw [<- rn_setc r c]
 unfold splice
 rw [List.take_zero, List.nil_append, Nat.zero_add]
set_option maxHeartbeats 1000000 in
theorem trap_spec {w : World} {q k e va : Nat} {r : Rn} (hr : w.heap[q]? = some (.cells (rnC r).toArray 88 (0, 0))) {K : Value -> World -> Prop} (hK : ∀ w', Ext [] w w' -> K (.tuple #[.agg (cxC r.d).toArray, .agg (ouC k e va r.i).toArray]) w') : callsK Tryz.prog 26 #[.pointer (some ⟨q, 0, none⟩), .int .i64 (k : Nat), .int .i64 (e : Nat), .int .u64 (va : Nat)] w K := by
 apply F26_ok
 unfold F26
 have l0 := lt_of_at hr
 simp (disch := first | exact qD17 | fail) only [qG4, Nat.reduceAdd, Nat.reduceLeDiff, Int.reduceToNat, Int.reduceAdd, Int.reduceSub, Int.reduceLT, Int.reduceLE, Nat.reduceSub, Nat.reduceMul, Nat.reduceEqDiff, zeroX_cells]
 have hx0 : Ext [] w ((w.alloc (.cells (cxC zeroX).toArray 40)).alloc (.cells [.int .i64 0, .int .i64 0, .int .u64 0, .int .i64 0, .int .i64 0, .int .i64 0, .int .i64 0, .int .i64 0].toArray 48)).drew := qX
 have g1 : ((w.alloc (.cells (cxC zeroX).toArray 40)).alloc (.cells [.int .i64 0, .int .i64 0, .int .u64 0, .int .i64 0, .int .i64 0, .int .i64 0, .int .i64 0, .int .i64 0].toArray 48)).drew.heap[w.heap.size]? = some (.cells (cxC zeroX).toArray 40 (0, 0)) := (by first | with_reducible rfl | assumption | (simp (disch := first | exact qD17 | fail) only [qG4, Nat.reduceAdd, Nat.reduceLeDiff, Int.reduceToNat, Int.reduceAdd, Int.reduceSub, Int.reduceLT, Int.reduceLE, Nat.reduceSub, Nat.reduceMul, Nat.reduceEqDiff] <;> rfl))
 have g2 : ((w.alloc (.cells (cxC zeroX).toArray 40)).alloc (.cells [.int .i64 0, .int .i64 0, .int .u64 0, .int .i64 0, .int .i64 0, .int .i64 0, .int .i64 0, .int .i64 0].toArray 48)).drew.heap[w.heap.size + 1]? = some (.cells [.int .i64 0, .int .i64 0, .int .u64 0, .int .i64 0, .int .i64 0, .int .i64 0, .int .i64 0, .int .i64 0].toArray 48 (0, 0)) := (by first | with_reducible rfl | assumption | (simp (disch := first | exact qD17 | fail) only [qG4, Nat.reduceAdd, Nat.reduceLeDiff, Int.reduceToNat, Int.reduceAdd, Int.reduceSub, Int.reduceLT, Int.reduceLE, Nat.reduceSub, Nat.reduceMul, Nat.reduceEqDiff] <;> rfl))
 have g0 := hx0.at hr (by simp)
 obtain ⟨b1, hb1⟩ : ∃ b1, b1 = w.heap.size := ⟨_, rfl⟩
 have hq : q ≠ b1 := by omega
 rw [<- hb1] at g1 g2 ⊢
 generalize ((w.alloc (.cells (cxC zeroX).toArray 40)).alloc (.cells [.int .i64 0, .int .i64 0, .int .u64 0, .int .i64 0, .int .i64 0, .int .i64 0, .int .i64 0, .int .i64 0].toArray 48)).drew = w1 at *
 refine relX.one b1 (.cells (cxC r.d).toArray 40 (0, 0)) ?_
 refine postX.is (.pointer (some ⟨q, 0, none⟩)) (fun v w2 hR _ => okX.one) ?_
 refine postX.is (.pointer (some ⟨q, 0, none⟩)) (fun v w2 hR hd => by
  obtain ⟨d1, -⟩ := hd
  simp (disch := first | exact qD17 | fail) only [qG4, Nat.reduceAdd, Nat.reduceLeDiff, Int.reduceToNat, Int.reduceAdd, Int.reduceSub, Int.reduceLT, Int.reduceLE, Nat.reduceSub, Nat.reduceMul, Nat.reduceEqDiff, d1]
  exact okX.one) ?_
 refine postX.is (.pointer (some ⟨q, 99, none⟩)) (fun v w2 hR hd => by
  obtain ⟨d1, -⟩ := hd
  simp (disch := first | exact qD17 | fail) only [qG4, Nat.reduceAdd, Nat.reduceLeDiff, Int.reduceToNat, Int.reduceAdd, Int.reduceSub, Int.reduceLT, Int.reduceLE, Nat.reduceSub, Nat.reduceMul, Nat.reduceEqDiff, d1]
  exact okX.one) ?_
 refine postX.is (.agg (cxC r.d).toArray) (fun v w2 hR hd => by
  obtain ⟨d1, -⟩ := hd
  have e := hR.1.at g0 (by simpa using hq)
  simp (disch := first | exact qD17 | fail) only [qG4, Nat.reduceAdd, Nat.reduceLeDiff, Int.reduceToNat, Int.reduceAdd, Int.reduceSub, Int.reduceLT, Int.reduceLE, Nat.reduceSub, Nat.reduceMul, Nat.reduceEqDiff, d1, e, rn_d]
  exact okX.one) ?_
 refine postX.is (.int .i64 (k : Nat)) (fun v w2 hR _ => okX.one) ?_
 refine postX.is (.int .i64 (e : Nat)) (fun v w2 hR _ => okX.one) ?_
 refine postX.is (.int .u64 (va : Nat)) (fun v w2 hR _ => okX.one) ?_
 refine postX.is (.pointer (some ⟨q, 0, none⟩)) (fun v w2 hR _ => okX.one) ?_
 refine postX.is (.pointer (some ⟨q, 0, none⟩)) (fun v w2 hR hd => by
  obtain ⟨d1, -⟩ := hd
  simp (disch := first | exact qD17 | fail) only [qG4, Nat.reduceAdd, Nat.reduceLeDiff, Int.reduceToNat, Int.reduceAdd, Int.reduceSub, Int.reduceLT, Int.reduceLE, Nat.reduceSub, Nat.reduceMul, Nat.reduceEqDiff, d1]
  exact okX.one) ?_
 refine postX.is (.pointer (some ⟨q, 199, none⟩)) (fun v w2 hR hd => by
  obtain ⟨d1, -⟩ := hd
  simp (disch := first | exact qD17 | fail) only [qG4, Nat.reduceAdd, Nat.reduceLeDiff, Int.reduceToNat, Int.reduceAdd, Int.reduceSub, Int.reduceLT, Int.reduceLE, Nat.reduceSub, Nat.reduceMul, Nat.reduceEqDiff, d1]
  exact okX.one) ?_
 refine postX.is (.agg (inC r.i).toArray) (fun v w2 hR hd => by
  obtain ⟨d1, -⟩ := hd
  have e := hR.1.at g0 (by simpa using hq)
  simp (disch := first | exact qD17 | fail) only [qG4, Nat.reduceAdd, Nat.reduceLeDiff, Int.reduceToNat, Int.reduceAdd, Int.reduceSub, Int.reduceLT, Int.reduceLE, Nat.reduceSub, Nat.reduceMul, Nat.reduceEqDiff, d1, e, rn_i]
  exact okX.one) ?_
 have hb : ∀ (x y z a0 a1 a2 a3 a4 : Int) (w : World), (Instr.build 48 #[(0, .int .i64 x), (1, .int .i64 y), (2, .int .u64 z), (3, .agg [.int .i64 a0, .int .i64 a1, .int .i64 a2, .int .i64 a3, .int .i64 a4].toArray)]).run Tryz.prog w = .ok (.agg [.int .i64 x, .int .i64 y, .int .u64 z, .int .i64 a0, .int .i64 a1, .int .i64 a2, .int .i64 a3, .int .i64 a4].toArray) w := fun x y z a0 a1 a2 a3 a4 w => run_build w 48 _ _ (by kernel_rfl)
 have hb2 : ∀ (w : World), (Instr.build 48 #[(0, .int .i64 (k : Nat)), (1, .int .i64 (e : Nat)), (2, .int .u64 (va : Nat)), (3, .agg (inC r.i).toArray)]).run Tryz.prog w = .ok (.agg (ouC k e va r.i).toArray) w := fun w => hb _ _ _ _ _ _ _ _ w
 refine postX.is (.agg (ouC k e va r.i).toArray) (fun v w2 hR hd => by
  obtain ⟨d1, d2, d3, d4, -⟩ := hd
  simp (disch := first | exact qD17 | fail) only [qG4, Nat.reduceAdd, Nat.reduceLeDiff, Int.reduceToNat, Int.reduceAdd, Int.reduceSub, Int.reduceLT, Int.reduceLE, Nat.reduceSub, Nat.reduceMul, Nat.reduceEqDiff, d1, d2, d3, d4, hb2]
  exact okX.one) ?_
 refine postX.intro (fun _ w => w.heap[b1]? = some (.cells (cxC r.d).toArray 40 (0, 0))) (fun _ w w' hR h => by rcases hR.2 _ h with h | h <;> exact h) (fun v w2 hR hd => by
  obtain ⟨-, -, -, d4, -⟩ := hd
  obtain ⟨d, e⟩ : ∃ d, w2.heap[b1]? = some (.cells (cxC d).toArray 40 (0, 0)) := by
   rcases hR.2 _ g1 with h | h
   ·exact ⟨_, h⟩
   ·exact ⟨_, h⟩
  simp (disch := first | exact qD17 | fail) only [qG4, Nat.reduceAdd, Nat.reduceLeDiff, Int.reduceToNat, Int.reduceAdd, Int.reduceSub, Int.reduceLT, Int.reduceLE, Nat.reduceSub, Nat.reduceMul, Nat.reduceEqDiff, d4, e, cx_over, cx_put]
  have l := lt_of_at e
  have hxe : Ext [b1] w2 (World.upd w2 b1 (cxC r.d)) := qX
  have hue : (World.upd w2 b1 (cxC r.d)).heap[b1]? = some (.cells (cxC r.d).toArray 40 (0, 0)) := upd_at e
  exact okX.mk ⟨hxe, fun x _ => .inr hue⟩ hue) ?_
 intro v w2 hR hd _
 obtain ⟨-, -, -, -, -, -, -, -, -, -, -, d9, ⟨u, h1⟩, -⟩ := hd
 have h2 := hR.1.at g2 (by simp)
 have l1 := lt_of_at h1
 have l2 := lt_of_at h2
 have hx : Ext [] w w2 := hx0.trans hR.1 (by simp [hb1])
 simp (disch := first | exact qD17 | fail) only [qG4, Nat.reduceAdd, Nat.reduceLeDiff, Int.reduceToNat, Int.reduceAdd, Int.reduceSub, Int.reduceLT, Int.reduceLE, Nat.reduceSub, Nat.reduceMul, Nat.reduceEqDiff, d9, h1, h2, ou_over, ou_put, cx_sub, ou_sub]
 exact hK _ qX
theorem tell_spec {w : World} {q : Nat} {r : Rn} {x : Cq} (hr : w.heap[q]? = some (.cells (rnC r).toArray 88 (0, 0))) (hrd : r.i.rd < 9223372036854775808) {K : Value -> World -> Prop} (hK : ∀ w', Ext [q] w w' -> K (.tuple #[.agg (cxC (withX r.c r.i.rd x)).toArray, .agg (ouC 0 0 0 r.i).toArray]) w') : callsK Tryz.prog 78 #[.pointer (some ⟨q, 0, none⟩), .agg (cq x).toArray] w K := by
 apply F78_ok
 unfold F78
 have l0 := lt_of_at hr
 simp (disch := first | exact qD17 | fail) only [qG4, Nat.reduceAdd, Nat.reduceLeDiff, Int.reduceToNat, Int.reduceAdd, Int.reduceSub, Int.reduceLT, Int.reduceLE, Nat.reduceSub, Nat.reduceMul, Nat.reduceEqDiff, zeroX_cells]
 refine joinL.intro fun J hJ => ?_
 simp (disch := first | exact qD17 | fail) only [qG4, Nat.reduceAdd, Nat.reduceLeDiff, Int.reduceToNat, Int.reduceAdd, Int.reduceSub, Int.reduceLT, Int.reduceLE, Nat.reduceSub, Nat.reduceMul, Nat.reduceEqDiff]
 have hx0 : Ext [] w (((w.alloc (.cells (cq x).toArray 37)).alloc (.cells (cxC zeroX).toArray 40)).alloc (.cells [.int .i64 0, .int .i64 0, .int .u64 0, .int .i64 0, .int .i64 0, .int .i64 0, .int .i64 0, .int .i64 0].toArray 48)).drew := qX
 have g3 : (((w.alloc (.cells (cq x).toArray 37)).alloc (.cells (cxC zeroX).toArray 40)).alloc (.cells [.int .i64 0, .int .i64 0, .int .u64 0, .int .i64 0, .int .i64 0, .int .i64 0, .int .i64 0, .int .i64 0].toArray 48)).drew.heap[w.heap.size]? = some (.cells (cq x).toArray 37 (0, 0)) := (by first | with_reducible rfl | assumption | (simp (disch := first | exact qD17 | fail) only [qG4, Nat.reduceAdd, Nat.reduceLeDiff, Int.reduceToNat, Int.reduceAdd, Int.reduceSub, Int.reduceLT, Int.reduceLE, Nat.reduceSub, Nat.reduceMul, Nat.reduceEqDiff] <;> rfl))
 have g1 : (((w.alloc (.cells (cq x).toArray 37)).alloc (.cells (cxC zeroX).toArray 40)).alloc (.cells [.int .i64 0, .int .i64 0, .int .u64 0, .int .i64 0, .int .i64 0, .int .i64 0, .int .i64 0, .int .i64 0].toArray 48)).drew.heap[w.heap.size + 1]? = some (.cells (cxC zeroX).toArray 40 (0, 0)) := (by first | with_reducible rfl | assumption | (simp (disch := first | exact qD17 | fail) only [qG4, Nat.reduceAdd, Nat.reduceLeDiff, Int.reduceToNat, Int.reduceAdd, Int.reduceSub, Int.reduceLT, Int.reduceLE, Nat.reduceSub, Nat.reduceMul, Nat.reduceEqDiff] <;> rfl))
 have g2 : (((w.alloc (.cells (cq x).toArray 37)).alloc (.cells (cxC zeroX).toArray 40)).alloc (.cells [.int .i64 0, .int .i64 0, .int .u64 0, .int .i64 0, .int .i64 0, .int .i64 0, .int .i64 0, .int .i64 0].toArray 48)).drew.heap[w.heap.size + 2]? = some (.cells [.int .i64 0, .int .i64 0, .int .u64 0, .int .i64 0, .int .i64 0, .int .i64 0, .int .i64 0, .int .i64 0].toArray 48 (0, 0)) := (by first | with_reducible rfl | assumption | (simp (disch := first | exact qD17 | fail) only [qG4, Nat.reduceAdd, Nat.reduceLeDiff, Int.reduceToNat, Int.reduceAdd, Int.reduceSub, Int.reduceLT, Int.reduceLE, Nat.reduceSub, Nat.reduceMul, Nat.reduceEqDiff] <;> rfl))
 have g0 := hx0.at hr (by simp)
 obtain ⟨b1, hb1⟩ : ∃ b1, b1 = w.heap.size := ⟨_, rfl⟩
 rw [<- hb1] at g1 g2 g3 hJ ⊢
 generalize (((w.alloc (.cells (cq x).toArray 37)).alloc (.cells (cxC zeroX).toArray 40)).alloc (.cells [.int .i64 0, .int .i64 0, .int .u64 0, .int .i64 0, .int .i64 0, .int .i64 0, .int .i64 0, .int .i64 0].toArray 48)).drew = w1 at *
 refine relX.ext [] ?_
 refine postX.is (.pointer (some ⟨q, 0, none⟩)) (fun v w2 hR _ => okX.is) ?_
 refine postX.is (.pointer (some ⟨q, 0, none⟩)) (fun v w2 hR _ => okX.is) ?_
 refine postX.is (.pointer (some ⟨q, 0, none⟩)) (fun v w2 hR hd => by
  obtain ⟨d1, -⟩ := hd
  simp (disch := first | exact qD17 | fail) only [qG4, Nat.reduceAdd, Nat.reduceLeDiff, Int.reduceToNat, Int.reduceAdd, Int.reduceSub, Int.reduceLT, Int.reduceLE, Nat.reduceSub, Nat.reduceMul, Nat.reduceEqDiff, d1]
  exact okX.is) ?_
 refine postX.is (.pointer (some ⟨q, 0, none⟩)) (fun v w2 hR hd => by
  obtain ⟨d1, -⟩ := hd
  simp (disch := first | exact qD17 | fail) only [qG4, Nat.reduceAdd, Nat.reduceLeDiff, Int.reduceToNat, Int.reduceAdd, Int.reduceSub, Int.reduceLT, Int.reduceLE, Nat.reduceSub, Nat.reduceMul, Nat.reduceEqDiff, d1]
  exact okX.is) ?_
 refine postX.is (.agg (cxC r.c).toArray) (fun v w2 hR hd => by
  obtain ⟨d1, -⟩ := hd
  have e := hR.at g0 (by simp)
  simp (disch := first | exact qD17 | fail) only [qG4, Nat.reduceAdd, Nat.reduceLeDiff, Int.reduceToNat, Int.reduceAdd, Int.reduceSub, Int.reduceLT, Int.reduceLE, Nat.reduceSub, Nat.reduceMul, Nat.reduceEqDiff, d1, e, rn_c]
  exact okX.is) ?_
 refine postX.is (.pointer (some ⟨q, 0, none⟩)) (fun v w2 hR _ => okX.is) ?_
 refine postX.is (.pointer (some ⟨q, 0, none⟩)) (fun v w2 hR hd => by
  obtain ⟨d1, -⟩ := hd
  simp (disch := first | exact qD17 | fail) only [qG4, Nat.reduceAdd, Nat.reduceLeDiff, Int.reduceToNat, Int.reduceAdd, Int.reduceSub, Int.reduceLT, Int.reduceLE, Nat.reduceSub, Nat.reduceMul, Nat.reduceEqDiff, d1]
  exact okX.is) ?_
 refine postX.is (.pointer (some ⟨q, 199, none⟩)) (fun v w2 hR hd => by
  obtain ⟨d1, -⟩ := hd
  simp (disch := first | exact qD17 | fail) only [qG4, Nat.reduceAdd, Nat.reduceLeDiff, Int.reduceToNat, Int.reduceAdd, Int.reduceSub, Int.reduceLT, Int.reduceLE, Nat.reduceSub, Nat.reduceMul, Nat.reduceEqDiff, d1]
  exact okX.is) ?_
 refine postX.is (.pointer (some ⟨q, 200, none⟩)) (fun v w2 hR hd => by
  obtain ⟨d1, -⟩ := hd
  simp (disch := first | exact qD17 | fail) only [qG4, Nat.reduceAdd, Nat.reduceLeDiff, Int.reduceToNat, Int.reduceAdd, Int.reduceSub, Int.reduceLT, Int.reduceLE, Nat.reduceSub, Nat.reduceMul, Nat.reduceEqDiff, d1]
  exact okX.is) ?_
 refine postX.is (.int .i64 (r.i.rd : Nat)) (fun v w2 hR hd => by
  obtain ⟨d1, -⟩ := hd
  have e := hR.at g0 (by simp)
  simp (disch := first | exact qD17 | fail) only [qG4, Nat.reduceAdd, Nat.reduceLeDiff, Int.reduceToNat, Int.reduceAdd, Int.reduceSub, Int.reduceLT, Int.reduceLE, Nat.reduceSub, Nat.reduceMul, Nat.reduceEqDiff, d1, e, rn_rd]
  exact okX.is) ?_
 refine postX.is (.agg (cq x).toArray) (fun v w2 hR hd => by
  have e := hR.at g3 (by simp)
  simp (disch := first | exact qD17 | fail) only [qG4, Nat.reduceAdd, Nat.reduceLeDiff, Int.reduceToNat, Int.reduceAdd, Int.reduceSub, Int.reduceLT, Int.reduceLE, Nat.reduceSub, Nat.reduceMul, Nat.reduceEqDiff, e, cq_sub]
  exact okX.is) ?_
 refine postX.is (.agg (cxC (withX r.c r.i.rd x)).toArray) (fun v w2 hR hd => by
  obtain ⟨d1, d2, d3, -⟩ := hd
  simp (disch := first | exact qD17 | fail) only [qG4, Nat.reduceAdd, Nat.reduceLeDiff, Int.reduceToNat, Int.reduceAdd, Int.reduceSub, Int.reduceLT, Int.reduceLE, Nat.reduceSub, Nat.reduceMul, Nat.reduceEqDiff, d1, d2, d3]
  refine With_reg hrd fun w3 hx3 => okX.mk hx3 rfl) ?_
 intro v w2 hR hd _
 obtain ⟨d1, -, -, -, -, -, -, -, -, -, -, d12, -⟩ := hd
 have h0 := hR.at g0 (by simp)
 have h1 := hR.at g1 (by simp)
 have h2 := hR.at g2 (by simp)
 have hxa : Ext [] w w2 := hx0.trans hR (by simp)
 have k0 := lt_of_at h0
 simp (disch := first | exact qD17 | fail) only [qG4, Nat.reduceAdd, Nat.reduceLeDiff, Int.reduceToNat, Int.reduceAdd, Int.reduceSub, Int.reduceLT, Int.reduceLE, Nat.reduceSub, Nat.reduceMul, Nat.reduceEqDiff, d1, d12, h0, rn_setc, rn_putc]
 apply hJ
 intro _
 have m0 : (World.upd w2 q (rnC { r with c := withX r.c r.i.rd x })).heap[q]? = some (.cells (rnC { r with c := withX r.c r.i.rd x }).toArray 88 (0, 0)) := upd_at h0
 have m1 : (World.upd w2 q (rnC { r with c := withX r.c r.i.rd x })).heap[b1 + 1]? = some (.cells (cxC zeroX).toArray 40 (0, 0)) := (upd_ne (by omega)).trans h1
 have m2 : (World.upd w2 q (rnC { r with c := withX r.c r.i.rd x })).heap[b1 + 2]? = some (.cells [.int .i64 0, .int .i64 0, .int .u64 0, .int .i64 0, .int .i64 0, .int .i64 0, .int .i64 0, .int .i64 0].toArray 48 (0, 0)) := (upd_ne (by omega)).trans h2
 have hxb : Ext [q] w (World.upd w2 q (rnC { r with c := withX r.c r.i.rd x })) := by
  have := hxa.mono (T := [q]) (by simp)
  exact qX
 refine retire_spec m0 fun w3 hx3 => ?_
 have n1 := hx3.at m1 (by simp)
 have n2 := hx3.at m2 (by simp)
 have ln1 := lt_of_at n1
 have ln2 := lt_of_at n2
 have hxc := hxb.trans hx3 (by simp)
 have hb1w : w.heap.size <= b1 := by omega
 simp (disch := first | exact qD17 | fail) only [qG4, Nat.reduceAdd, Nat.reduceLeDiff, Int.reduceToNat, Int.reduceAdd, Int.reduceSub, Int.reduceLT, Int.reduceLE, Nat.reduceSub, Nat.reduceMul, Nat.reduceEqDiff, n1, n2, cx_over, cx_put, ou_over, ou_put, cx_sub, ou_sub]
 exact hK _ qX
theorem num_spec {w : World} {q n : Nat} {r : Rn} (hr : w.heap[q]? = some (.cells (rnC r).toArray 88 (0, 0))) (hrd : r.i.rd < 9223372036854775808) {K : Value -> World -> Prop} (hK : ∀ w', Ext [q] w w' -> K (.tuple #[.agg (cxC (withX r.c r.i.rd ⟨false, 0, n⟩)).toArray, .agg (ouC 0 0 0 r.i).toArray]) w') : callsK Tryz.prog 81 #[.pointer (some ⟨q, 0, none⟩), .int .u64 (n : Nat)] w K := by
 apply F81_ok
 unfold F81
 have l0 := lt_of_at hr
 simp (disch := first | exact qD17 | fail) only [qG4, Nat.reduceAdd, Nat.reduceLeDiff, Int.reduceToNat, Int.reduceAdd, Int.reduceSub, Int.reduceLT, Int.reduceLE, Nat.reduceSub, Nat.reduceMul, Nat.reduceEqDiff, zeroX_cells]
 have hx0 : Ext [] w ((w.alloc (.cells (cxC zeroX).toArray 40)).alloc (.cells [.int .i64 0, .int .i64 0, .int .u64 0, .int .i64 0, .int .i64 0, .int .i64 0, .int .i64 0, .int .i64 0].toArray 48)) := qX
 have g1 : ((w.alloc (.cells (cxC zeroX).toArray 40)).alloc (.cells [.int .i64 0, .int .i64 0, .int .u64 0, .int .i64 0, .int .i64 0, .int .i64 0, .int .i64 0, .int .i64 0].toArray 48)).heap[w.heap.size]? = some (.cells (cxC zeroX).toArray 40 (0, 0)) := (by first | with_reducible rfl | assumption | (simp (disch := first | exact qD17 | fail) only [qG4, Nat.reduceAdd, Nat.reduceLeDiff, Int.reduceToNat, Int.reduceAdd, Int.reduceSub, Int.reduceLT, Int.reduceLE, Nat.reduceSub, Nat.reduceMul, Nat.reduceEqDiff] <;> rfl))
 have g2 : ((w.alloc (.cells (cxC zeroX).toArray 40)).alloc (.cells [.int .i64 0, .int .i64 0, .int .u64 0, .int .i64 0, .int .i64 0, .int .i64 0, .int .i64 0, .int .i64 0].toArray 48)).heap[w.heap.size + 1]? = some (.cells [.int .i64 0, .int .i64 0, .int .u64 0, .int .i64 0, .int .i64 0, .int .i64 0, .int .i64 0, .int .i64 0].toArray 48 (0, 0)) := (by first | with_reducible rfl | assumption | (simp (disch := first | exact qD17 | fail) only [qG4, Nat.reduceAdd, Nat.reduceLeDiff, Int.reduceToNat, Int.reduceAdd, Int.reduceSub, Int.reduceLT, Int.reduceLE, Nat.reduceSub, Nat.reduceMul, Nat.reduceEqDiff] <;> rfl))
 have g0 := hx0.at hr (by simp)
 refine Null_spec fun w1 hx1 => ?_
 have hxa := hx0.trans hx1 (by simp)
 have k0 := hx1.at g0 (by simp)
 have k1 := hx1.at g1 (by simp)
 have k2 := hx1.at g2 (by simp)
 simp (disch := first | exact qD17 | fail) only [qG4, Nat.reduceAdd, Nat.reduceLeDiff, Int.reduceToNat, Int.reduceAdd, Int.reduceSub, Int.reduceLT, Int.reduceLE, Nat.reduceSub, Nat.reduceMul, Nat.reduceEqDiff]
 refine tell_spec (x := ⟨false, 0, n⟩) k0 hrd fun w2 hx2 => ?_
 have n1 := hx2.at k1 (by simp; omega)
 have n2 := hx2.at k2 (by simp; omega)
 have ln1 := lt_of_at n1
 have ln2 := lt_of_at n2
 have hxc : Ext [q] w w2 := (hxa.mono (by simp)).step hx2
 simp (disch := first | exact qD17 | fail) only [qG4, Nat.reduceAdd, Nat.reduceLeDiff, Int.reduceToNat, Int.reduceAdd, Int.reduceSub, Int.reduceLT, Int.reduceLE, Nat.reduceSub, Nat.reduceMul, Nat.reduceEqDiff, n1, n2, cx_over, cx_put, ou_over, ou_put, cx_sub, ou_sub]
 exact hK _ qX
open Go.Fx
set_option maxRecDepth 100000
/-- the value of a memory that is at a block. -/
def flV (rb : Nat) : Value := .iface 52 (.agg [.pointer (some ⟨rb, 0, none⟩)].toArray)
theorem flV_one (rb : Nat) : (flV rb).oneCell' = true := rfl
theorem callFetch {v va : Value} {w : World} {K : Value -> World -> Prop} (h : callsK Tryz.prog 219 #[v, va] w K) : kN Tryz.prog (callMethod (.iface 52 v) "Fetch" #[va]) w K := by
 have e : (callMethod (.iface 52 v) "Fetch" #[va]).run Tryz.prog w = .ok (.enter 219 #[v, va]) w := by kernel_rfl
 unfold kN
 rw [e]
 exact h
theorem wrong_spec {w : World} {K : Value -> World -> Prop} (hK : K (.int .i64 0) w) : callsK Tryz.prog 224 #[.int .i64 0] w K := by
 apply F224_ok
 unfold F224
 simp (disch := first | exact qD17 | fail) only [qG4, Nat.reduceAdd, Nat.reduceLeDiff, Int.reduceToNat, Int.reduceAdd, Int.reduceSub, Int.reduceLT, Int.reduceLE, Nat.reduceSub, Nat.reduceMul, Nat.reduceEqDiff]
 exact hK
theorem Fetch_spec {w : World} {rb pb n a W : Nat} {m g : Nat -> Int} (hM : Mem w rb pb n m g) (hn : 0 < n /\ n <= 1000) (ha : a < n * 4096) (hal : a % 4 = 0) (hW : leN m a 4 = W) {K : Value -> World -> Prop} (hK : ∀ w', Ext [] w w' -> K (.tuple #[.int .u32 (W : Nat), .int .i64 0]) w') :
  callsK Tryz.prog 219 #[.agg [.pointer (some ⟨rb, 0, none⟩)].toArray, .int .u64 (a : Nat)] w K := by
 apply F219_ok
 unfold F219
 simp (disch := first | exact qD17 | fail) only [qG4, Nat.reduceAdd, Nat.reduceLeDiff, Int.reduceToNat, Int.reduceAdd, Int.reduceSub, Int.reduceLT, Int.reduceLE, Nat.reduceSub, Nat.reduceMul, Nat.reduceEqDiff]
 have hx0 : Ext [] w (w.alloc (.cells [.pointer (some ⟨rb, 0, none⟩)].toArray 52)) := qX
 have hM1 := hM.ext hx0 (by simp) (by simp)
 refine Load_spec hM1 hn ha (.inr (.inr (.inl rfl))) hal fun w1 hx1 => ?_
 have hlt : W < 4294967296 := by
  have := leN_lt hM.byte a 4
  rw [hW] at this
  exact this
 have hw : IntKind.u32.wrap ((W : Nat) : Int) = (W : Nat) := wrap_u32 (by omega)
 rw [hW]
 simp (disch := first | exact qD17 | fail) only [qG4, Nat.reduceAdd, Nat.reduceLeDiff, Int.reduceToNat, Int.reduceAdd, Int.reduceSub, Int.reduceLT, Int.reduceLE, Nat.reduceSub, Nat.reduceMul, Nat.reduceEqDiff, hw]
 refine wrong_spec ?_
 exact hK _ (hx0.trans hx1 (by simp))
open Go.Fx
set_option maxRecDepth 100000
theorem fetch_m {rb : Nat} {va : Value} {w : World} {K : Value -> World -> Prop} (hc : callsK Tryz.prog 219 #[.agg [.pointer (some ⟨rb, 0, none⟩)].toArray, va] w K) : kN Tryz.prog (callMethod (flV rb) "Fetch" #[va]) w K := callFetch hc
theorem Mem.neR {w : World} {q rb pb n : Nat} {r : Rn} {m g : Nat -> Int} (h : Mem w rb pb n m g) (hr : w.heap[q]? = some (.cells (rnC r).toArray 88 (0, 0))) : q ≠ pb := by
 rintro rfl
 obtain ⟨L, h1, -⟩ := h.body
 rw [hr] at h1
 simp only [Option.some.injEq, Obj.cells.injEq] at h1
 exact absurd h1.2.1 (by decide)
open Go.Fx
set_option maxRecDepth 100000
open Go.Fx
set_option maxRecDepth 100000
theorem cx_pca (c : Nat -> Cq) : (cxC c)[98]? = some (.int .u64 ((c 32).a : Nat)) := by
 rw [get_sub (o := 96) (n := 3) (j := 2) (by omega), cx_at (k := 32) (by omega)]
 rfl
theorem cx_pcc (c : Nat -> Cq) : sub (cxC c) 96 3 = cq (c 32) := cx_at (k := 32) (by omega)
/-- a region in which fields of an instruction that is run are written: what words say of it stands. -/
def Fld (q : Nat) (ps : List (Rn -> Prop)) (w w' : World) : Prop := Ext [q] w w' /\ ∀ p ∈ ps, (∃ r, p r /\ w.heap[q]? = some (.cells (rnC r).toArray 88 (0, 0))) -> ∃ r, p r /\ w'.heap[q]? = some (.cells (rnC r).toArray 88 (0, 0))
theorem Fld.refl {q : Nat} {ps : List (Rn -> Prop)} {w : World} : Fld q ps w w := ⟨Ext.refl, fun _ _ h => h⟩
theorem Fld.of {q : Nat} {ps : List (Rn -> Prop)} {w w' : World} (h : Ext [] w w') : Fld q ps w w' := ⟨h.mono (by simp), fun _ _ ⟨r, h1, h2⟩ => ⟨r, h1, h.at h2 (by simp)⟩⟩
theorem relX.fld (q : Nat) (ps : List (Rn -> Prop)) {G : (World -> World -> Prop) -> Prop} (h : G (Fld q ps)) : relX G :=
 ⟨Fld q ps, fun _ => Fld.refl, fun _ _ _ h1 h2 => ⟨h1.1.step h2.1, fun p hp hw => h2.2 p hp (h1.2 p hp hw)⟩, fun _ _ h => h.1.size, h⟩
theorem okX.fld {q : Nat} {ps : List (Rn -> Prop)} {w : World} {v : Value} : okX (Fld q ps) w (fun u _ => u = v) v w := ⟨Fld.refl, rfl⟩
theorem Fld.set {q : Nat} {ps : List (Rn -> Prop)} {w w' : World} (f : Rn -> Rn) (hf : ∀ r r', rnC r = rnC r' -> rnC (f r) = rnC (f r')) (hx : Ext [q] w w') {r : Rn} (h : w.heap[q]? = some (.cells (rnC r).toArray 88 (0, 0))) (h' : w'.heap[q]? = some (.cells (rnC (f r)).toArray 88 (0, 0))) (hp : ∀ p ∈ ps, ∀ r, p r -> p (f r)) : Fld q ps w w' :=
 ⟨hx, fun p hm ⟨r', h1, h2⟩ => ⟨f r', hp p hm r' h1, by
  rw [h] at h2
  simp only [Option.some.injEq, Obj.cells.injEq, List.toArray_inj] at h2
  rw [h', hf r r' (by simpa using h2)]⟩⟩
theorem Fld.has {q : Nat} {ps : List (Rn -> Prop)} {w w' : World} (h : Fld q ps w w') {p : Rn -> Prop} (hm : p ∈ ps) {r : Rn} (hr : p r) (hw : w.heap[q]? = some (.cells (rnC r).toArray 88 (0, 0))) : ∃ r, p r /\ w'.heap[q]? = some (.cells (rnC r).toArray 88 (0, 0)) := h.2 p hm ⟨r, hr, hw⟩
theorem rn_i_inj {i : In} (r r' : Rn) (h : rnC r = rnC r') : rnC { r with i := i } = rnC { r' with i := i } := (rn_seti r i).symm.trans ((congrArg (fun l => splice l 199 (inC i)) h).trans (rn_seti r' i))
theorem rn_a_inj {x : Cq} (r r' : Rn) (h : rnC r = rnC r') : rnC { r with a := x } = rnC { r' with a := x } := (rn_seta r x).symm.trans ((congrArg (fun l => splice l 204 (cq x)) h).trans (rn_seta r' x))
theorem in_put (i : In) : inC i ++ List.drop (inC i).length [.int .i64 0, .int .i64 0, .int .i64 0, .int .i64 0, .int .i64 0] = inC i := by simp [inC]
theorem in_r1 (i : In) : (inC i)[2]? = some (.int .i64 (i.r1 : Nat)) := rfl
theorem in_r2 (i : In) : (inC i)[3]? = some (.int .i64 (i.r2 : Nat)) := rfl
theorem qZ18 : type_of% (And.intro @szR (And.intro @cq_len (And.intro @cq_all (And.intro @cxC_len (And.intro @cxC_all (And.intro @inC_len (And.intro @inC_all (And.intro @rnC_len (And.intro @rnC_all (And.intro @ouC_len (And.intro @ouC_all (And.intro @vwC_len (@vwC_all))))))))))))) := ⟨@szR, @cq_len, @cq_all, @cxC_len, @cxC_all, @inC_len, @inC_all, @rnC_len, @rnC_all, @ouC_len, @ouC_all, @vwC_len, @vwC_all⟩
theorem qD18 {p : Prop} (h : p := by first | assumption | omega | (simp only [qZ18] <;> omega) | rfl | decide) : p := h
set_option maxHeartbeats 1000000 in
theorem Step_spec {w : World} {rb pb n W k e va : Nat} {c d : Nat -> Cq} {i : In} {m g m' : Nat -> Int} {Q : (Nat -> Int) -> Prop} (hM : Mem w rb pb n m g) (hn : 0 < n /\ n <= 1000) (hcm : (c 32).m < 18446744073709551616) (ha : (c 32).a < n * 4096) (hsB : spB (spM (c 32).m (c 32).a) < 18446744073709551616) (hsT : spT (spM (c 32).m (c 32).a) < 18446744073709551616) (hchk : chkN (c 32).t (c 32).m (c 32).a 0 4 = 0) (hal : (c 32).a % 4 = 0) (hW : leN m (c 32).a 4 = W)
  (h1 : i.r1 < 9223372036854775808) (h2 : i.r2 < 9223372036854775808)
  (hD : ∀ (w : World) (K : Value -> World -> Prop), (∀ w', Ext [] w w' -> K (.tuple #[.agg (inC i).toArray, .bool true]) w') -> callsK Tryz.prog 27 #[.int .u32 (W : Nat)] w K)
  (hrun : ∀ (q : Nat) (w1 : World) (K : Value -> World -> Prop), w1.heap[q]? = some (.cells (rnC ⟨nextX c, c, flV rb, flV_one rb, i, regX c i.r1, regX c i.r2⟩).toArray 88 (0, 0)) -> Mem w1 rb pb n m g -> (∀ g' w2, Q g' -> Mem w2 rb pb n m' g' -> Ext [q, pb] w1 w2 -> K (.tuple #[.agg (cxC d).toArray, .agg (ouC k e va i).toArray]) w2) -> callsK Tryz.prog 28 #[.pointer (some ⟨q, 0, none⟩)] w1 K)
  {K : Value -> World -> Prop} (hK : ∀ g' w', Q g' -> Mem w' rb pb n m' g' -> Ext [pb] w w' -> K (.tuple #[.agg (cxC d).toArray, .agg (ouC k e va i).toArray]) w') :
  callsK Tryz.prog 9 #[.agg (cxC c).toArray, flV rb] w K := by
 apply F9_ok
 unfold F9
 have lM := hM.lt
 simp (disch := first | exact qD18 | fail) only [qG4, Nat.reduceAdd, Nat.reduceLeDiff, Int.reduceToNat, Int.reduceAdd, Int.reduceSub, Int.reduceLT, Int.reduceLE, Nat.reduceSub, Nat.reduceMul, Nat.reduceEqDiff, zeroX_cells, cx_sub, cx_pca]
 refine joinL.intro fun J0 hJ0 => ?_
 simp (disch := first | exact qD18 | fail) only [qG4, Nat.reduceAdd, Nat.reduceLeDiff, Int.reduceToNat, Int.reduceAdd, Int.reduceSub, Int.reduceLT, Int.reduceLE, Nat.reduceSub, Nat.reduceMul, Nat.reduceEqDiff]
 have hx0 : Ext [] w (((w.alloc (.cells (cxC c).toArray 40)).alloc (.cells (cxC zeroX).toArray 40)).alloc (.cells [.int .i64 0, .int .i64 0, .int .u64 0, .int .i64 0, .int .i64 0, .int .i64 0, .int .i64 0, .int .i64 0].toArray 48)).drew := qX
 have g0 : (((w.alloc (.cells (cxC c).toArray 40)).alloc (.cells (cxC zeroX).toArray 40)).alloc (.cells [.int .i64 0, .int .i64 0, .int .u64 0, .int .i64 0, .int .i64 0, .int .i64 0, .int .i64 0, .int .i64 0].toArray 48)).drew.heap[w.heap.size]? = some (.cells (cxC c).toArray 40 (0, 0)) := (by first | with_reducible rfl | assumption | (simp (disch := first | exact qD18 | fail) only [qG4, Nat.reduceAdd, Nat.reduceLeDiff, Int.reduceToNat, Int.reduceAdd, Int.reduceSub, Int.reduceLT, Int.reduceLE, Nat.reduceSub, Nat.reduceMul, Nat.reduceEqDiff] <;> rfl))
 have g1 : (((w.alloc (.cells (cxC c).toArray 40)).alloc (.cells (cxC zeroX).toArray 40)).alloc (.cells [.int .i64 0, .int .i64 0, .int .u64 0, .int .i64 0, .int .i64 0, .int .i64 0, .int .i64 0, .int .i64 0].toArray 48)).drew.heap[w.heap.size + 1]? = some (.cells (cxC zeroX).toArray 40 (0, 0)) := (by first | with_reducible rfl | assumption | (simp (disch := first | exact qD18 | fail) only [qG4, Nat.reduceAdd, Nat.reduceLeDiff, Int.reduceToNat, Int.reduceAdd, Int.reduceSub, Int.reduceLT, Int.reduceLE, Nat.reduceSub, Nat.reduceMul, Nat.reduceEqDiff] <;> rfl))
 have g2 : (((w.alloc (.cells (cxC c).toArray 40)).alloc (.cells (cxC zeroX).toArray 40)).alloc (.cells [.int .i64 0, .int .i64 0, .int .u64 0, .int .i64 0, .int .i64 0, .int .i64 0, .int .i64 0, .int .i64 0].toArray 48)).drew.heap[w.heap.size + 1 + 1]? = some (.cells [.int .i64 0, .int .i64 0, .int .u64 0, .int .i64 0, .int .i64 0, .int .i64 0, .int .i64 0, .int .i64 0].toArray 48 (0, 0)) := (by first | with_reducible rfl | assumption | (simp (disch := first | exact qD18 | fail) only [qG4, Nat.reduceAdd, Nat.reduceLeDiff, Int.reduceToNat, Int.reduceAdd, Int.reduceSub, Int.reduceLT, Int.reduceLE, Nat.reduceSub, Nat.reduceMul, Nat.reduceEqDiff] <;> rfl))
 have hM1 := hM.ext hx0 (by simp) (by simp)
 obtain ⟨b0, hb0⟩ : ∃ b0, b0 = w.heap.size := ⟨_, rfl⟩
 rw [<- hb0] at g0 g1 g2 hJ0 ⊢
 generalize (((w.alloc (.cells (cxC c).toArray 40)).alloc (.cells (cxC zeroX).toArray 40)).alloc (.cells [.int .i64 0, .int .i64 0, .int .u64 0, .int .i64 0, .int .i64 0, .int .i64 0, .int .i64 0, .int .i64 0].toArray 48)).drew = w1 at *
 refine relX.ext [] ?_
 (apply postX.is; (focus (intro v w2 hR hd; have e0 := hR.at g0 (by simp); (try simp (disch := first | exact qD18 | fail) only [qG4, Nat.reduceAdd, Nat.reduceLeDiff, Int.reduceToNat, Int.reduceAdd, Int.reduceSub, Int.reduceLT, Int.reduceLE, Nat.reduceSub, Nat.reduceMul, Nat.reduceEqDiff, hd, e0, cx_sub]); exact okX.is)))
 apply postX.is
 ·intro v w2 hR hd
  simp (disch := first | exact qD18 | fail) only [qG4, Nat.reduceAdd, Nat.reduceLeDiff, Int.reduceToNat, Int.reduceAdd, Int.reduceSub, Int.reduceLT, Int.reduceLE, Nat.reduceSub, Nat.reduceMul, Nat.reduceEqDiff, hd]
  refine Next_spec hcm (by omega) fun w3 hx3 => okX.mk hx3 rfl
 (apply postX.is; (focus (intro v w2 hR hd; have e0 := hR.at g0 (by simp); (try simp (disch := first | exact qD18 | fail) only [qG4, Nat.reduceAdd, Nat.reduceLeDiff, Int.reduceToNat, Int.reduceAdd, Int.reduceSub, Int.reduceLT, Int.reduceLE, Nat.reduceSub, Nat.reduceMul, Nat.reduceEqDiff, hd, e0, cx_sub]); exact okX.is)))
 (apply postX.is; (focus (intro v w2 hR hd; (try simp (disch := first | exact qD18 | fail) only [qG4, Nat.reduceAdd, Nat.reduceLeDiff, Int.reduceToNat, Int.reduceAdd, Int.reduceSub, Int.reduceLT, Int.reduceLE, Nat.reduceSub, Nat.reduceMul, Nat.reduceEqDiff, hd]); exact okX.is)))
 intro v w2 hR hd _
 have hb : ∀ (w : World), (Instr.build 88 #[(0, .agg (cxC (nextX c)).toArray), (1, .agg (cxC c).toArray), (2, flV rb)]).run Tryz.prog w = .ok (.agg (rnC ⟨nextX c, c, flV rb, flV_one rb, In.zero, Cq.zero, Cq.zero⟩).toArray) w := by
  generalize nextX c = d
  exact fun w => run_build w 88 _ _ (by kernel_rfl)
 have rsub : ∀ r : Rn, sub (rnC r) 0 210 = rnC r := fun r => sub_whole (by rw [rnC_len])
 have k0 := hR.at g0 (by simp)
 have k1 := hR.at g1 (by simp)
 have k2 := hR.at g2 (by simp)
 have kM := hM1.ext hR (by simp) (by simp)
 have hxa := hx0.trans hR (by simp)
 have lk0 := lt_of_at k0
 have lk1 := lt_of_at k1
 have lk2 := lt_of_at k2
 have lkM := kM.lt
 simp (disch := first | exact qD18 | fail) only [qG4, Nat.reduceAdd, Nat.reduceLeDiff, Int.reduceToNat, Int.reduceAdd, Int.reduceSub, Int.reduceLT, Int.reduceLE, Nat.reduceSub, Nat.reduceMul, Nat.reduceEqDiff, hd, hb, rsub]
 have hsw := hx0.size
 clear hR hd hM1 g0 g1 g2 hx0
 apply hJ0
 intro _
 simp (disch := first | exact qD18 | fail) only [qG4, Nat.reduceAdd, Nat.reduceLeDiff, Int.reduceToNat, Int.reduceAdd, Int.reduceSub, Int.reduceLT, Int.reduceLE, Nat.reduceSub, Nat.reduceMul, Nat.reduceEqDiff, k0, cx_pcc]
 refine Check_spec (t := (c 32).t) (m := (c 32).m) (a := (c 32).a) (k := 0) (n := 4) hcm (by omega) (by omega) (by omega) (by omega) hsB hsT fun w3 hx3 => ?_
 have hrem : (((c 32).a : Nat) : Int) % 4 = 0 := by omega
 have hxb : Ext [] w2 w3 := Ext.trans (S := []) qX hx3 (by simp)
 have kq : w3.heap[w2.heap.size]? = some (.cells (rnC ⟨nextX c, c, flV rb, flV_one rb, In.zero, Cq.zero, Cq.zero⟩).toArray 88 (0, 0)) := hx3.at (alloc_at rfl) (by simp)
 obtain ⟨q, hq⟩ : ∃ q, q = w2.heap.size := ⟨_, rfl⟩
 rw [<- hq] at kq
 have hqb : q ≠ b0 /\ q ≠ b0 + 1 /\ q ≠ b0 + 1 + 1 /\ rb ≠ q /\ pb ≠ q := by omega
 obtain ⟨hq0, hq1, hq2, hqr, hqp⟩ := hqb
 have hlq : w.heap.size <= q := by have := hxa.size; omega
 rw [hchk]
 simp (disch := first | exact qD18 | fail) only [qG4, Nat.reduceAdd, Nat.reduceLeDiff, Int.reduceToNat, Int.reduceAdd, Int.reduceSub, Int.reduceLT, Int.reduceLE, Nat.reduceSub, Nat.reduceMul, Nat.reduceEqDiff, hrem]
 refine fetch_m (Fetch_spec (kM.ext hxb (by simp) (by simp)) hn ha hal hW fun w4 hx4 => ?_)
 simp (disch := first | exact qD18 | fail) only [qG4, Nat.reduceAdd, Nat.reduceLeDiff, Int.reduceToNat, Int.reduceAdd, Int.reduceSub, Int.reduceLT, Int.reduceLE, Nat.reduceSub, Nat.reduceMul, Nat.reduceEqDiff]
 refine hD _ _ fun w5 hx5 => ?_
 have hxc : Ext [] w2 w5 := (hxb.trans hx4 (by simp)).trans hx5 (by simp)
 replace k0 := hxc.at k0 (by simp)
 replace k1 := hxc.at k1 (by simp)
 replace k2 := hxc.at k2 (by simp)
 replace kM := kM.ext hxc (by simp) (by simp)
 replace kq := (hx4.trans hx5 (by simp)).at kq (by simp)
 replace hxa := hxa.trans hxc (by simp)
 replace lk0 := lt_of_at k0
 replace lk1 := lt_of_at k1
 replace lk2 := lt_of_at k2
 have lkq := lt_of_at kq
 replace lkM := kM.lt
 simp (disch := first | exact qD18 | fail) only [qG4, Nat.reduceAdd, Nat.reduceLeDiff, Int.reduceToNat, Int.reduceAdd, Int.reduceSub, Int.reduceLT, Int.reduceLE, Nat.reduceSub, Nat.reduceMul, Nat.reduceEqDiff, Bool.not_true]
 refine joinL.intro fun J10 hJ10 => ?_
 simp (disch := first | exact qD18 | fail) only [qG4, Nat.reduceAdd, Nat.reduceLeDiff, Int.reduceToNat, Int.reduceAdd, Int.reduceSub, Int.reduceLT, Int.reduceLE, Nat.reduceSub, Nat.reduceMul, Nat.reduceEqDiff, in_put, List.getD_cons_zero]
 rw [<- hq]
 obtain ⟨b4, hb4⟩ : ∃ b4, b4 = w5.heap.size := ⟨_, rfl⟩
 have hxd : Ext [] w5 (w5.alloc (.cells (inC i).toArray 46)).drew := qX
 have m4 : (w5.alloc (.cells (inC i).toArray 46)).drew.heap[b4]? = some (.cells (inC i).toArray 46 (0, 0)) := alloc_at hb4
 rw [<- hb4]
 have m0 := hxd.at k0 (by simp)
 have m1 := hxd.at k1 (by simp)
 have m2 := hxd.at k2 (by simp)
 have mq := hxd.at kq (by simp)
 have hxe := hxa.trans hxd (by simp)
 have mM := kM.ext hxd (by simp) (by simp)
 generalize (w5.alloc (.cells (inC i).toArray 46)).drew = w6 at *
 have hq4 : q ≠ b4 := by omega
 obtain ⟨p0, hp0⟩ : ∃ p0 : Rn -> Prop, p0 = fun r => r.c = nextX c /\ r.d = c /\ r.m = flV rb := ⟨_, rfl⟩
 obtain ⟨p1, hp1⟩ : ∃ p1 : Rn -> Prop, p1 = fun r => p0 r /\ r.i = i := ⟨_, rfl⟩
 obtain ⟨p2, hp2⟩ : ∃ p2 : Rn -> Prop, p2 = fun r => p1 r /\ r.a = regX c i.r1 := ⟨_, rfl⟩
 refine relX.fld q [p0, p1, p2] ?_
 (apply postX.is; (focus (intro v w2 hR hd; (try simp (disch := first | exact qD18 | fail) only [qG4, Nat.reduceAdd, Nat.reduceLeDiff, Int.reduceToNat, Int.reduceAdd, Int.reduceSub, Int.reduceLT, Int.reduceLE, Nat.reduceSub, Nat.reduceMul, Nat.reduceEqDiff, hd]); exact okX.fld)))
 (apply postX.is; (focus (intro v w2 hR hd; (try simp (disch := first | exact qD18 | fail) only [qG4, Nat.reduceAdd, Nat.reduceLeDiff, Int.reduceToNat, Int.reduceAdd, Int.reduceSub, Int.reduceLT, Int.reduceLE, Nat.reduceSub, Nat.reduceMul, Nat.reduceEqDiff, hd]); exact okX.fld)))
 (apply postX.is; (focus (intro v w2 hR hd; (try simp (disch := first | exact qD18 | fail) only [qG4, Nat.reduceAdd, Nat.reduceLeDiff, Int.reduceToNat, Int.reduceAdd, Int.reduceSub, Int.reduceLT, Int.reduceLE, Nat.reduceSub, Nat.reduceMul, Nat.reduceEqDiff, hd]); exact okX.fld)))
 (apply postX.is; (focus (intro v w2 hR hd; have e0 := hR.1.at m4 (by simp; try omega); (try simp (disch := first | exact qD18 | fail) only [qG4, Nat.reduceAdd, Nat.reduceLeDiff, Int.reduceToNat, Int.reduceAdd, Int.reduceSub, Int.reduceLT, Int.reduceLE, Nat.reduceSub, Nat.reduceMul, Nat.reduceEqDiff, hd, e0, inC_sub]); exact okX.fld)))
 (apply postX.is; (focus (intro v w2 hR hd; have e0 := hR.1.at m0 (by simp; try omega); (try simp (disch := first | exact qD18 | fail) only [qG4, Nat.reduceAdd, Nat.reduceLeDiff, Int.reduceToNat, Int.reduceAdd, Int.reduceSub, Int.reduceLT, Int.reduceLE, Nat.reduceSub, Nat.reduceMul, Nat.reduceEqDiff, hd, e0, cx_sub]); exact okX.fld)))
 (apply postX.is; (focus (intro v w2 hR hd; (try simp (disch := first | exact qD18 | fail) only [qG4, Nat.reduceAdd, Nat.reduceLeDiff, Int.reduceToNat, Int.reduceAdd, Int.reduceSub, Int.reduceLT, Int.reduceLE, Nat.reduceSub, Nat.reduceMul, Nat.reduceEqDiff, hd]); exact okX.fld)))
 (apply postX.is; (focus (intro v w2 hR hd; have e0 := hR.1.at m4 (by simp; try omega); (try simp (disch := first | exact qD18 | fail) only [qG4, Nat.reduceAdd, Nat.reduceLeDiff, Int.reduceToNat, Int.reduceAdd, Int.reduceSub, Int.reduceLT, Int.reduceLE, Nat.reduceSub, Nat.reduceMul, Nat.reduceEqDiff, hd, e0, in_r1]); exact okX.fld)))
 apply postX.is
 ·intro v w2 hR hd
  simp (disch := first | exact qD18 | fail) only [qG4, Nat.reduceAdd, Nat.reduceLeDiff, Int.reduceToNat, Int.reduceAdd, Int.reduceSub, Int.reduceLT, Int.reduceLE, Nat.reduceSub, Nat.reduceMul, Nat.reduceEqDiff, hd]
  exact Get_reg h1 fun w3 hx3 => okX.mk (Fld.of hx3) rfl
 (apply postX.is; (focus (intro v w2 hR hd; have e0 := hR.1.at m0 (by simp; try omega); (try simp (disch := first | exact qD18 | fail) only [qG4, Nat.reduceAdd, Nat.reduceLeDiff, Int.reduceToNat, Int.reduceAdd, Int.reduceSub, Int.reduceLT, Int.reduceLE, Nat.reduceSub, Nat.reduceMul, Nat.reduceEqDiff, hd, e0, cx_sub]); exact okX.fld)))
 (apply postX.is; (focus (intro v w2 hR hd; (try simp (disch := first | exact qD18 | fail) only [qG4, Nat.reduceAdd, Nat.reduceLeDiff, Int.reduceToNat, Int.reduceAdd, Int.reduceSub, Int.reduceLT, Int.reduceLE, Nat.reduceSub, Nat.reduceMul, Nat.reduceEqDiff, hd]); exact okX.fld)))
 (apply postX.is; (focus (intro v w2 hR hd; have e0 := hR.1.at m4 (by simp; try omega); (try simp (disch := first | exact qD18 | fail) only [qG4, Nat.reduceAdd, Nat.reduceLeDiff, Int.reduceToNat, Int.reduceAdd, Int.reduceSub, Int.reduceLT, Int.reduceLE, Nat.reduceSub, Nat.reduceMul, Nat.reduceEqDiff, hd, e0, in_r2]); exact okX.fld)))
 apply postX.is
 ·intro v w2 hR hd
  simp (disch := first | exact qD18 | fail) only [qG4, Nat.reduceAdd, Nat.reduceLeDiff, Int.reduceToNat, Int.reduceAdd, Int.reduceSub, Int.reduceLT, Int.reduceLE, Nat.reduceSub, Nat.reduceMul, Nat.reduceEqDiff, hd]
  exact Get_reg h2 fun w3 hx3 => okX.mk (Fld.of hx3) rfl
 (apply postX.is; (focus (intro v w2 hR hd; (try simp (disch := first | exact qD18 | fail) only [qG4, Nat.reduceAdd, Nat.reduceLeDiff, Int.reduceToNat, Int.reduceAdd, Int.reduceSub, Int.reduceLT, Int.reduceLE, Nat.reduceSub, Nat.reduceMul, Nat.reduceEqDiff, hd]); exact okX.fld)))
 (apply postX.is; (focus (intro v w2 hR hd; (try simp (disch := first | exact qD18 | fail) only [qG4, Nat.reduceAdd, Nat.reduceLeDiff, Int.reduceToNat, Int.reduceAdd, Int.reduceSub, Int.reduceLT, Int.reduceLE, Nat.reduceSub, Nat.reduceMul, Nat.reduceEqDiff, hd]); exact okX.fld)))
 refine postX.intro (fun _ w => ∃ r, p1 r /\ w.heap[q]? = some (.cells (rnC r).toArray 88 (0, 0))) (fun _ _ _ hR h => hR.2 p1 (by simp) h) (fun v w2 hR hd => ?_) ?_
 ·obtain ⟨r, hr, e⟩ := hR.has (p := p0) (by simp) (by rw [hp0]; exact ⟨rfl, rfl, rfl⟩) mq
  have le := lt_of_at e
  simp (disch := first | exact qD18 | fail) only [qG4, Nat.reduceAdd, Nat.reduceLeDiff, Int.reduceToNat, Int.reduceAdd, Int.reduceSub, Int.reduceLT, Int.reduceLE, Nat.reduceSub, Nat.reduceMul, Nat.reduceEqDiff, hd, e, rn_seti]
  have hxu : Ext [q] w2 (World.upd w2 q (rnC { r with i := i })) := qX
  refine okX.mk (Fld.set (fun r => { r with i := i }) rn_i_inj hxu e (upd_at e) ?_) ⟨{ r with i := i }, by rw [hp1]; rw [hp0] at hr ⊢; exact ⟨hr, rfl⟩, upd_at e⟩
  rw [hp2, hp1, hp0]
  simp +contextual
 (apply postX.is; (focus (intro v w2 hR hd; (try simp (disch := first | exact qD18 | fail) only [qG4, Nat.reduceAdd, Nat.reduceLeDiff, Int.reduceToNat, Int.reduceAdd, Int.reduceSub, Int.reduceLT, Int.reduceLE, Nat.reduceSub, Nat.reduceMul, Nat.reduceEqDiff, hd]); exact okX.fld)))
 (apply postX.is; (focus (intro v w2 hR hd; (try simp (disch := first | exact qD18 | fail) only [qG4, Nat.reduceAdd, Nat.reduceLeDiff, Int.reduceToNat, Int.reduceAdd, Int.reduceSub, Int.reduceLT, Int.reduceLE, Nat.reduceSub, Nat.reduceMul, Nat.reduceEqDiff, hd]); exact okX.fld)))
 refine postX.intro (fun _ w => ∃ r, p2 r /\ w.heap[q]? = some (.cells (rnC r).toArray 88 (0, 0))) (fun _ _ _ hR h => hR.2 p2 (by simp) h) (fun v w2 hR hd => ?_) ?_
 ·obtain ⟨-, -, -, -, -, -, -, -, -, -, ⟨r, hr, e⟩, -⟩ := id hd
  have le := lt_of_at e
  simp (disch := first | exact qD18 | fail) only [qG4, Nat.reduceAdd, Nat.reduceLeDiff, Int.reduceToNat, Int.reduceAdd, Int.reduceSub, Int.reduceLT, Int.reduceLE, Nat.reduceSub, Nat.reduceMul, Nat.reduceEqDiff, hd, e, rn_seta]
  have hxu : Ext [q] w2 (World.upd w2 q (rnC { r with a := regX c i.r1 })) := qX
  refine okX.mk (Fld.set (fun r => { r with a := regX c i.r1 }) rn_a_inj hxu e (upd_at e) ?_) ⟨{ r with a := regX c i.r1 }, by rw [hp2]; rw [hp1, hp0] at hr ⊢; exact ⟨hr, rfl⟩, upd_at e⟩
  rw [hp2, hp1, hp0]
  simp +contextual
 intro v w7 hR hd _
 obtain ⟨-, -, -, -, -, -, -, -, -, -, -, -, -, -, -, -, -, ⟨r, hr, eR⟩, -⟩ := id hd
 have le := lt_of_at eR
 simp (disch := first | exact qD18 | fail) only [qG4, Nat.reduceAdd, Nat.reduceLeDiff, Int.reduceToNat, Int.reduceAdd, Int.reduceSub, Int.reduceLT, Int.reduceLE, Nat.reduceSub, Nat.reduceMul, Nat.reduceEqDiff, hd, eR, rn_setb]
 have er : ({ r with b := regX c i.r2 } : Rn) = ⟨nextX c, c, flV rb, flV_one rb, i, regX c i.r1, regX c i.r2⟩ := by
  rw [hp2, hp1, hp0] at hr
  obtain ⟨⟨⟨h3, h4, h5⟩, h6⟩, h7⟩ := hr
  cases r
  simp only at h3 h4 h5 h6 h7
  subst h3 h4 h5 h6 h7
  rfl
 rw [er]
 have hxu : Ext [q] w7 (World.upd w7 q (rnC ⟨nextX c, c, flV rb, flV_one rb, i, regX c i.r1, regX c i.r2⟩)) := qX
 have hxv : Ext [q] w6 (World.upd w7 q (rnC ⟨nextX c, c, flV rb, flV_one rb, i, regX c i.r1, regX c i.r2⟩)) := hR.1.step hxu
 replace m1 := hxv.at m1 (by simp; omega)
 replace m2 := hxv.at m2 (by simp; omega)
 replace mM := mM.ext hxv (by simp; omega) (by simp; omega)
 have mr := upd_at (l := rnC ⟨nextX c, c, flV rb, flV_one rb, i, regX c i.r1, regX c i.r2⟩) eR
 have hxw : Ext [] w (World.upd w7 q (rnC ⟨nextX c, c, flV rb, flV_one rb, i, regX c i.r1, regX c i.r2⟩)) := hxe.trans hxv (by simp; omega)
 generalize World.upd w7 q (rnC ⟨nextX c, c, flV rb, flV_one rb, i, regX c i.r1, regX c i.r2⟩) = w8 at *
 apply hJ10
 intro _
 simp (disch := first | exact qD18 | fail) only [qG4, Nat.reduceAdd, Nat.reduceLeDiff, Int.reduceToNat, Int.reduceAdd, Int.reduceSub, Int.reduceLT, Int.reduceLE, Nat.reduceSub, Nat.reduceMul, Nat.reduceEqDiff, List.getD_cons_zero]
 rw [<- hq]
 have hpq : pb ≠ b0 + 1 /\ pb ≠ b0 + 1 + 1 /\ rb ≠ b0 + 1 /\ rb ≠ b0 + 1 + 1 := by omega
 with_reducible refine hrun q w8 _ mr mM fun g' w9 hQ hM9 hx9 => ?_
 have n1 := hx9.at m1 (by simp; omega)
 have n2 := hx9.at m2 (by simp; omega)
 have ln1 := lt_of_at n1
 have ln2 := lt_of_at n2
 simp (disch := first | exact qD18 | fail) only [qG4, Nat.reduceAdd, Nat.reduceLeDiff, Int.reduceToNat, Int.reduceAdd, Int.reduceSub, Int.reduceLT, Int.reduceLE, Nat.reduceSub, Nat.reduceMul, Nat.reduceEqDiff, n1, n2, cx_over, cx_put, ou_over, ou_put, cx_sub, ou_sub]
 have hxo : Ext [b0 + 1, b0 + 1 + 1] w9 (World.upd (World.upd w9 (b0 + 1) (cxC d)) (b0 + 1 + 1) (ouC k e va i)) := qX
 have hxp : Ext [pb] w w9 := (hxw.mono (by simp)).trans hx9 (by simp; omega)
 have hxz : Ext [pb] w (World.upd (World.upd w9 (b0 + 1) (cxC d)) (b0 + 1 + 1) (ouC k e va i)) := hxp.trans hxo (by simp; omega)
 generalize World.upd (World.upd w9 (b0 + 1) (cxC d)) (b0 + 1 + 1) (ouC k e va i) = w10 at *
 exact hK g' w10 hQ (hM9.ext hxo (by simp; omega) (by simp; omega)) hxz
open Go.Fx
set_option maxRecDepth 100000
/-- the two blocks that each part of an instruction makes for its answer. -/
theorem two_x (w : World) : Ext [] w ((w.alloc (.cells (cxC zeroX).toArray 40)).alloc (.cells [.int .i64 0, .int .i64 0, .int .u64 0, .int .i64 0, .int .i64 0, .int .i64 0, .int .i64 0, .int .i64 0].toArray 48)) := Ext.alloc (Ext.alloc Ext.refl _ _) _ _
theorem two_1 (w : World) : ((w.alloc (.cells (cxC zeroX).toArray 40)).alloc (.cells [.int .i64 0, .int .i64 0, .int .u64 0, .int .i64 0, .int .i64 0, .int .i64 0, .int .i64 0, .int .i64 0].toArray 48)).heap[w.heap.size]? = some (.cells (cxC zeroX).toArray 40 (0, 0)) := (alloc_ne (by simp only [szR]; omega)).trans (alloc_at rfl)
theorem two_2 (w : World) : ((w.alloc (.cells (cxC zeroX).toArray 40)).alloc (.cells [.int .i64 0, .int .i64 0, .int .u64 0, .int .i64 0, .int .i64 0, .int .i64 0, .int .i64 0, .int .i64 0].toArray 48)).heap[w.heap.size + 1]? = some (.cells [.int .i64 0, .int .i64 0, .int .u64 0, .int .i64 0, .int .i64 0, .int .i64 0, .int .i64 0, .int .i64 0].toArray 48 (0, 0)) := alloc_at (by simp only [szR])
theorem width0Z_spec {w : World} {n : Nat} (hn : n = 1 ∨ n = 22) {K : Value -> World -> Prop} (hK : ∀ w', Ext [] w w' -> K (.int .i64 0) w') : callsK Tryz.prog 76 #[.int .i64 (n : Nat)] w K := by
 apply F76_ok
 unfold F76
 have hz : (w.alloc (.cells [.int .i64 1, .int .i64 2, .int .i64 4, .int .i64 8].toArray 199)).heap.size = w.heap.size + 1 := by simp only [szR]
 have hb : ((w.alloc (.cells [.int .i64 1, .int .i64 2, .int .i64 4, .int .i64 8].toArray 199)).alloc (.cells [.int .i64 0, .int .i64 0, .int .i64 0, .int .i64 0, .int .i64 0, .int .i64 0, .int .i64 0].toArray 200)).heap[w.heap.size + 1]? = some (.cells [.int .i64 0, .int .i64 0, .int .i64 0, .int .i64 0, .int .i64 0, .int .i64 0, .int .i64 0].toArray 200 (0, 0)) := alloc_at hz.symm
 simp (disch := first | exact qD18 | fail) only [qG4, Nat.reduceAdd, Nat.reduceLeDiff, Int.reduceToNat, Int.reduceAdd, Int.reduceSub, Int.reduceLT, Int.reduceLE, Nat.reduceSub, Nat.reduceMul, Nat.reduceEqDiff, hb]
 refine loads_spec (by omega) ?_
 rw [decide_eq_false (by omega)]
 simp (disch := first | exact qD18 | fail) only [qG4, Nat.reduceAdd, Nat.reduceLeDiff, Int.reduceToNat, Int.reduceAdd, Int.reduceSub, Int.reduceLT, Int.reduceLE, Nat.reduceSub, Nat.reduceMul, Nat.reduceEqDiff]
 refine stores_spec (by omega) ?_
 rw [decide_eq_false (by omega)]
 rcases hn with rfl | rfl
 ·simp (disch := first | exact qD18 | fail) only [qG4, Nat.reduceAdd, Nat.reduceLeDiff, Int.reduceToNat, Int.reduceAdd, Int.reduceSub, Int.reduceLT, Int.reduceLE, Nat.reduceSub, Nat.reduceMul, Nat.reduceEqDiff, joinBR]
  exact hK _ qX
 ·simp (disch := first | exact qD18 | fail) only [qG4, Nat.reduceAdd, Nat.reduceLeDiff, Int.reduceToNat, Int.reduceAdd, Int.reduceSub, Int.reduceLT, Int.reduceLE, Nat.reduceSub, Nat.reduceMul, Nat.reduceEqDiff, joinBR]
  exact hK _ qX
theorem addiZ_spec {w : World} {x y : Nat} {K : Value -> World -> Prop} (hK : K (.tuple #[.int .u64 (((x + y) % 18446744073709551616 : Nat) : Int), .bool true]) w) : callsK Tryz.prog 83 #[.int .i64 22, .int .u64 (x : Nat), .int .u64 (y : Nat)] w K := by
 apply F83_ok
 unfold F83
 have hw : IntKind.u64.wrap (((x : Nat) : Int) + ((y : Nat) : Int)) = (((x + y) % 18446744073709551616 : Nat) : Int) := by
  rw [wrapMod]
  omega
 simp (disch := first | exact qD18 | fail) only [qG4, Nat.reduceAdd, Nat.reduceLeDiff, Int.reduceToNat, Int.reduceAdd, Int.reduceSub, Int.reduceLT, Int.reduceLE, Nat.reduceSub, Nat.reduceMul, Nat.reduceEqDiff]
 refine joinL.intro fun J0 hJ0 => ?_
 simp (disch := first | exact qD18 | fail) only [qG4, Nat.reduceAdd, Nat.reduceLeDiff, Int.reduceToNat, Int.reduceAdd, Int.reduceSub, Int.reduceLT, Int.reduceLE, Nat.reduceSub, Nat.reduceMul, Nat.reduceEqDiff]
 apply hJ0
 intro _
 refine .inl ⟨rfl, ?_⟩
 simp (disch := first | exact qD18 | fail) only [qG4, Nat.reduceAdd, Nat.reduceLeDiff, Int.reduceToNat, Int.reduceAdd, Int.reduceSub, Int.reduceLT, Int.reduceLE, Nat.reduceSub, Nat.reduceMul, Nat.reduceEqDiff, hw]
 exact hK
theorem runAddi_spec {w : World} {q : Nat} {r : Rn} (hr : w.heap[q]? = some (.cells (rnC r).toArray 88 (0, 0))) (ho : r.i.op = 22) (hrd : r.i.rd < 9223372036854775808)
  {K : Value -> World -> Prop} (hK : ∀ w', Ext [q] w w' -> K (.tuple #[.agg (cxC (withX r.c r.i.rd ⟨false, 0, (r.a.a + un r.i.im) % 18446744073709551616⟩)).toArray, .agg (ouC 0 0 0 r.i).toArray]) w') : callsK Tryz.prog 28 #[.pointer (some ⟨q, 0, none⟩)] w K := by
 apply F28_ok
 unfold F28
 have l0 := lt_of_at hr
 have eop := rn_op r
 rw [ho] at eop
 simp (disch := first | exact qD18 | fail) only [qG4, Nat.reduceAdd, Nat.reduceLeDiff, Int.reduceToNat, Int.reduceAdd, Int.reduceSub, Int.reduceLT, Int.reduceLE, Nat.reduceSub, Nat.reduceMul, Nat.reduceEqDiff, zeroX_cells]
 have hx0 := two_x w
 have g1 := two_1 w
 have g2 := two_2 w
 have g0 := hx0.at hr (by simp)
 simp (disch := first | exact qD18 | fail) only [qG4, Nat.reduceAdd, Nat.reduceLeDiff, Int.reduceToNat, Int.reduceAdd, Int.reduceSub, Int.reduceLT, Int.reduceLE, Nat.reduceSub, Nat.reduceMul, Nat.reduceEqDiff, hr, eop]
 refine branches_spec (n := 22) (by omega) ?_
 rw [decide_eq_false (by omega)]
 simp (disch := first | exact qD18 | fail) only [qG4, Nat.reduceAdd, Nat.reduceLeDiff, Int.reduceToNat, Int.reduceAdd, Int.reduceSub, Int.reduceLT, Int.reduceLE, Nat.reduceSub, Nat.reduceMul, Nat.reduceEqDiff]
 refine width0Z_spec (n := 22) (.inr rfl) fun w2 hx2 => ?_
 have k0 := hx2.at g0 (by simp)
 have k1 := hx2.at g1 (by simp)
 have k2 := hx2.at g2 (by simp)
 have e2 := rn_ba r
 have e3 := rn_im r
 have e4 := rn_aa r
 have hwu := wrap_un r.i.im
 have lk0 := lt_of_at k0
 have lk1 := lt_of_at k1
 have lk2 := lt_of_at k2
 simp (disch := first | exact qD18 | fail) only [qG4, Nat.reduceAdd, Nat.reduceLeDiff, Int.reduceToNat, Int.reduceAdd, Int.reduceSub, Int.reduceLT, Int.reduceLE, Nat.reduceSub, Nat.reduceMul, Nat.reduceEqDiff, k0, e2]
 refine joinL.intro fun J0 hJ0 => ?_
 refine immediate_spec (n := 22) (by omega) ?_
 rw [decide_eq_true (by omega)]
 simp (disch := first | exact qD18 | fail) only [qG4, Nat.reduceAdd, Nat.reduceLeDiff, Int.reduceToNat, Int.reduceAdd, Int.reduceSub, Int.reduceLT, Int.reduceLE, Nat.reduceSub, Nat.reduceMul, Nat.reduceEqDiff, k0, e3, hwu]
 apply hJ0
 intro _
 simp (disch := first | exact qD18 | fail) only [qG4, Nat.reduceAdd, Nat.reduceLeDiff, Int.reduceToNat, Int.reduceAdd, Int.reduceSub, Int.reduceLT, Int.reduceLE, Nat.reduceSub, Nat.reduceMul, Nat.reduceEqDiff, k0, e4, List.getD_cons_zero]
 refine addiZ_spec (x := r.a.a) (y := un r.i.im) ?_
 simp (disch := first | exact qD18 | fail) only [qG4, Nat.reduceAdd, Nat.reduceLeDiff, Int.reduceToNat, Int.reduceAdd, Int.reduceSub, Int.reduceLT, Int.reduceLE, Nat.reduceSub, Nat.reduceMul, Nat.reduceEqDiff]
 refine num_spec k0 hrd fun w3 hx3 => ?_
 have hqs : w.heap.size ≠ q /\ w.heap.size + 1 ≠ q := by omega
 have m1 := hx3.at k1 (by simp; omega)
 have m2 := hx3.at k2 (by simp; omega)
 have lm1 := lt_of_at m1
 have lm2 := lt_of_at m2
 have hx5 : Ext [q] w w3 := ((hx0.trans hx2 (by simp)).mono (by simp)).step hx3
 simp (disch := first | exact qD18 | fail) only [qG4, Nat.reduceAdd, Nat.reduceLeDiff, Int.reduceToNat, Int.reduceAdd, Int.reduceSub, Int.reduceLT, Int.reduceLE, Nat.reduceSub, Nat.reduceMul, Nat.reduceEqDiff, m1, m2, cx_over, cx_put, ou_over, ou_put, cx_sub, ou_sub]
 generalize withX r.c r.i.rd ⟨false, 0, (r.a.a + un r.i.im) % 18446744073709551616⟩ = d at *
 have hxo : Ext [w.heap.size, w.heap.size + 1] w3 (World.upd (World.upd w3 w.heap.size (cxC d)) (w.heap.size + 1) (ouC 0 0 0 r.i)) := qX
 exact hK _ (hx5.trans hxo (by simp))
theorem runLui_spec {w : World} {q : Nat} {r : Rn} (hr : w.heap[q]? = some (.cells (rnC r).toArray 88 (0, 0))) (ho : r.i.op = 1) (hrd : r.i.rd < 9223372036854775808)
  {K : Value -> World -> Prop} (hK : ∀ w', Ext [q] w w' -> K (.tuple #[.agg (cxC (withX r.c r.i.rd ⟨false, 0, un r.i.im⟩)).toArray, .agg (ouC 0 0 0 r.i).toArray]) w') : callsK Tryz.prog 28 #[.pointer (some ⟨q, 0, none⟩)] w K := by
 apply F28_ok
 unfold F28
 have l0 := lt_of_at hr
 have eop := rn_op r
 rw [ho] at eop
 simp (disch := first | exact qD18 | fail) only [qG4, Nat.reduceAdd, Nat.reduceLeDiff, Int.reduceToNat, Int.reduceAdd, Int.reduceSub, Int.reduceLT, Int.reduceLE, Nat.reduceSub, Nat.reduceMul, Nat.reduceEqDiff, zeroX_cells]
 have hx0 := two_x w
 have g1 := two_1 w
 have g2 := two_2 w
 have g0 := hx0.at hr (by simp)
 simp (disch := first | exact qD18 | fail) only [qG4, Nat.reduceAdd, Nat.reduceLeDiff, Int.reduceToNat, Int.reduceAdd, Int.reduceSub, Int.reduceLT, Int.reduceLE, Nat.reduceSub, Nat.reduceMul, Nat.reduceEqDiff, hr, eop]
 refine branches_spec (n := 1) (by omega) ?_
 rw [decide_eq_false (by omega)]
 simp (disch := first | exact qD18 | fail) only [qG4, Nat.reduceAdd, Nat.reduceLeDiff, Int.reduceToNat, Int.reduceAdd, Int.reduceSub, Int.reduceLT, Int.reduceLE, Nat.reduceSub, Nat.reduceMul, Nat.reduceEqDiff]
 refine width0Z_spec (n := 1) (.inl rfl) fun w2 hx2 => ?_
 have k0 := hx2.at g0 (by simp)
 have k1 := hx2.at g1 (by simp)
 have k2 := hx2.at g2 (by simp)
 have e3 := rn_im r
 have hwu := wrap_un r.i.im
 have lk0 := lt_of_at k0
 have lk1 := lt_of_at k1
 have lk2 := lt_of_at k2
 simp (disch := first | exact qD18 | fail) only [qG4, Nat.reduceAdd, Nat.reduceLeDiff, Int.reduceToNat, Int.reduceAdd, Int.reduceSub, Int.reduceLT, Int.reduceLE, Nat.reduceSub, Nat.reduceMul, Nat.reduceEqDiff, k0, e3, hwu]
 refine num_spec k0 hrd fun w3 hx3 => ?_
 have hqs : w.heap.size ≠ q /\ w.heap.size + 1 ≠ q := by omega
 have m1 := hx3.at k1 (by simp; omega)
 have m2 := hx3.at k2 (by simp; omega)
 have lm1 := lt_of_at m1
 have lm2 := lt_of_at m2
 have hx5 : Ext [q] w w3 := ((hx0.trans hx2 (by simp)).mono (by simp)).step hx3
 simp (disch := first | exact qD18 | fail) only [qG4, Nat.reduceAdd, Nat.reduceLeDiff, Int.reduceToNat, Int.reduceAdd, Int.reduceSub, Int.reduceLT, Int.reduceLE, Nat.reduceSub, Nat.reduceMul, Nat.reduceEqDiff, m1, m2, cx_over, cx_put, ou_over, ou_put, cx_sub, ou_sub]
 generalize withX r.c r.i.rd ⟨false, 0, un r.i.im⟩ = d at *
 have hxo : Ext [w.heap.size, w.heap.size + 1] w3 (World.upd (World.upd w3 w.heap.size (cxC d)) (w.heap.size + 1) (ouC 0 0 0 r.i)) := qX
 exact hK _ (hx5.trans hxo (by simp))
open Go.Fx
set_option maxRecDepth 100000
def aC (p : Nat × Int) : List Value := [.int .u64 p.1]
def bC (p : Nat × Int) : List Value := [.int .u8 p.2]
theorem aC_all (P : List (Nat × Int)) : ∀ r ∈ P.map aC, r.all (fun v => v.oneCell') = true := by
 intro r hr
 obtain ⟨l, -, rfl⟩ := List.mem_map.1 hr
 rfl
theorem bC_all (P : List (Nat × Int)) : ∀ r ∈ P.map bC, r.all (fun v => v.oneCell') = true := by
 intro r hr
 obtain ⟨l, -, rfl⟩ := List.mem_map.1 hr
 rfl
/-- what was laid last at an address. -/
def lk (P : List (Nat × Int)) (a : Nat) : Int := P.foldl (fun x p => if p.1 = a then p.2 else x) 0
theorem lk_add (P : List (Nat × Int)) (a x : Nat) (b : Int) : lk (P ++ [(a, b)]) x = wset (lk P) a b x := by
 unfold lk wset
 rw [List.foldl_append]
 simp only [List.foldl_cons, List.foldl_nil]
 by_cases h : a = x
 ·rw [if_pos h, if_pos h.symm]
 ·rw [if_neg h, if_neg (Ne.symm h)]
theorem app25 {base : Nat} {v x : Value} {rows rows2 : List (List Value)} {w : World} {K : Value -> World -> Prop} (hown : OwnR w base 35 1 v rows) (hx : RowsAt w x 1 rows2) (h1 : ∀ r ∈ rows2, r.all (fun v => v.oneCell') = true)
  (hl : rows.length + rows2.length <= 1000000) (hbase : base <= w.heap.size) (hK : ∀ v' w', OwnR w' base 35 1 v' (rows ++ rows2) -> App base v w w' -> K v' w') : resV K ((Builtin.append_ #[29, 29] 29 #[v, x]).run Tryz.prog w) :=
 kV_appR Tryz.underlying29 (by kernel_rfl) (by omega) (bytes := 8) hown hx h1 (by simp only [maxLen]; omega) (by omega) hbase hK
theorem app26 {base : Nat} {v x : Value} {rows rows2 : List (List Value)} {w : World} {K : Value -> World -> Prop} (hown : OwnR w base 5 1 v rows) (hx : RowsAt w x 1 rows2) (h1 : ∀ r ∈ rows2, r.all (fun v => v.oneCell') = true)
  (hl : rows.length + rows2.length <= 1000000) (hbase : base <= w.heap.size) (hK : ∀ v' w', OwnR w' base 5 1 v' (rows ++ rows2) -> App base v w w' -> K v' w') : resV K ((Builtin.append_ #[30, 30] 30 #[v, x]).run Tryz.prog w) :=
 kV_appR Tryz.underlying30 (by kernel_rfl) (by omega) (bytes := 1) hown hx h1 (by simp only [maxLen]; omega) (by omega) hbase hK
def rmC (n : Nat) (va vb : Value) : List Value := [.int .i64 n, va, vb, .slice none 0 0]
/-- the document's memory as a value. -/
structure RMem (w : World) (base : Nat) (L : List Value) (n : Nat) (m : Nat -> Int) (c : Nat) (P : List (Nat × Int)) (va vb : Value) : Prop where
 val : L = rmC n va vb
 rowa : RowsAt w va 1 (P.map aC)
 rowb : RowsAt w vb 1 (P.map bC)
 lowa : ∀ b, blockOf va = some b -> base <= b
 lowb : ∀ b, blockOf vb = some b -> base <= b
 lk : ∀ a, lk P a = m a
 len : P.length <= c
theorem RMem.ext {w w' : World} {base n c : Nat} {L : List Value} {m : Nat -> Int} {P : List (Nat × Int)} {va vb : Value} {S : List Nat} (h : RMem w base L n m c P va vb) (hx : Ext S w w') (hs : ∀ k ∈ S, k < base) : RMem w' base L n m c P va vb :=
 ⟨h.val, h.rowa.at hx fun b hb hc => absurd (hs b hc) (Nat.not_lt.2 (h.lowa b hb)), h.rowb.at hx fun b hb hc => absurd (hs b hc) (Nat.not_lt.2 (h.lowb b hb)), h.lowa, h.lowb, h.lk, h.len⟩
theorem RMem.ext' {w w' : World} {base n c : Nat} {L : List Value} {m : Nat -> Int} {P : List (Nat × Int)} {va vb : Value} {S : List Nat} (h : RMem w base L n m c P va vb) (hx : Ext S w w') (hs : P ≠ [] -> ∀ k, blockOf va = some k ∨ blockOf vb = some k -> k ∉ S) : RMem w' base L n m c P va vb :=
 ⟨h.val, h.rowa.at' hx fun h0 b hb => hs (by rintro rfl; exact h0 rfl) b (.inl hb), h.rowb.at' hx fun h0 b hb => hs (by rintro rfl; exact h0 rfl) b (.inr hb), h.lowa, h.lowb, h.lk, h.len⟩
theorem RMem.form {w : World} {base n c : Nat} {L : List Value} {m : Nat -> Int} {P : List (Nat × Int)} {va vb : Value} (h : RMem w base L n m c P va vb) : ∃ a1 c1 a2 c2, va = .slice a1 P.length c1 /\ vb = .slice a2 P.length c2 := by
 obtain ⟨a1, c1, e1⟩ := h.rowa.len
 obtain ⟨a2, c2, e2⟩ := h.rowb.len
 rw [List.length_map] at e1 e2
 exact ⟨a1, c1, a2, c2, e1, e2⟩
theorem rSize_spec {w : World} {n : Nat} {va vb : Value} (hn : n <= 1000) {K : Value -> World -> Prop} (hK : ∀ w', Ext [] w w' -> K (.int .u64 (n * 4096 : Nat)) w') : callsK Tryz.prog 64 #[.agg (rmC n va vb).toArray] w K := by
 have e : (n : Int) * 4096 = ((n * 4096 : Nat) : Int) := by omega
 apply F64_ok
 unfold F64
 simp only [rmC]
 simp (disch := first | exact qDR | fail) only [qG4, Nat.reduceAdd, Nat.reduceLeDiff, Int.reduceToNat, Int.reduceAdd, Int.reduceSub, Int.reduceLT, Int.reduceLE, Nat.reduceSub, Nat.reduceMul, Nat.reduceEqDiff, e]
 exact hK _ qX
theorem rMay_spec {w : World} {n a : Nat} {va vb : Value} (hn : n <= 1000) (h8 : a % 4 = 0) (ha : a < n * 4096) {K : Value -> World -> Prop} (hK : ∀ w', Ext [] w w' -> K (.bool true) w') : callsK Tryz.prog 60 #[.agg (rmC n va vb).toArray, .int .u64 a, .int .i64 4] w K := by
 apply F60_ok
 unfold F60
 have hs : sub (rmC n va vb) 0 4 = rmC n va vb := by simp [rmC, sub]
 have hl : (rmC n va vb).length = 4 := by simp [rmC]
 have e0 : (a : Int) % 4 = 0 := by omega
 simp (disch := first | exact qDR | fail) only [qG4, Nat.reduceAdd, Nat.reduceLeDiff, Int.reduceToNat, Int.reduceAdd, Int.reduceSub, Int.reduceLT, Int.reduceLE, Nat.reduceSub, Nat.reduceMul, Nat.reduceEqDiff, joinR, hs, hl, e0]
 refine rSize_spec hn fun w1 hx1 => ?_
 simp (disch := first | exact qDR | fail) only [qG4, Nat.reduceAdd, Nat.reduceLeDiff, Int.reduceToNat, Int.reduceAdd, Int.reduceSub, Int.reduceLT, Int.reduceLE, Nat.reduceSub, Nat.reduceMul, Nat.reduceEqDiff, joinR]
 exact hK _ (Ext.trans (S := []) qX hx1 (by simp))
theorem rNew_spec {w : World} {n : Nat} (hn : 1 <= n /\ n <= 64) {K : Value -> World -> Prop} (hK : ∀ w', (∀ base, RMem w' base (rmC n (.slice none 0 0) (.slice none 0 0)) n (fun _ => 0) 0 [] (.slice none 0 0) (.slice none 0 0)) -> Ext [] w w' -> K (.tuple #[.agg (rmC n (.slice none 0 0) (.slice none 0 0)).toArray, .int .i64 0]) w') :
  callsK Tryz.prog 20 #[.int .i64 n] w K := by
 apply F20_ok
 unfold F20
 simp (disch := first | exact qDR | fail) only [qG4, Nat.reduceAdd, Nat.reduceLeDiff, Int.reduceToNat, Int.reduceAdd, Int.reduceSub, Int.reduceLT, Int.reduceLE, Nat.reduceSub, Nat.reduceMul, Nat.reduceEqDiff, joinBR]
 refine hK _ (fun base => ⟨rfl, OwnR.nil.rows (base := 0) (e := 5), OwnR.nil.rows (base := 0) (e := 5), by simp [blockOf], by simp [blockOf], fun _ => rfl, by simp⟩) qX
theorem rUntag_spec {w : World} {n n1 c1 n2 c2 : Nat} {a1 a2 : Option Addr} {x : Int} {K : Value -> World -> Prop} (hK : ∀ w', Ext [] w w' -> K (.agg (rmC n (.slice a1 n1 c1) (.slice a2 n2 c2)).toArray) w') :
  callsK Tryz.prog 103 #[.agg (rmC n (.slice a1 n1 c1) (.slice a2 n2 c2)).toArray, .int .u64 x] w K := by
 apply F103_ok
 unfold F103
 simp only [rmC]
 simp (disch := first | exact qDR | fail) only [qG4, Nat.reduceAdd, Nat.reduceLeDiff, Int.reduceToNat, Int.reduceAdd, Int.reduceSub, Int.reduceLT, Int.reduceLE, Nat.reduceSub, Nat.reduceMul, Nat.reduceEqDiff]
 refine loopT.intro (fun st w' => st = [.slice none 0 0, .int .i64 0] /\ w'.heap[w.heap.size]? = some (.cells (rmC n (.slice a1 n1 c1) (.slice a2 n2 c2)).toArray 32 (0, 0)) /\ w'.heap[w.heap.size + 1]? = some (.cells [.int .i64 0, .slice none 0 0, .slice none 0 0, .slice none 0 0].toArray 32 (0, 0)) /\ Ext [] w w') (fun _ _ => 0) ⟨rfl, (by first | with_reducible rfl | assumption | (simp (disch := first | exact qDR | fail) only [qG4, Nat.reduceAdd, Nat.reduceLeDiff, Int.reduceToNat, Int.reduceAdd, Int.reduceSub, Int.reduceLT, Int.reduceLE, Nat.reduceSub, Nat.reduceMul, Nat.reduceEqDiff] <;> rfl)), (by first | with_reducible rfl | assumption | (simp (disch := first | exact qDR | fail) only [qG4, Nat.reduceAdd, Nat.reduceLeDiff, Int.reduceToNat, Int.reduceAdd, Int.reduceSub, Int.reduceLT, Int.reduceLE, Nat.reduceSub, Nat.reduceMul, Nat.reduceEqDiff] <;> rfl)), qX⟩ ?_
 rintro st w' ⟨rfl, h1, h2, hx⟩ _
 have l1 := lt_of_at h1
 have l2 := lt_of_at h2
 simp only [rmC] at h1
 simp (disch := first | exact qDR | fail) only [qG4, Nat.reduceAdd, Nat.reduceLeDiff, Int.reduceToNat, Int.reduceAdd, Int.reduceSub, Int.reduceLT, Int.reduceLE, Nat.reduceSub, Nat.reduceMul, Nat.reduceEqDiff, h1, h2]
 exact hK _ qX
set_option maxHeartbeats 1000000 in
theorem rLay_spec {w : World} {base n c a : Nat} {L : List Value} {b : Int} {m : Nat -> Int} {P : List (Nat × Int)} {va vb : Value} (h : RMem w base L n m c P va vb) (hb : base <= w.heap.size) (hc : c <= 100000) (ha : a < 18446744073709551616) {K : Value -> World -> Prop}
  (hK : ∀ L' P' va' vb' w', RMem w' base L' n (wset m a b) (c + 1) P' va' vb' -> (∀ k, blockOf va' = some k ∨ blockOf vb' = some k -> w.heap.size <= k) -> Ext [] w w' -> K (.agg L'.toArray) w') : callsK Tryz.prog 61 #[.agg L.toArray, .int .u64 a, .int .u8 b] w K := by
 obtain ⟨a1, c1, a2, c2, rfl, rfl⟩ := h.form
 obtain ⟨rfl, hA, hB, -, -, hlk, hlen⟩ := h
 apply F61_ok
 unfold F61
 simp only [rmC]
 simp (disch := first | exact qDR | fail) only [qG4, Nat.reduceAdd, Nat.reduceLeDiff, Int.reduceToNat, Int.reduceAdd, Int.reduceSub, Int.reduceLT, Int.reduceLE, Nat.reduceSub, Nat.reduceMul, Nat.reduceEqDiff]
 refine app25 (rows := []) (rows2 := P.map aC) (base := w.heap.size + 1 + 1) (OwnR.empty (by first | with_reducible rfl | assumption | (simp (disch := first | exact qDR | fail) only [qG4, Nat.reduceAdd, Nat.reduceLeDiff, Int.reduceToNat, Int.reduceAdd, Int.reduceSub, Int.reduceLT, Int.reduceLE, Nat.reduceSub, Nat.reduceMul, Nat.reduceEqDiff] <;> rfl)) (Nat.le_refl _)) (hA.ext (S := []) qX (by simp)) (aC_all P) (by simp; omega) (by simp only [szR]; omega) fun v10 w1 ho1 hp1 => ?_
 have hx1 := hp1.ext _ [] (by simp only [szR]; omega) (Ext.alloc (S := []) Ext.refl _ _)
 have hs1 := hx1.size
 simp only [szR] at hs1
 have hk1 := kept0 hx1
 simp (disch := first | exact qDR | fail) only [qG4, Nat.reduceAdd, Nat.reduceLeDiff, Int.reduceToNat, Int.reduceAdd, Int.reduceSub, Int.reduceLT, Int.reduceLE, Nat.reduceSub, Nat.reduceMul, Nat.reduceEqDiff, hk1]
 refine app25 (rows2 := [aC (a, b)]) (base := w.heap.size + 1 + 1) (ho1.ext (Ext.alloc (S := []) Ext.refl _ _) (by simp)) (RowsAt.one (l := aC (a, b)) (by first | with_reducible rfl | assumption | (simp (disch := first | exact qDR | fail) only [qG4, Nat.reduceAdd, Nat.reduceLeDiff, Int.reduceToNat, Int.reduceAdd, Int.reduceSub, Int.reduceLT, Int.reduceLE, Nat.reduceSub, Nat.reduceMul, Nat.reduceEqDiff] <;> rfl)) rfl) (aC_all [(a, b)]) (by simp; omega) (by simp only [szR]; omega) fun v13 w2 ho2 hp2 => ?_
 have hx2 := hp2.ext _ [] (by simp only [szR]; omega) (hx1.alloc _ _)
 have hs2 := hx2.size
 simp only [szR] at hs2
 have hk2 := kept0 hx2
 obtain ⟨a13, c13, rfl⟩ := ho2.rows.len
 have hxw2 : Ext [] w w2 := Ext.trans (S := []) qX hx2 (by simp)
 simp (disch := first | exact qDR | fail) only [qG4, Nat.reduceAdd, Nat.reduceLeDiff, Int.reduceToNat, Int.reduceAdd, Int.reduceSub, Int.reduceLT, Int.reduceLE, Nat.reduceSub, Nat.reduceMul, Nat.reduceEqDiff, hk2]
 refine app26 (rows := []) (rows2 := P.map bC) (base := w2.heap.size) (OwnR.empty (by first | with_reducible rfl | assumption | (simp (disch := first | exact qDR | fail) only [qG4, Nat.reduceAdd, Nat.reduceLeDiff, Int.reduceToNat, Int.reduceAdd, Int.reduceSub, Int.reduceLT, Int.reduceLE, Nat.reduceSub, Nat.reduceMul, Nat.reduceEqDiff] <;> rfl)) (Nat.le_refl _)) (hB.ext (S := []) qX (by simp)) (bC_all P) (by simp; omega) (by simp only [szR]; omega) fun v18 w3 ho3 hp3 => ?_
 have hx3 := hp3.ext _ [] (by simp only [szR]; omega) (Ext.alloc (S := []) Ext.refl _ _)
 have hs3 := hx3.size
 simp only [szR] at hs3
 have hk3 := kept0 hx3
 simp (disch := first | exact qDR | fail) only [qG4, Nat.reduceAdd, Nat.reduceLeDiff, Int.reduceToNat, Int.reduceAdd, Int.reduceSub, Int.reduceLT, Int.reduceLE, Nat.reduceSub, Nat.reduceMul, Nat.reduceEqDiff, hk3, hk2]
 refine app26 (rows2 := [bC (a, b)]) (base := w2.heap.size) (ho3.ext (Ext.alloc (S := []) Ext.refl _ _) (by simp)) (RowsAt.one (l := bC (a, b)) (by first | with_reducible rfl | assumption | (simp (disch := first | exact qDR | fail) only [qG4, Nat.reduceAdd, Nat.reduceLeDiff, Int.reduceToNat, Int.reduceAdd, Int.reduceSub, Int.reduceLT, Int.reduceLE, Nat.reduceSub, Nat.reduceMul, Nat.reduceEqDiff] <;> rfl)) rfl) (bC_all [(a, b)]) (by simp; omega) (by simp only [szR]; omega) fun v21 w4 ho4 hp4 => ?_
 have hx4 := hp4.ext _ [] (by simp only [szR]; omega) (hx3.alloc _ _)
 have hs4 := hx4.size
 simp only [szR] at hs4
 have hk4 := kept0 hx4
 obtain ⟨a21, c21, rfl⟩ := ho4.rows.len
 have hxw4 : Ext [] w w4 := Ext.trans (S := []) qX hx4 (by simp)
 have hu := fun (w : World) (K : Value -> World -> Prop) => rUntag_spec (w := w) (n := n) (n1 := ([] ++ P.map aC ++ [aC (a, b)]).length) (c1 := c13) (n2 := ([] ++ P.map bC ++ [bC (a, b)]).length) (c2 := c21) (a1 := a13) (a2 := a21) (x := ((a / 16 * 16 : Nat) : Int)) (K := K)
 have e16 : (a : Int) / 16 * 16 = ((a / 16 * 16 : Nat) : Int) := by omega
 simp only [rmC] at hu
 simp (disch := first | exact qDR | fail) only [qG4, Nat.reduceAdd, Nat.reduceLeDiff, Int.reduceToNat, Int.reduceAdd, Int.reduceSub, Int.reduceLT, Int.reduceLE, Nat.reduceSub, Nat.reduceMul, Nat.reduceEqDiff, hk4, hk3, hk2, e16]
 refine hu _ _ fun w5 hx5 => ?_
 have hs5 := hx5.size
 simp only [szR] at hs5
 have hk5 := kept0 hx5
 simp (disch := first | exact qDR | fail) only [qG4, Nat.reduceAdd, Nat.reduceLeDiff, Int.reduceToNat, Int.reduceAdd, Int.reduceSub, Int.reduceLT, Int.reduceLE, Nat.reduceSub, Nat.reduceMul, Nat.reduceEqDiff, hk5, hk4, hk3, hk2, hk1]
 have hxw5 : Ext [] w w5 := Ext.trans (S := []) qX hx5 (by simp)
 have hra := ho2.rows
 have hrb := ho4.rows
 simp only [List.nil_append] at hra hrb
 refine hK _ (P ++ [(a, b)]) _ _ _ ⟨rfl, ?_, ?_, ?_, ?_, fun x => ?_, ?_⟩ (fun k hk => hk.elim (fun h => by have := ho2.block k h; omega) (fun h => by have := ho4.block k h; omega)) qX
 ·rw [List.map_append]
  have hy4 : Ext [w.heap.size, w.heap.size + 1] w2 w4 := Ext.trans qX hx4 (by simp)
  have hy5 : Ext [w.heap.size, w.heap.size + 1] w2 w5 := Ext.trans qX hx5 (by simp)
  refine hra.at (S := [w.heap.size, w.heap.size + 1]) qX fun k hk hm => ?_
  have := ho2.block k hk
  simp at hm
  omega
 ·rw [List.map_append]
  have hy5 : Ext [w.heap.size, w.heap.size + 1] w4 w5 := Ext.trans qX hx5 (by simp)
  refine hrb.at (S := [w.heap.size, w.heap.size + 1]) qX fun k hk hm => ?_
  have := ho4.block k hk
  simp at hm
  omega
 ·intro k hk
  have := ho2.block k hk
  omega
 ·intro k hk
  have := ho4.block k hk
  omega
 ·rw [lk_add]
  unfold wset
  rw [hlk]
 ·simp
  omega
theorem RMem.cells {w : World} {base n c : Nat} {L : List Value} {m : Nat -> Int} {P : List (Nat × Int)} {va vb : Value} (h : RMem w base L n m c P va vb) : L.length = 4 /\ L.all (fun v => v.oneCell') = true /\ sub L 0 4 = L := by
 obtain ⟨a1, c1, a2, c2, rfl, rfl⟩ := h.form
 rw [h.val]
 exact ⟨rfl, rfl, by simp [rmC, sub]⟩
theorem splice_all {l vs : List Value} (h : l.length = vs.length) : splice l 0 vs = vs := by simp [splice, <- h]
theorem drop_all {l vs : List Value} (h : l.length = vs.length) : vs ++ List.drop vs.length l = vs := by simp [<- h]
set_option maxHeartbeats 1000000 in
theorem rStore_spec {w : World} {base n c a x : Nat} {L : List Value} {m : Nat -> Int} {P : List (Nat × Int)} {va vb : Value} (h : RMem w base L n m c P va vb) (hb : base <= w.heap.size) (hc : c <= 10000) (hn : n <= 1000) (h8 : a % 4 = 0) (ha : a < n * 4096) (hx64 : x < 18446744073709551616) {K : Value -> World -> Prop}
  (hK : ∀ L' P' va' vb' w', RMem w' base L' n (stored m a 4 x) (c + 4) P' va' vb' -> Ext [] w w' -> K (.tuple #[.agg L'.toArray, .int .i64 0]) w') : callsK Tryz.prog 22 #[.agg L.toArray, .int .u64 a, .int .i64 4, .int .u64 x] w K := by
 have hval := h.val
 obtain ⟨hlen, hall, hsub⟩ := h.cells
 have hx0 : Ext [] w ((w.alloc (.cells L.toArray 32)).alloc (.cells #[.int .i64 0, .slice none 0 0, .slice none 0 0, .slice none 0 0] 32)) := qX
 apply F22_ok
 unfold F22
 simp (disch := first | exact qDR | fail) only [qG4, Nat.reduceAdd, Nat.reduceLeDiff, Int.reduceToNat, Int.reduceAdd, Int.reduceSub, Int.reduceLT, Int.reduceLE, Nat.reduceSub, Nat.reduceMul, Nat.reduceEqDiff, hsub, hlen]
 rw [hval]
 refine rMay_spec hn h8 ha fun w1 hx1 => ?_
 rw [<- hval] at hx1
 have hk1 := kept0 hx1
 have hx01 := hx0.trans hx1 (by simp)
 have hc1 : w1.heap[w.heap.size]? = some (.cells L.toArray 32 (0, 0)) := (by first | with_reducible rfl | assumption | (simp (disch := first | exact qDR | fail) only [qG4, Nat.reduceAdd, Nat.reduceLeDiff, Int.reduceToNat, Int.reduceAdd, Int.reduceSub, Int.reduceLT, Int.reduceLE, Nat.reduceSub, Nat.reduceMul, Nat.reduceEqDiff, hk1] <;> rfl))
 have hblk : P ≠ [] -> ∀ b, blockOf va = some b ∨ blockOf vb = some b -> b ≠ w.heap.size /\ b ≠ w.heap.size + 1 := by
  intro h0 b hb
  have : b < w.heap.size := hb.elim (fun hb => h.rowa.blt (by simpa using h0) b hb) (fun hb => h.rowb.blt (by simpa using h0) b hb)
  omega
 have hd1 : w1.heap[w.heap.size + 1]? = some (.cells [.int .i64 0, .slice none 0 0, .slice none 0 0, .slice none 0 0].toArray 32 (0, 0)) := (by first | with_reducible rfl | assumption | (simp (disch := first | exact qDR | fail) only [qG4, Nat.reduceAdd, Nat.reduceLeDiff, Int.reduceToNat, Int.reduceAdd, Int.reduceSub, Int.reduceLT, Int.reduceLE, Nat.reduceSub, Nat.reduceMul, Nat.reduceEqDiff, hk1] <;> rfl))
 simp (disch := first | exact qDR | fail) only [qG4, Nat.reduceAdd, Nat.reduceLeDiff, Int.reduceToNat, Int.reduceAdd, Int.reduceSub, Int.reduceLT, Int.reduceLE, Nat.reduceSub, Nat.reduceMul, Nat.reduceEqDiff]
 refine loopT.intro (fun st w' => ∃ (k : Nat) (z : Int) (L' : List Value) (P' : List (Nat × Int)) (va' vb' : Value), k <= 4 /\ st = [.int .i64 z] /\ z = k /\ w'.heap[w.heap.size]? = some (.cells L'.toArray 32 (0, 0)) /\ w'.heap[w.heap.size + 1]? = some (.cells [.int .i64 0, .slice none 0 0, .slice none 0 0, .slice none 0 0].toArray 32 (0, 0)) /\
   RMem w' base L' n (stored m a k x) (c + k) P' va' vb' /\ (P' ≠ [] -> ∀ b, blockOf va' = some b ∨ blockOf vb' = some b -> b ≠ w.heap.size /\ b ≠ w.heap.size + 1) /\ Ext [] w w')
  (fun st _ => match st with
   | [.int _ z] => 4 - z.toNat
   | _ => 0) ⟨0, 0, L, P, va, vb, by omega, rfl, rfl, hc1, hd1, by rw [stored_zero]; exact h.ext hx01 (by simp), hblk, hx01⟩ ?_
 rintro st w' ⟨k, z, L', P', va', vb', hk, rfl, rfl, hc2, hd2, hr, hbk, hx⟩ _
 obtain ⟨hlen2, hall2, hsub2⟩ := hr.cells
 have l1 := lt_of_at hc2
 have l2 := lt_of_at hd2
 have hbw := hx.size
 by_cases hk8 : k < 4
 ·have e1 : (a : Int) + k = ((a + k : Nat) : Int) := by omega
  have e2 : (8 * (k : Int)).toNat = 8 * k := by omega
  have hfd := fdiv_pow (v := x) (by omega) (8 * k)
  rw [Int.toNat_natCast] at hfd
  have hw8 := wrapU8 ((x / 2 ^ (8 * k) : Nat) : Int)
  have hwe : ((x / 2 ^ (8 * k) : Nat) : Int) % 256 = ((x / 2 ^ (8 * k) % 256 : Nat) : Int) := by simp
  rw [hwe] at hw8
  have hst := stored_succ m a k (x : Int)
  rw [Int.toNat_natCast] at hst
  have hq := Nat.mod_lt (x / 2 ^ (8 * k)) (show 256 > 0 by omega)
  generalize x / 2 ^ (8 * k) = q at hfd hw8 hst hq
  simp (disch := first | exact qDR | fail) only [qG4, Nat.reduceAdd, Nat.reduceLeDiff, Int.reduceToNat, Int.reduceAdd, Int.reduceSub, Int.reduceLT, Int.reduceLE, Nat.reduceSub, Nat.reduceMul, Nat.reduceEqDiff, hc2, hsub2, hlen2, e1, e2, hfd, hw8]
  refine rLay_spec hr (by omega) (by omega) (by omega) fun L3 P3 va3 vb3 w3 h3 hb3 hx3 => ?_
  rw [hst] at h3
  obtain ⟨hlen3, hall3, hsub3⟩ := h3.cells
  have hk3 := kept0 hx3
  have hc3 := hx3.at hc2 (by simp)
  have hd3 := hx3.at hd2 (by simp)
  have hs3 := hx3.size
  have hsp := splice_all (l := L') (vs := L3) (by omega)
  have hdr := drop_all (l := L') (vs := L3) (by omega)
  simp (disch := first | exact qDR | fail) only [qG4, Nat.reduceAdd, Nat.reduceLeDiff, Int.reduceToNat, Int.reduceAdd, Int.reduceSub, Int.reduceLT, Int.reduceLE, Nat.reduceSub, Nat.reduceMul, Nat.reduceEqDiff, hc3, hlen3, hall3, hsp]
  refine ⟨⟨k + 1, (k : Int) + 1, L3, P3, va3, vb3, by omega, rfl, by omega, ?_, ?_, ?_, ?_, ?_⟩, by first | omega | (simp <;> omega)⟩
  ·first
    |exact congrArg (fun l : List Value => some (Obj.cells l.toArray 32 (0, 0))) hdr
    | (first | with_reducible rfl | assumption | (simp (disch := first | exact qDR | fail) only [qG4, Nat.reduceAdd, Nat.reduceLeDiff, Int.reduceToNat, Int.reduceAdd, Int.reduceSub, Int.reduceLT, Int.reduceLE, Nat.reduceSub, Nat.reduceMul, Nat.reduceEqDiff, hdr, hsp] <;> try rfl))
  ·(first | with_reducible rfl | assumption | (simp (disch := first | exact qDR | fail) only [qG4, Nat.reduceAdd, Nat.reduceLeDiff, Int.reduceToNat, Int.reduceAdd, Int.reduceSub, Int.reduceLT, Int.reduceLE, Nat.reduceSub, Nat.reduceMul, Nat.reduceEqDiff, hd3] <;> try rfl))
  ·refine h3.ext' (S := [w.heap.size]) qX fun _ b hb hm => ?_
   have := hb3 b hb
   simp at hm
   omega
  ·intro _ b hb
   have := hb3 b hb
   omega
  ·have hx4 := hx.trans hx3 (by simp)
   exact qX
 ·obtain rfl : k = 4 := by omega
  have hsp : splice [Value.int .i64 0, .slice none 0 0, .slice none 0 0, .slice none 0 0] 0 L' = L' := splice_all (by rw [hlen2]; rfl)
  simp (disch := first | exact qDR | fail) only [qG4, Nat.reduceAdd, Nat.reduceLeDiff, Int.reduceToNat, Int.reduceAdd, Int.reduceSub, Int.reduceLT, Int.reduceLE, Nat.reduceSub, Nat.reduceMul, Nat.reduceEqDiff, hc2, hd2, hlen2, hall2, hsub2, hsp]
  refine hK _ _ _ _ _ (hr.ext' (S := [w.heap.size + 1]) qX ?_) qX
  intro h0 b hb hm
  have := hbk h0 b hb
  simp at hm
  omega
open Go.Fx
set_option maxRecDepth 100000
theorem leN_storedX (m : Nat -> Int) (a s : Nat) (v : Int) : ∀ k, k <= s -> leN (stored m a s v) a k = v.toNat % 2 ^ (8 * k)
 | 0, _ => by simp [leN]; omega
 | k + 1, h => by
  have ih := leN_storedX m a s v k (by omega)
  show leN (stored m a s v) a k + (stored m a s v (a + k)).toNat * 2 ^ (8 * k) = _
  rw [ih]
  have e : stored m a s v (a + k) = ((v.toNat / 2 ^ (8 * k) % 256 : Nat) : Int) := by
   unfold stored
   rw [if_pos (by omega), Nat.add_sub_cancel_left]
  rw [e, Int.toNat_natCast, show 8 * (k + 1) = 8 * k + 8 by omega, Nat.pow_add, Nat.mod_mul, Nat.mul_comm (2 ^ (8 * k))]
theorem leN_congrX {m m' : Nat -> Int} {a : Nat} : ∀ {k : Nat}, (∀ j, j < k -> m (a + j) = m' (a + j)) -> leN m a k = leN m' a k
 | 0, _ => rfl
 | k + 1, h => by
  unfold leN
  rw [leN_congrX fun j hj => h j (by omega), h k (by omega)]
theorem leN_storedO {m : Nat -> Int} {a s b k : Nat} {v : Int} (h : b + k <= a ∨ a + s <= b) : leN (stored m a s v) b k = leN m b k := leN_congrX fun j hj => by
 unfold stored
 rw [if_neg (by omega)]
def u4C (x : Nat) : List Value := [.int .u32 (x : Nat)]
def plC (v : Value) (c : Nat -> Cq) (k : Value) : List Value := v :: (cxC c ++ [k])
theorem plC_len (v : Value) (c : Nat -> Cq) (k : Value) : (plC v c k).length = 101 := by simp [plC, cxC_len]
theorem plC_all {a a2 : Option Addr} {n n2 l l2 : Nat} (c : Nat -> Cq) : (plC (.slice a n l) c (.slice a2 n2 l2)).all (fun v => v.oneCell') = true := by
 unfold plC
 rw [List.all_cons, List.all_append, cxC_all]
 rfl
theorem plC_sub (v : Value) (c : Nat -> Cq) (k : Value) : sub (plC v c k) 0 101 = plC v c k := sub_whole (by rw [plC_len])
theorem plC_0 (v : Value) (c : Nat -> Cq) (k : Value) : (plC v c k)[0]? = some v := rfl
theorem plC_k (v : Value) (c : Nat -> Cq) (k : Value) : (plC v c k)[100]? = some k := by
 unfold plC
 rw [List.getElem?_cons_succ, List.getElem?_append_right (by rw [cxC_len]; omega), cxC_len]
 rfl
/-- what a memory tells of words. -/
def Wds (m : Nat -> Int) (ws : List Nat) (k : Nat) : Prop := ∀ i x, i < k -> ws[i]? = some x -> leN m (4 * i) 4 = x
theorem Wds.step {m : Nat -> Int} {ws : List Nat} {k x : Nat} (h : Wds m ws k) (hx : ws[k]? = some x) (h32 : x < 4294967296) : Wds (stored m (4 * k) 4 x) ws (k + 1) := by
 intro i y hi hy
 by_cases h1 : i = k
 ·subst h1
  rw [hx] at hy
  obtain rfl := Option.some.inj hy
  rw [leN_storedX _ _ _ _ 4 (Nat.le_refl _)]
  show x % 4294967296 = x
  omega
 ·rw [leN_storedO (by omega)]
  exact h i y (by omega) hy
theorem qZ19 : type_of% (And.intro @szR (And.intro @cq_len (And.intro @cq_all (And.intro @cxC_len (And.intro @cxC_all (And.intro @plC_len (@plC_all))))))) := ⟨@szR, @cq_len, @cq_all, @cxC_len, @cxC_all, @plC_len, @plC_all⟩
theorem qD19 {p : Prop} (h : p := by first | assumption | omega | (simp only [qZ19] <;> omega) | rfl | decide) : p := h
set_option maxHeartbeats 2000000 in
theorem built_spec {w : World} {ws : List Nat} {v : Value} {c : Nat -> Cq} (hv : RowsAt w v 1 (ws.map u4C)) (hl : ws.length <= 40) (h32 : ∀ x ∈ ws, x < 4294967296) {K : Value -> World -> Prop}
  (hK : ∀ (rb pb : Nat) (L : List Value) (m g : Nat -> Int) (w' : World), Mem w' rb pb 3 m g -> Wds m ws ws.length -> L.length = 4 -> L.all (fun v => v.oneCell') = true -> sub L 0 4 = L -> Ext [] w w' -> w.heap.size <= rb -> w.heap.size <= pb -> K (.tuple #[.pointer (some ⟨rb, 0, none⟩), .agg L.toArray, .int .i64 1]) w') :
  callsK Tryz.prog 7 #[.agg (plC v c (.slice none 0 0)).toArray] w K := by
 obtain ⟨a0, c0, rfl⟩ := hv.len
 apply G7_ok
 unfold G7
 simp (disch := first | exact qD19 | fail) only [qG4, Nat.reduceAdd, Nat.reduceLeDiff, Int.reduceToNat, Int.reduceAdd, Int.reduceSub, Int.reduceLT, Int.reduceLE, Nat.reduceSub, Nat.reduceMul, Nat.reduceEqDiff, plC_sub]
 refine New_spec (n := 3) (by omega) fun w1 hM1 hx1 => ?_
 have e0 : ((w.alloc (.cells (plC (.slice a0 (List.map u4C ws).length c0) c (.slice none 0 0)).toArray 43)).alloc (.cells [.int .i64 0, .slice none 0 0, .slice none 0 0, .slice none 0 0].toArray 32)).heap.size = w.heap.size + 2 := by simp only [szR]
 rw [e0] at hM1 ⊢
 have hx0 : Ext [] w w1 := Ext.trans (S := []) qX hx1 (by simp)
 have g0 : w1.heap[w.heap.size]? = some (.cells (plC (.slice a0 (List.map u4C ws).length c0) c (.slice none 0 0)).toArray 43 (0, 0)) := hx1.at ((alloc_ne (by simp only [szR]; omega)).trans (alloc_at rfl)) (by simp)
 have g1 : w1.heap[w.heap.size + 1]? = some (.cells [.int .i64 0, .slice none 0 0, .slice none 0 0, .slice none 0 0].toArray 32 (0, 0)) := hx1.at (alloc_at (by simp only [szR])) (by simp)
 have hs1 := hM1.lt
 obtain ⟨rb, hrb⟩ : ∃ rb, rb = w.heap.size + 2 + 1 := ⟨_, rfl⟩
 obtain ⟨pb, hpb⟩ : ∃ pb, pb = w.heap.size + 2 := ⟨_, rfl⟩
 rw [<- hrb, <- hpb] at hM1 hs1
 rw [<- hrb]
 clear hx1 e0
 simp (disch := first | exact qD19 | fail) only [qG4, Nat.reduceAdd, Nat.reduceLeDiff, Int.reduceToNat, Int.reduceAdd, Int.reduceSub, Int.reduceLT, Int.reduceLE, Nat.reduceSub, Nat.reduceMul, Nat.reduceEqDiff]
 refine rNew_spec (n := 3) (by omega) fun w2 hD2 hx2 => ?_
 have hM2 := hM1.ext hx2 (by simp) (by simp)
 replace g0 := hx2.at g0 (by simp)
 replace g1 := hx2.at g1 (by simp)
 replace hx0 := hx0.trans hx2 (by simp)
 have lg0 := lt_of_at g0
 have lg1 := lt_of_at g1
 have lM2 := hM2.lt
 have hv2 := hv.ext hx0 (by simp)
 have e1 := hv2.lenR (P := Tryz.prog) (t := 22) (ty := 3) Tryz.underlying22
 rw [List.length_map] at e1 g0 hv2
 have hl2 : ¬ ((ws.length : Nat) : Int) > 40 := by omega
 have hnil : ∀ (x y : Operand) w, (binV .eql 28 x y (.pointer (some ⟨rb, 0, none⟩)) (.pointer none)).run Tryz.prog w = .ok (.bool false) w := fun x y w => by kernel_rfl
 have hner : ∀ (x y : Operand) w, (binV .neq 23 x y (.int .i64 0) (.int .i64 0)).run Tryz.prog w = .ok (.bool false) w := fun x y w => by kernel_rfl
 have hrs : ∀ a b, sub (rmC 3 a b) 0 4 = rmC 3 a b := fun a b => by simp [rmC, sub]
 have hrl : ∀ a b, (rmC 3 a b).length = 4 := fun a b => by simp [rmC]
 obtain ⟨b7, hb7⟩ : ∃ b7, b7 = w2.heap.size := ⟨_, rfl⟩
 obtain ⟨L0, hL0⟩ : ∃ L0, L0 = rmC 3 (.slice none 0 0) (.slice none 0 0) := ⟨_, rfl⟩
 have hL0l : L0.length = 4 := by rw [hL0]; rfl
 have hL0a : L0.all (fun v => v.oneCell') = true := by rw [hL0]; rfl
 rw [<- hL0] at hD2 ⊢
 have hsp := splice_all (l := [.int .i64 0, .slice none 0 0, .slice none 0 0, .slice none 0 0]) (vs := L0) (by rw [hL0l]; rfl)
 have hdr := drop_all (l := [.int .i64 0, .slice none 0 0, .slice none 0 0, .slice none 0 0]) (vs := L0) (by rw [hL0l]; rfl)
 simp (disch := first | exact qD19 | fail) only [qG4, Nat.reduceAdd, Nat.reduceLeDiff, Int.reduceToNat, Int.reduceAdd, Int.reduceSub, Int.reduceLT, Int.reduceLE, Nat.reduceSub, Nat.reduceMul, Nat.reduceEqDiff, joinBR, hL0l, hL0a, hsp, hdr, g0, plC_0, plC_k, hnil, hner]
 have hx3 : Ext [] w2 (w2.alloc (.cells L0.toArray 32)) := Ext.alloc Ext.refl _ _
 have m7 : (w2.alloc (.cells L0.toArray 32)).heap[b7]? = some (.cells L0.toArray 32 (0, 0)) := alloc_at hb7
 rw [<- hb7]
 have n0 := hx3.at g0 (by simp)
 have n1 := hx3.at g1 (by simp)
 have nM := hM2.ext hx3 (by simp) (by simp)
 have nD := (hD2 (b7 + 1)).ext hx3 (by simp)
 have hx4 := hx0.trans hx3 (by simp)
 have hs3 : b7 + 1 <= (w2.alloc (.cells L0.toArray 32)).heap.size := by rw [hb7]; simp only [szR]; omega
 have hpw : w.heap.size <= pb /\ w.heap.size <= rb /\ w.heap.size <= b7 /\ w.heap.size ≠ b7 /\ w.heap.size + 1 ≠ b7 /\ w.heap.size ≠ pb /\ w.heap.size + 1 ≠ pb /\ rb ≠ b7 /\ pb ≠ b7 := by omega
 obtain ⟨hw1, hw2, hw3, hw4, hw5, hw6, hw7, hw8, hw9⟩ := hpw
 clear hx3 hb7 hD2 hL0a hsp hdr hL0l g0 g1 hM2 hx0
 generalize w2.alloc (.cells L0.toArray 32) = w3 at *
 refine loopT.intro (fun st w' => ∃ (k : Nat) (z : Int) (L : List Value) (P : List (Nat × Int)) (va vb : Value) (m g md : Nat -> Int), k <= ws.length /\ st = [.int .i64 z] /\ z = k /\ Mem w' rb pb 3 m g /\ Wds m ws k /\ w'.heap[b7]? = some (.cells L.toArray 32 (0, 0)) /\ RMem w' (b7 + 1) L 3 md (4 * k) P va vb /\ Ext [pb, b7] w3 w')
  (fun st _ => match st with
   | [.int _ z] => ws.length - z.toNat
   | _ => 0) ⟨0, 0, L0, [], _, _, _, _, _, by omega, rfl, rfl, nM, fun i x hi => absurd hi (Nat.not_lt_zero _), m7, nD, Ext.refl⟩ ?_
 rintro st w4 ⟨k, z, L, P, va, vb, m, g, md, hk, rfl, rfl, hM, hW, h7, hD, hx⟩ _
 have hxw : Ext [] w w4 := hx4.trans hx (by simp; omega)
 have k0 := hx.at n0 (by simp; omega)
 have k1 := hx.at n1 (by simp; omega)
 have hsz := hx.size
 obtain ⟨hLl, hLa, hLs⟩ := hD.cells
 simp (disch := first | exact qD19 | fail) only [qG4, Nat.reduceAdd, Nat.reduceLeDiff, Int.reduceToNat, Int.reduceAdd, Int.reduceSub, Int.reduceLT, Int.reduceLE, Nat.reduceSub, Nat.reduceMul, Nat.reduceEqDiff, k0, plC_0]
 by_cases hkl : k < ws.length
 ·obtain ⟨x, hxk⟩ : ∃ x, ws[k]? = some x := ⟨ws[k], List.getElem?_eq_getElem hkl⟩
  have hx32 := h32 x (List.mem_of_getElem? hxk)
  have hr : (ws.map u4C)[k]? = some (u4C x) := by rw [List.getElem?_map, hxk]; rfl
  rw [List.length_map] at hv
  obtain ⟨b, o, l, E, f, hix, hb, hfit, hlt, hblk, hsub, hget⟩ := RowsAt.ixR (P := Tryz.prog) (t := 22) Tryz.underlying22 Tryz.sizeOf71 hv hr
  have gx := hget o 0 rfl (by omega)
  have ex : (u4C x)[0]? = some (.int .u32 (x : Nat)) := rfl
  rw [ex] at gx
  have hb4 := hxw.at hb (by simp)
  have e4 : (4 : Int) * k = ((4 * k : Nat) : Int) := by omega
  refine condK_bool (fun _ => ?_) (fun h => absurd h (by simp; omega))
  refine joinL.intro fun J6 hJ6 => ?_
  simp (disch := first | exact qD19 | fail) only [qG4, Nat.reduceAdd, Nat.reduceLeDiff, Int.reduceToNat, Int.reduceAdd, Int.reduceSub, Int.reduceLT, Int.reduceLE, Nat.reduceSub, Nat.reduceMul, Nat.reduceEqDiff, k0, plC_0, hix, hb4, gx, e4]
  refine Store_spec (n := 3) (a := 4 * k) (s := 4) (v := (x : Int)) hM (by omega) (by omega) (.inr (.inr (.inl rfl))) (by omega) (by omega) fun g' w5 hM5 hg hx5 => ?_
  have q0 := hx5.at k0 (by simp; omega)
  have q7 := hx5.at h7 (by simp; omega)
  have qb := hx5.at hb4 (by simp; omega)
  have hD5 := hD.ext hx5 (by simp; omega)
  simp (disch := first | exact qD19 | fail) only [qG4, Nat.reduceAdd, Nat.reduceLeDiff, Int.reduceToNat, Int.reduceAdd, Int.reduceSub, Int.reduceLT, Int.reduceLE, Nat.reduceSub, Nat.reduceMul, Nat.reduceEqDiff, hLl, hLs, q7, q0, plC_0, hix, qb, gx, e4, and_self]
  have hxdr : Ext [] w5 w5.drew := qX
  refine rStore_spec (n := 3) (hD5.ext hxdr (by simp)) (by have := hx5.size; have := hxdr.size; omega) (by omega) (by omega) (by omega) (by omega) (by omega) fun L' P' va' vb' w7 hD7 hx7 => ?_
  have hx57 := hxdr.trans hx7 (by simp)
  replace q0 := hx57.at q0 (by simp)
  replace q7 := hx57.at q7 (by simp)
  have l7 := lt_of_at q7
  obtain ⟨hLl', hLa', hLs'⟩ := hD7.cells
  have hsp := splice_all (l := L) (vs := L') (by omega)
  have hdr := drop_all (l := L) (vs := L') (by omega)
  simp (disch := first | exact qD19 | fail) only [qG4, Nat.reduceAdd, Nat.reduceLeDiff, Int.reduceToNat, Int.reduceAdd, Int.reduceSub, Int.reduceLT, Int.reduceLE, Nat.reduceSub, Nat.reduceMul, Nat.reduceEqDiff, q7, hLl', hLa', hsp]
  apply hJ6
  intro _
  simp (disch := first | exact qD19 | fail) only [qG4, Nat.reduceAdd, Nat.reduceLeDiff, Int.reduceToNat, Int.reduceAdd, Int.reduceSub, Int.reduceLT, Int.reduceLE, Nat.reduceSub, Nat.reduceMul, Nat.reduceEqDiff]
  have hxu : Ext [b7] w7 (World.upd w7 b7 L') := qX
  have hxv : Ext [pb, b7] w4 (World.upd w7 b7 L') := ((hx5.mono (by simp)).step (hx57.mono (by simp))).step (hxu.mono (by simp))
  refine ⟨⟨k + 1, (k : Int) + 1, L', P', va', vb', _, g', _, by omega, rfl, by omega, (hM5.ext hx57 (by simp) (by simp)).ext hxu (by simp; omega) (by simp; omega), hW.step hxk hx32, by first | exact upd_at q7 | (rw [q7]; rfl), hD7.ext hxu (by simp), hx.step hxv⟩, by omega⟩
 ·obtain rfl : k = ws.length := by omega
  refine condK_bool (fun h => absurd h (by simp)) (fun _ => ?_)
  refine loopT.intro (fun st w' => st = [.int .i64 0] /\ w' = w4) (fun _ _ => 0) ⟨rfl, rfl⟩ ?_
  rintro st w5 ⟨rfl, rfl⟩ _
  have l0 := lt_of_at k0
  have l1 := lt_of_at k1
  have hsp := splice_all (l := [.int .i64 0, .slice none 0 0, .slice none 0 0, .slice none 0 0]) (vs := L) (by rw [hLl]; rfl)
  have hdr := drop_all (l := [.int .i64 0, .slice none 0 0, .slice none 0 0, .slice none 0 0]) (vs := L) (by rw [hLl]; rfl)
  simp (disch := first | exact qD19 | fail) only [qG4, Nat.reduceAdd, Nat.reduceLeDiff, Int.reduceToNat, Int.reduceAdd, Int.reduceSub, Int.reduceLT, Int.reduceLE, Nat.reduceSub, Nat.reduceMul, Nat.reduceEqDiff, k0, plC_k, h7, hLl, hLs, hLa, k1, hsp, hdr]
  have hxz : Ext [w.heap.size + 1] w5 (World.upd w5.drew (w.heap.size + 1) L) := qX
  exact hK rb pb L m g _ (hM.ext hxz (by simp; omega) (by simp; omega)) hW hLl hLa hLs (hxw.trans hxz (by simp)) hw2 hw1
end Go.Proofs.YtldkfbelnndaoaaGreatDoor
