/- Part 4 of what the law ExecNumbers stands on: formulas of the functions that it reaches, and what each of them does; conditions: those of each theorem. -/
import Derived.Test.YtplfniijbeinmaaGreatP3
set_option linter.unusedVariables false
set_option linter.unusedSimpArgs false
namespace Go.Proofs.YtplfniijbeinmaaGreat
open Go.Fx
set_option maxRecDepth 100000
/-- an array of bytes. -/
def arC (n : Nat) (f : Nat -> Int) : List Value := (List.range n).map fun j => .int .u8 (f j)
theorem arC_len (n : Nat) (f : Nat -> Int) : (arC n f).length = n := by simp [arC]
theorem arC_all (n : Nat) (f : Nat -> Int) : (arC n f).all (fun v => v.oneCell') = true := by
 rw [List.all_eq_true]
 intro x hx
 obtain ⟨j, -, rfl⟩ := List.mem_map.1 hx
 rfl
theorem arC_get {n : Nat} {f : Nat -> Int} {j : Nat} (h : j < n) : (arC n f)[j]? = some (.int .u8 (f j)) := by simp [arC, h]
theorem arC_set {n : Nat} {f : Nat -> Int} {j : Nat} {v : Int} (h : j < n) : (arC n f).set j (.int .u8 v) = arC n (wset f j v) := by
 apply List.ext_getElem?
 intro i
 rw [List.getElem?_set]
 by_cases hi : i < n
 ·rw [arC_get hi, arC_get hi, arC_len]
  unfold wset
  by_cases hij : j = i
  ·rw [if_pos hij, if_pos h, if_pos hij.symm]
  ·rw [if_neg hij, if_neg (Ne.symm hij)]
 ·rw [if_neg (by omega), List.getElem?_eq_none (by rw [arC_len]; omega), List.getElem?_eq_none (by rw [arC_len]; omega)]
theorem arC_sub (n : Nat) (f : Nat -> Int) : sub (arC n f) 0 n = arC n f := by
 unfold sub
 rw [List.drop_zero, List.take_of_length_le (by rw [arC_len]; exact Nat.le_refl _)]
theorem arC_over (n : Nat) (f g : Nat -> Int) : splice (arC n f) 0 (arC n g) = arC n g := by
 unfold splice
 rw [List.take_zero, arC_len, List.nil_append, List.drop_eq_nil_of_le (by rw [arC_len]; omega), List.append_nil]
theorem arC_tail (n : Nat) (f g : Nat -> Int) : arC n f ++ List.drop n (arC n g) = arC n f := by
 rw [List.drop_eq_nil_of_le (by rw [arC_len]; exact Nat.le_refl _), List.append_nil]
theorem arC_congr {n : Nat} {f g : Nat -> Int} (h : ∀ j, j < n -> f j = g j) : arC n f = arC n g := by
 unfold arC
 apply List.map_congr_left
 intro j hj
 rw [h j (List.mem_range.1 hj)]
/-- a number's byte. -/
def byteOf (v : Int) (i : Nat) : Int := ((v.toNat / 2 ^ (8 * i) % 256 : Nat) : Int)
theorem byteOf_range (v : Int) (i : Nat) : 0 <= byteOf v i /\ byteOf v i < 256 := by
 unfold byteOf
 have := Nat.mod_lt (v.toNat / 2 ^ (8 * i)) (show 0 < 256 by omega)
 omega
/-- a capability's bytes: its address, then the rest. -/
def capBy (mt ad : Int) (j : Nat) : Int := if j < 8 then byteOf ad j else byteOf mt (j - 8)
def capC (t : Bool) (mt ad : Int) : List Value := [.bool t, .int .u64 mt, .int .u64 ad]
theorem capC_len (t : Bool) (mt ad : Int) : (capC t mt ad).length = 3 := by simp [capC]
theorem capC_all (t : Bool) (mt ad : Int) : (capC t mt ad).all (fun v => v.oneCell') = true := by simp [capC]; exact ⟨rfl, rfl, rfl⟩
def U64 (v : Int) : Prop := 0 <= v /\ v < 18446744073709551616
theorem arZ : [Value.int .u8 0, .int .u8 0, .int .u8 0, .int .u8 0, .int .u8 0, .int .u8 0, .int .u8 0, .int .u8 0, .int .u8 0, .int .u8 0, .int .u8 0, .int .u8 0, .int .u8 0, .int .u8 0, .int .u8 0, .int .u8 0] = arC 16 fun _ => 0 := rfl
theorem qZ13 : type_of% (And.intro @szR (And.intro @tgC_len (And.intro @tgC_all (And.intro @arC_len (And.intro @arC_all (And.intro @capC_len (@capC_all))))))) := ⟨@szR, @tgC_len, @tgC_all, @arC_len, @arC_all, @capC_len, @capC_all⟩
theorem qD13 {p : Prop} (h : p := by first | assumption | omega | (simp only [qZ13] <;> omega) | rfl | decide) : p := h
theorem capBytes_spec {w : World} {t : Bool} {mt ad : Int} (hm : U64 mt) (ha : U64 ad) {K : Value -> World -> Prop} (hK : ∀ w', Ext [] w w' -> K (.agg (arC 16 (capBy mt ad)).toArray) w') : callsK Tryz.prog 60 #[.agg (capC t mt ad).toArray] w K := by
 have hz : [Value.int .u8 0, .int .u8 0, .int .u8 0, .int .u8 0, .int .u8 0, .int .u8 0, .int .u8 0, .int .u8 0, .int .u8 0, .int .u8 0, .int .u8 0, .int .u8 0, .int .u8 0, .int .u8 0, .int .u8 0, .int .u8 0] = arC 16 fun _ => 0 := by rfl
 apply F60_ok
 unfold F60
 simp (disch := first | exact qD13 | fail) only [qG2, hz]
 refine loopT.intro (fun st w' => ∃ (k : Nat) (z : Int), k <= 8 /\ st = [.int .i64 z] /\ z = k /\ w'.heap[w.heap.size]? = some (.cells (capC t mt ad).toArray 24 (0, 0)) /\ w'.heap[w.heap.size + 1]? = some (.cells (arC 16 fun _ => 0).toArray 152 (0, 0)) /\ w'.heap[w.heap.size + 1 + 1]? = some (.cells (arC 16 fun j => if j < k ∨ (8 <= j /\ j < 8 + k) then capBy mt ad j else 0).toArray 152 (0, 0)) /\ Ext [] w w')
  (fun st _ => match st with
   | [.int _ z] => 8 - z.toNat
   | _ => 0) ⟨0, 0, by omega, rfl, rfl, by simp (disch := first | exact qD13 | fail) only [qG2], by simp (disch := first | exact qD13 | fail) only [qG2], ?_, qX⟩ ?_
 ·simp (disch := first | exact qD13 | fail) only [qG2]
  all_goals first | done | (congr 3; done) | (congr 3; exact arC_congr fun j _ => by rw [if_neg (by omega)])
 rintro st w' ⟨k, z, hk, rfl, rfl, h1, h2, h3, hx⟩ _
 have l1 := lt_of_at h1
 have l2 := lt_of_at h2
 have l3 := lt_of_at h3
 by_cases h8 : k < 8
 ·have he : (8 * (k : Int)).toNat = 8 * k := by omega
  have hfa := fdiv_pow ha.1 (8 * k)
  have hfm := fdiv_pow hm.1 (8 * k)
  have hwa := wrapU8 ((ad.toNat / 2 ^ (8 * k) : Nat) : Int)
  have hwm := wrapU8 ((mt.toNat / 2 ^ (8 * k) : Nat) : Int)
  have ea : ((ad.toNat / 2 ^ (8 * k) : Nat) : Int) % 256 = byteOf ad k := by unfold byteOf; simp
  have em : ((mt.toNat / 2 ^ (8 * k) : Nat) : Int) % 256 = byteOf mt k := by unfold byteOf; simp
  rw [ea] at hwa
  rw [em] at hwm
  have e8 : (8 + (k : Int)).toNat = 8 + k := by omega
  generalize ad.toNat / 2 ^ (8 * k) = qa at hfa hwa
  generalize mt.toNat / 2 ^ (8 * k) = qm at hfm hwm
  simp only [capC] at h1
  simp (disch := first | exact qD13 | fail) only [qG2]
  refine joinL.intro fun J hJ => ?_
  have hrest : ∀ w2, w2.heap[w.heap.size]? = some (.cells (capC t mt ad).toArray 24 (0, 0)) -> w2.heap[w.heap.size + 1]? = some (.cells (arC 16 fun _ => 0).toArray 152 (0, 0)) -> w2.heap[w.heap.size + 1 + 1]? = some (.cells (arC 16 (wset (wset (fun j => if j < k ∨ (8 <= j /\ j < 8 + k) then capBy mt ad j else 0) k (byteOf ad k)) (8 + k) (byteOf mt k))).toArray 152 (0, 0)) -> Ext [] w w2 -> J [] w2 := by
   intro w2 g1 g2 g3 g4
   apply hJ
   intro _
   simp (disch := first | exact qD13 | fail) only [qG2]
   refine ⟨⟨k + 1, (k : Int) + 1, by omega, rfl, by omega, g1, g2, ?_, g4⟩, by first | omega | (simp <;> omega)⟩
   rw [g3]
   congr 3
   refine arC_congr fun j hj => ?_
   unfold wset
   by_cases c1 : j = 8 + k
   ·rw [if_pos c1, if_pos (by omega)]
    unfold capBy
    rw [if_neg (by omega), show j - 8 = k by omega]
   ·rw [if_neg c1]
    by_cases c2 : j = k
    ·rw [if_pos c2, if_pos (by omega)]
     unfold capBy
     rw [if_pos (by omega), c2]
    ·rw [if_neg c2]
     show (if j < k ∨ (8 <= j /\ j < 8 + k) then capBy mt ad j else 0) = _
     by_cases c3 : j < k ∨ (8 <= j /\ j < 8 + k)
     ·rw [if_pos c3, if_pos (by omega)]
     ·rw [if_neg c3, if_neg (by omega)]
  simp (disch := first | exact qD13 | fail) only [qG2, h1, h3, he, hfa, hfm, hwa, hwm, e8, arC_set, and_self]
  refine hrest _ (by first | with_reducible rfl | assumption | (simp (disch := first | exact qD13 | fail) only [qG2, h1] <;> rfl)) (by first | with_reducible rfl | assumption | (simp (disch := first | exact qD13 | fail) only [qG2, h2] <;> rfl)) (by first | with_reducible rfl | assumption | (simp (disch := first | exact qD13 | fail) only [qG2, h3, arC_set] <;> rfl)) qX
 ·obtain rfl : k = 8 := by omega
  simp (disch := first | exact qD13 | fail) only [qG2, Nat.reduceAdd, Int.reduceLT, h2, h3, arC_sub, arC_over]
  have := hK (World.upd w' (w.heap.size + 1) (arC 16 fun j => if j < 8 ∨ (8 <= j /\ j < 8 + 8) then capBy mt ad j else 0)) qX
  have e : (arC 16 fun j => if j < 8 ∨ (8 <= j /\ j < 8 + 8) then capBy mt ad j else 0) = arC 16 (capBy mt ad) := arC_congr fun j hj => by rw [if_pos (by omega)]
  simp only [e] at this ⊢
  exact this
/-- bytes as a number. -/
theorem leN_shift (m : Nat -> Int) (a : Nat) : ∀ k, leN (fun j => m (a + j)) 0 k = leN m a k
 | 0 => rfl
 | k + 1 => by
  unfold leN
  rw [leN_shift m a k, Nat.zero_add]
theorem leN_congr {m m' : Nat -> Int} {a : Nat} : ∀ {k : Nat}, (∀ j, j < k -> m (a + j) = m' (a + j)) -> leN m a k = leN m' a k
 | 0, _ => rfl
 | k + 1, h => by
  unfold leN
  rw [leN_congr fun j hj => h j (by omega), h k (by omega)]
theorem capnumber_spec {w : World} {b o n c : Nat} {f : Nat -> Int} {L : List Value} {E : TypeId} {F : Nat × Nat} (hb : w.heap[b]? = some (.cells L.toArray E F)) (hL : ∀ j, j < n -> L[o + j]? = some (.int .u8 (f j))) (hf : Byte f) (hn : n <= 8) {K : Value -> World -> Prop}
  (hK : ∀ w', Ext [] w w' -> K (.int .u64 (leN f 0 n : Nat)) w') : callsK Tryz.prog 152 #[.slice (some ⟨b, o, none⟩) n c] w K := by
 apply F152_ok
 unfold F152
 simp (disch := first | exact qD13 | fail) only [qG2]
 refine loopT.intro (fun st w' => ∃ (k : Nat) (z : Int), k <= n /\ st = [.int .u64 (leN f 0 k : Nat), .int .i64 z] /\ z = k /\ Ext [] w w')
  (fun st _ => match st with
   | [_, .int _ z] => n - z.toNat
   | _ => 0) ⟨0, 0, by omega, rfl, rfl, Ext.refl⟩ ?_
 rintro st w' ⟨k, z, hk, rfl, rfl, hx⟩ _
 by_cases hkn : k < n
 ·have hb' := hx.at hb (by simp)
  have hg := hL k hkn
  have hby := hf k
  have he : (8 * (k : Int)).toNat = 8 * k := by omega
  have hle := leN_lt hf 0 k
  have hle2 := leN_lt hf 0 (k + 1)
  have hor := leN_or hf 0 k
  have hpw : (2 : Nat) ^ (8 * (k + 1)) <= 18446744073709551616 := Nat.le_trans (Nat.pow_le_pow_right (show 0 < 2 by omega) (show 8 * (k + 1) <= 64 by omega)) (by decide)
  have hlb : leN f 0 (k + 1) = leN f 0 k + (f (0 + k)).toNat * 2 ^ (8 * k) := rfl
  rw [Nat.zero_add] at hor hlb
  have hgo : ∀ y : Nat, y = leN f 0 (k + 1) -> (∃ (k' : Nat) (z : Int), k' <= n /\ [Value.int .u64 y, .int .i64 ((k : Int) + 1)] = [.int .u64 (leN f 0 k' : Nat), .int .i64 z] /\ z = k' /\ Ext [] w w') := by
   rintro y rfl
   exact ⟨k + 1, (k : Int) + 1, by omega, rfl, by omega, hx⟩
  generalize leN f 0 (k + 1) = y at hle2 hor hlb hgo
  generalize leN f 0 k = x at hle hor hlb
  generalize f k = b0 at hg hby hor hlb
  obtain ⟨z, hz⟩ : ∃ z, z = b0.toNat * 2 ^ (8 * k) := ⟨_, rfl⟩
  have hsh : IntKind.u64.wrap (b0 * 2 ^ (8 * k)) = (z : Int) := by
   have e : b0 * 2 ^ (8 * k) = (z : Int) := by
    rw [hz]
    have : b0 = (b0.toNat : Int) := by omega
    rw [this]
    simp
   rw [e]
   exact wrap_u64 (by omega)
  rw [<- hz] at hor hlb
  have hor2 := or_u64 (a := (x : Int)) (b := (z : Int)) (by omega) (by omega)
  simp only [Int.toNat_natCast, hor] at hor2
  have hidx : (k : Int).toNat * 1 = k := by omega
  simp (disch := first | exact qD13 | fail) only [qG2, hb', hg, he, hsh, hor2]
  exact ⟨hgo y rfl, by first | omega | (simp <;> omega)⟩
 ·obtain rfl : k = n := by omega
  simp (disch := first | exact qD13 | fail) only [qG2]
  exact hK _ hx
theorem capOf_spec {w : World} {f : Nat -> Int} {t : Bool} (hf : Byte f) {K : Value -> World -> Prop} (hK : ∀ w', Ext [] w w' -> K (.agg (capC t (leN (fun j => f (8 + j)) 0 8 : Nat) (leN f 0 8 : Nat)).toArray) w') :
  callsK Tryz.prog 150 #[.agg (arC 16 f).toArray, .bool t] w K := by
 apply F150_ok
 unfold F150
 simp (disch := first | exact qD13 | fail) only [qG2, Int.reduceToNat, Nat.reduceSub]
 have hb : ((w.alloc (.cells (arC 16 f).toArray 152)).alloc (.cells [.bool false, .int .u64 0, .int .u64 0].toArray 24)).drew.heap[w.heap.size]? = some (.cells (arC 16 f).toArray 152 (0, 0)) := by simp (disch := first | exact qD13 | fail) only [qG2]
 refine capnumber_spec (f := fun j => f (8 + j)) hb (fun j hj => by rw [show 8 * 1 + j = 8 + j by omega]; exact arC_get (by omega)) (fun j => hf _) (by omega) fun w1 hx1 => ?_
 simp (disch := first | exact qD13 | fail) only [qG2]
 refine capnumber_spec (f := f) (hx1.at hb (by simp)) (fun j hj => by rw [Nat.zero_add]; exact arC_get (by omega)) hf (by omega) fun w2 hx2 => ?_
 have hc : w2.heap[w.heap.size + 1]? = some (.cells [.bool false, .int .u64 0, .int .u64 0].toArray 24 (0, 0)) := hx2.at (hx1.at (by simp (disch := first | exact qD13 | fail) only [qG2]) (by simp)) (by simp)
 have l2 := lt_of_at hc
 have hx : Ext [] w w2 := ((((Ext.refl (w := w) (S := [])).alloc _ _).alloc _ _).drew.trans hx1 (by simp)).trans hx2 (by simp)
 simp (disch := first | exact qD13 | fail) only [qG2, Nat.reduceAdd, hc]
 exact hK _ qX
def laid (m : Nat -> Int) (a n : Nat) (f : Nat -> Int) : Nat -> Int := fun x => if a <= x /\ x < a + n then f (x - a) else m x
theorem Byte.laid {m f : Nat -> Int} (h : Byte m) (hf : Byte f) (a n : Nat) : Byte (laid m a n f) := by
 intro x
 unfold YtplfniijbeinmaaGreat.laid
 split
 ·exact hf _
 ·exact h x
theorem capBy_byte (mt ad : Int) : Byte (capBy mt ad) := by
 intro j
 unfold capBy
 split
 ·exact byteOf_range _ _
 ·exact byteOf_range _ _
theorem Cells.sub16 {L : List Value} {n : Nat} {m g : Nat -> Int} (h : Cells L n m g) {p o : Nat} (hp : p < n) (ho : o + 16 <= 4096) : Go.Fx.sub L (p * 4100 + o) 16 = arC 16 (fun j => m (p * 4096 + o + j)) := by
 apply List.ext_getElem?
 intro i
 unfold Go.Fx.sub
 by_cases hi : i < 16
 ·rw [List.getElem?_take_of_lt hi, List.getElem?_drop, show p * 4100 + o + i = p * 4100 + (o + i) by omega, h.byte p (o + i) hp (by omega), arC_get hi, show p * 4096 + (o + i) = p * 4096 + o + i by omega]
 ·rw [List.getElem?_eq_none (by simp; omega), List.getElem?_eq_none (by rw [arC_len]; omega)]
theorem Cells.lay16 {L : List Value} {n : Nat} {m g : Nat -> Int} (h : Cells L n m g) {p o : Nat} {f : Nat -> Int} (hp : p < n) (ho : o + 16 <= 4096) : Cells (splice L (p * 4100 + o) (arC 16 f)) n (laid m (p * 4096 + o) 16 f) g := by
 have hl := h.len
 have ht : (arC 16 f).length = 16 := arC_len 16 f
 refine ⟨by rw [splice_length (by omega), h.len], fun p' i' hp' hi' => ?_, fun p' j hp' hj => ?_⟩
 ·rw [splice_get (by omega)]
  unfold laid
  by_cases h1 : p' * 4100 + i' < p * 4100 + o
  ·rw [if_pos h1, if_neg (by omega), h.byte p' i' hp' hi']
  ·rw [if_neg h1]
   by_cases h2 : p' * 4100 + i' < p * 4100 + o + (arC 16 f).length
   ·rw [if_pos h2, if_pos (by omega), arC_get (by omega), show p' * 4096 + i' - (p * 4096 + o) = p' * 4100 + i' - (p * 4100 + o) by omega]
   ·rw [if_neg h2, if_neg (by omega), h.byte p' i' hp' hi']
 ·rw [splice_get (by omega), <- h.word p' j hp' hj]
  by_cases h1 : p' * 4100 + 4096 + j < p * 4100 + o
  ·rw [if_pos h1]
  ·rw [if_neg h1, if_neg (by omega)]
set_option maxHeartbeats 4000000 in
theorem StoreCap_spec {w : World} {r q n a : Nat} {t : Bool} {mt ad : Int} {m g : Nat -> Int} (h : Mem w r q n m g) (hn : 0 < n /\ n <= 1000) (ha : a < n * 4096) (hal : a % 16 = 0) (hm : U64 mt) (hd : U64 ad) {K : Value -> World -> Prop}
  (hK : ∀ g' w', Mem w' r q n (laid m a 16 (capBy mt ad)) g' -> (∀ x, x < n * 256 -> bit g' x = if x = a / 16 then t else bit g x) -> Ext [q] w w' -> K (.int .i64 0) w') :
  callsK Tryz.prog 25 #[.pointer (some ⟨r, 0, none⟩), .int .u64 a, .agg (capC t mt ad).toArray] w K := by
 have hq := h.lt
 have hne := h.ne
 apply F25_ok
 unfold F25
 simp (disch := first | exact qD13 | fail) only [qG2]
 have hx1 : Ext [] w (w.alloc (.cells (capC t mt ad).toArray 24)) := qX
 refine place_spec (h.ext hx1 (by simp) (by simp)) hn (by omega) (by omega) (fun c1 c2 => ?_) (fun c => absurd ⟨by omega, by omega⟩ c)
 have e1 : ((a : Int) / 4096).toNat = a / 4096 := by omega
 have e2 : (a : Int) % 4096 = ((a % 4096 : Nat) : Int) := by omega
 have hsub3 : sub (capC t mt ad) 0 3 = capC t mt ad := by simp [capC, sub]
 rw [e1, e2]
 simp (disch := first | exact qD13 | fail) only [qG2, hsub3]
 refine capBytes_spec hm hd fun w2 hx2 => ?_
 have hx12 := hx1.trans hx2 (by simp)
 have hc5 := hx2.at (b := w.heap.size) (o := .cells (capC t mt ad).toArray 24) (by simp (disch := first | exact qD13 | fail) only [qG2]) (by simp)
 have l5 := lt_of_at hc5
 have hm2 := h.ext hx12 (by simp) (by simp)
 obtain ⟨L, hb, hL⟩ := hm2.body
 have hl := hL.len
 have hhd := hm2.head
 have hq2 := hm2.lt
 have e16 : ((a % 4096 : Nat) : Int) / 16 = ((a % 4096 / 16 : Nat) : Int) := by omega
 simp (disch := first | exact qD13 | fail) only [qG2, hb, arZ, arC_sub, arC_over, arC_len, arC_tail]
 refine joinL.intro fun J hJ => ?_
 have hlay := hL.lay16 (p := a / 4096) (o := a % 4096) (f := capBy mt ad) (by omega) (by omega)
 rw [show a / 4096 * 4096 + a % 4096 = a by omega] at hlay
 have hsub := hlay.sub (p := a / 4096) (by omega)
 have hll := hlay.len
 have hcg : (capC t mt ad)[0]? = some (.bool t) := rfl
 simp (disch := first | exact qD13 | fail) only [qG2, hb, hc5, hcg, hsub, e16, and_self]
 refine With_spec (g := fun j => g (a / 4096 * 4 + j)) (fun j => hm2.word _) fun gw w5 hgw hbw hx5 => ?_
 have hk5 := kept0 hx5
 have hs5 := hx5.size
 simp only [szR] at hs5
 simp (disch := first | exact qD13 | fail) only [qG2, hk5, hb]
 apply hJ
 intro _
 refine hK (wset4 g (a / 4096) gw) _ ⟨(by first | with_reducible rfl | assumption | (simp (disch := first | exact qD13 | fail) only [qG2, hk5, hhd] <;> rfl)), ⟨_, (by first | with_reducible rfl | assumption | (simp (disch := first | exact qD13 | fail) only [qG2, hk5, hb] <;> rfl)), hlay.tags (by omega)⟩, h.byte.laid (capBy_byte _ _) _ _, wset4_ok hm2.word hgw⟩ (fun x hx => ?_) ?_
 ·rw [bit_wset4]
  by_cases hp : x / 256 = a / 4096
  ·rw [if_pos hp, hbw _ (by omega), bit_page (by omega), show a / 4096 * 256 + x % 256 = x by omega]
   by_cases hxa : x = a / 16
   ·rw [if_pos (by omega), if_pos hxa]
   ·rw [if_neg (by omega), if_neg hxa]
  ·rw [if_neg hp, if_neg (by omega)]
 ·have hx6 : Ext [q] w w2 := hx12.mono (by simp)
  have hx7 : Ext [q] w2 w5 := (Ext.updI (by simp) ((Ext.refl (w := w2) (S := [q])).alloc _ _).drew).drew.trans hx5 (by simp)
  have hx8 := hx6.trans hx7 (fun k hk => .inl hk)
  exact qX
theorem LoadCap_spec {w : World} {r q n a : Nat} {m g : Nat -> Int} (h : Mem w r q n m g) (hn : 0 < n /\ n <= 1000) (ha : a < n * 4096) (hal : a % 16 = 0) {K : Value -> World -> Prop}
  (hK : ∀ w', Ext [] w w' -> K (.tuple #[.agg (capC (bit g (a / 16)) (leN m (a + 8) 8 : Nat) (leN m a 8 : Nat)).toArray, .int .i64 0]) w') :
  callsK Tryz.prog 148 #[.pointer (some ⟨r, 0, none⟩), .int .u64 a] w K := by
 have hq := h.lt
 apply F148_ok
 unfold F148
 simp (disch := first | exact qD13 | fail) only [qG2]
 have hx1 : Ext [] w (w.alloc (.cells [.bool false, .int .u64 0, .int .u64 0].toArray 24)) := qX
 have hc4 : (w.alloc (.cells [.bool false, .int .u64 0, .int .u64 0].toArray 24)).heap[w.heap.size]? = some (.cells [.bool false, .int .u64 0, .int .u64 0].toArray 24 (0, 0)) := by simp (disch := first | exact qD13 | fail) only [qG2]
 have hsz := hx1.size
 generalize hw1 : w.alloc (.cells [.bool false, .int .u64 0, .int .u64 0].toArray 24) = w1 at hx1 hc4 hsz
 have hm1 := h.ext hx1 (by simp) (by simp)
 refine place_spec hm1 hn (by omega) (by omega) (fun c1 c2 => ?_) (fun c => absurd ⟨by omega, by omega⟩ c)
 have e1 : ((a : Int) / 4096).toNat = a / 4096 := by omega
 have e2 : (a : Int) % 4096 = ((a % 4096 : Nat) : Int) := by omega
 rw [e1, e2]
 obtain ⟨L, hb, hL⟩ := hm1.body
 have hl := hL.len
 have hsub := hL.sub (p := a / 4096) (by omega)
 have hsub16 := hL.sub16 (p := a / 4096) (o := a % 4096) (by omega) (by omega)
 rw [show a / 4096 * 4096 + a % 4096 = a by omega] at hsub16
 have e16 : ((a % 4096 : Nat) : Int) / 16 = ((a % 4096 / 16 : Nat) : Int) := by omega
 have e3 : (((a % 4096 : Nat) : Int) + 16).toNat = a % 4096 + 16 := by omega
 have l4 := lt_of_at hc4
 have hlq := hm1.lt
 have hbit : (decide (0 <= ((a % 4096 / 16 : Nat) : Int) /\ ((a % 4096 / 16 : Nat) : Int) < 256) && bit (fun j => g (a / 4096 * 4 + j)) ((a % 4096 / 16 : Nat) : Int).toNat) = bit g (a / 16) := by
  rw [decide_eq_true (by omega), Int.toNat_natCast, bit_page (by omega), show a / 4096 * 256 + a % 4096 / 16 = a / 16 by omega]
  rfl
 have hfin : ∀ w5, Ext [] w1 w5 -> K (.tuple #[.agg (capC (bit g (a / 16)) (leN m (a + 8) 8 : Nat) (leN m a 8 : Nat)).toArray, .int .i64 0]) (World.upd w5 w.heap.size (capC (bit g (a / 16)) (leN m (a + 8) 8 : Nat) (leN m a 8 : Nat))) := by
  intro w5 h5
  refine hK _ ?_
  have := hx1.trans h5 (by simp)
  exact qX
 have hleN : leN (fun j => m (a + (8 + j))) 0 8 = leN m (a + 8) 8 := by
  rw [<- leN_shift m (a + 8) 8]
  exact leN_congr fun j _ => by simp [Nat.add_assoc]
 have hleN2 : leN (fun j => m (a + j)) 0 8 = leN m a 8 := leN_shift m a 8
 clear hK hw1
 simp (disch := first | exact qD13 | fail) only [qG2, hb, e16, e3, hsub, hsub16, and_self]
 refine ⟨?_, ?_, ?_⟩
 all_goals refine Get_spec (g := fun j => g (a / 4096 * 4 + j)) (fun j => hm1.word _) fun w3 hx3 => ?_
 all_goals
  rw [hbit]
  have hk3 := kept0 hx3
  have hs3 := hx3.size
  try simp only [szR] at hs3
  simp (disch := first | exact qD13 | fail) only [qG2, hk3, hb, hsub16]
  refine capOf_spec (f := fun j => m (a + j)) (fun j => h.byte _) fun w4 hx4 => ?_
  rw [hleN, hleN2]
  have hk4 := kept0 hx4
  have hs4 := hx4.size
  try simp only [szR] at hs4
  have hxx : Ext [] w1 w4 := ((Ext.refl (w := w1) (S := [])).drew.trans hx3 (by simp)).trans hx4 (by simp)
  have hf := hfin w4 hxx
  simp only [capC] at hf ⊢
  simp (disch := first | exact qD13 | fail) only [qG2, Nat.reduceAdd, hk4, hk3, hc4]
  exact hf
open Go.Fx
theorem qG3 : type_of% (And.intro @gen0 (And.intro (@gen1 Tryz.prog) (And.intro @gen2 (And.intro @rulesC (And.intro @rulesX (And.intro @rulesM (And.intro @litR (And.intro @bolR (And.intro (@numR Tryz.prog) (And.intro (@memR Tryz.prog) (And.intro @valR (And.intro @heapR (And.intro @updR (And.intro @intR (And.intro @decR (And.intro (@extR Tryz.prog) (And.intro (@slR Tryz.prog) (And.intro @segR (And.intro @thenR ((@pnR Tryz.prog))))))))))))))))))))) := ⟨@gen0, (@gen1 Tryz.prog), @gen2, @rulesC, @rulesX, @rulesM, @litR, @bolR, (@numR Tryz.prog), (@memR Tryz.prog), @valR, @heapR, @updR, @intR, @decR, (@extR Tryz.prog), (@slR Tryz.prog), @segR, @thenR, (@pnR Tryz.prog)⟩
set_option maxRecDepth 100000
theorem sub_left {A B : List Value} {o n : Nat} (h : o + n <= A.length) : sub (A ++ B) o n = sub A o n := by
 unfold sub
 rw [List.drop_append_of_le_length (by omega), List.take_append_of_le_length (by rw [List.length_drop]; omega)]
theorem sub_right {A B : List Value} {o n k : Nat} (h : o = A.length + k) : sub (A ++ B) o n = sub B k n := by
 unfold sub
 rw [h, List.drop_append, List.drop_of_length_le (by omega), List.nil_append, Nat.add_sub_cancel_left]
theorem sub_whole {A : List Value} {n : Nat} (h : n = A.length) : sub A 0 n = A := by
 unfold sub
 rw [List.drop_zero, List.take_of_length_le (by omega)]
theorem splice_left {A B V : List Value} {o : Nat} (h : o + V.length <= A.length) : splice (A ++ B) o V = splice A o V ++ B := by
 unfold splice
 rw [List.take_append_of_le_length (by omega), List.drop_append_of_le_length (by omega)]
 simp only [List.append_assoc]
theorem splice_right {A B V : List Value} {o k : Nat} (h : o = A.length + k) : splice (A ++ B) o V = A ++ splice B k V := by
 unfold splice
 rw [h, List.take_append, List.drop_append, List.take_of_length_le (by omega), List.drop_of_length_le (l := A) (by omega), List.nil_append, Nat.add_sub_cancel_left, show A.length + k + V.length - A.length = k + V.length by omega]
 simp only [List.append_assoc]
theorem splice_whole {A V : List Value} (h : V.length = A.length) : splice A 0 V = V := by
 unfold splice
 rw [List.take_zero, List.nil_append, List.drop_of_length_le (by omega), List.append_nil]
/-- what came of an instruction. -/
def ouC (k c v : Nat) (i : In) : List Value := [.int .i64 k, .int .i64 c, .int .u64 v] ++ inC i
theorem ouC_len (k c v : Nat) (i : In) : (ouC k c v i).length = 8 := by simp [ouC, inC]
theorem ouC_all (k c v : Nat) (i : In) : (ouC k c v i).all (fun v => v.oneCell') = true := by simp [ouC, inC]; exact ⟨rfl, rfl, rfl, rfl, rfl, rfl, rfl, rfl⟩
theorem ou_sub (k c v : Nat) (i : In) : sub (ouC k c v i) 0 8 = ouC k c v i := rfl
def In.zero : In := ⟨0, 0, 0, 0, 0⟩
theorem ou_over (k c v : Nat) (i : In) : splice [.int .i64 0, .int .i64 0, .int .u64 0, .int .i64 0, .int .i64 0, .int .i64 0, .int .i64 0, .int .i64 0] 0 (ouC k c v i) = ouC k c v i := rfl
theorem ou_put (k c v : Nat) (i : In) : ouC k c v i ++ List.drop (ouC k c v i).length [.int .i64 0, .int .i64 0, .int .u64 0, .int .i64 0, .int .i64 0, .int .i64 0, .int .i64 0, .int .i64 0] = ouC k c v i := by simp [ouC, inC]
/-- an instruction that is run. -/
structure Rn where
 c : Nat -> Cq
 d : Nat -> Cq
 m : Value
 hm : m.oneCell' = true
 i : In
 a : Cq
 b : Cq
def rnC (r : Rn) : List Value := cxC r.c ++ (cxC r.d ++ (r.m :: (inC r.i ++ (cq r.a ++ cq r.b))))
theorem rnC_len (r : Rn) : (rnC r).length = 210 := by
 unfold rnC
 simp only [List.length_append, List.length_cons, cxC_len, inC_len, cq_len]
theorem rnC_all (r : Rn) : (rnC r).all (fun v => v.oneCell') = true := by
 unfold rnC
 rw [List.all_append, List.all_append, List.all_cons, List.all_append, List.all_append, cxC_all, cxC_all, inC_all, cq_all, cq_all, r.hm]
 rfl
theorem rn_c (r : Rn) : sub (rnC r) 0 99 = cxC r.c := by
 unfold rnC
 rw [sub_left (by rw [cxC_len]; omega), sub_whole (by rw [cxC_len])]
theorem rn_d (r : Rn) : sub (rnC r) 99 99 = cxC r.d := by
 unfold rnC
 rw [sub_right (k := 0) (by rw [cxC_len]), sub_left (by rw [cxC_len]; omega), sub_whole (by rw [cxC_len])]
theorem rnC_cons (r : Rn) : rnC r = (cxC r.c ++ (cxC r.d ++ [r.m])) ++ (inC r.i ++ (cq r.a ++ cq r.b)) := by
 unfold rnC
 simp
theorem rn_i (r : Rn) : sub (rnC r) 199 5 = inC r.i := by
 rw [rnC_cons, sub_right (k := 0) (by simp [cxC_len]), sub_left (by rw [inC_len]; omega), sub_whole (by rw [inC_len])]
theorem rn_a (r : Rn) : sub (rnC r) 204 3 = cq r.a := by
 rw [rnC_cons, sub_right (k := 5) (by simp [cxC_len]), sub_right (k := 0) (by rw [inC_len]), sub_left (by rw [cq_len]; omega), sub_whole (by rw [cq_len])]
theorem rn_b (r : Rn) : sub (rnC r) 207 3 = cq r.b := by
 rw [rnC_cons, sub_right (k := 8) (by simp [cxC_len]), sub_right (k := 3) (by rw [inC_len]), sub_right (k := 0) (by rw [cq_len]), sub_whole (by rw [cq_len])]
theorem get_sub {L : List Value} {o n j : Nat} (h : j < n) : L[o + j]? = (sub L o n)[j]? := by
 unfold sub
 rw [List.getElem?_take, if_pos h, List.getElem?_drop]
theorem rn_op (r : Rn) : (rnC r)[199]? = some (.int .i64 r.i.op) := by
 rw [get_sub (o := 199) (n := 5) (j := 0) (by omega), rn_i]
 rfl
theorem rn_rd (r : Rn) : (rnC r)[200]? = some (.int .i64 r.i.rd) := by
 rw [get_sub (o := 199) (n := 5) (j := 1) (by omega), rn_i]
 rfl
theorem rn_im (r : Rn) : (rnC r)[203]? = some (.int .i64 r.i.im) := by
 rw [get_sub (o := 199) (n := 5) (j := 4) (by omega), rn_i]
 rfl
theorem rn_aa (r : Rn) : (rnC r)[206]? = some (.int .u64 r.a.a) := by
 rw [get_sub (o := 204) (n := 3) (j := 2) (by omega), rn_a]
 rfl
theorem rn_ba (r : Rn) : (rnC r)[209]? = some (.int .u64 r.b.a) := by
 rw [get_sub (o := 207) (n := 3) (j := 2) (by omega), rn_b]
 rfl
theorem rn_setc (r : Rn) (c : Nat -> Cq) : splice (rnC r) 0 (cxC c) = rnC { r with c := c } := by
 unfold rnC
 rw [splice_left (by rw [cxC_len, cxC_len]; omega), splice_whole (by rw [cxC_len, cxC_len])]
theorem rn_seti (r : Rn) (i : In) : splice (rnC r) 199 (inC i) = rnC { r with i := i } := by
 rw [rnC_cons, rnC_cons, splice_right (k := 0) (by simp [cxC_len]), splice_left (by rw [inC_len, inC_len]; omega), splice_whole (by rw [inC_len, inC_len])]
theorem rn_seta (r : Rn) (a : Cq) : splice (rnC r) 204 (cq a) = rnC { r with a := a } := by
 rw [rnC_cons, rnC_cons, splice_right (k := 5) (by simp [cxC_len]), splice_right (k := 0) (by rw [inC_len]), splice_left (by rw [cq_len, cq_len]; omega), splice_whole (by rw [cq_len, cq_len])]
theorem rn_setb (r : Rn) (b : Cq) : splice (rnC r) 207 (cq b) = rnC { r with b := b } := by
 rw [rnC_cons, rnC_cons, splice_right (k := 8) (by simp [cxC_len]), splice_right (k := 3) (by rw [inC_len]), splice_right (k := 0) (by rw [cq_len]), splice_whole (by rw [cq_len, cq_len])]
/-- a block that is written by one operation, as a whole. -/
theorem relX.one (b : Nat) (o : Obj) {G : (World -> World -> Prop) -> Prop} (h : G fun w w' => Ext [b] w w' /\ ∀ x, w.heap[b]? = some x -> w'.heap[b]? = some x ∨ w'.heap[b]? = some o) : relX G := by
 refine ⟨_, fun _ => ⟨Ext.refl, fun _ h => .inl h⟩, fun a b c h1 h2 => ⟨h1.1.step h2.1, fun x hx => ?_⟩, fun _ _ h => h.1.size, h⟩
 rcases h1.2 x hx with h3 | h3
 ·exact h2.2 x h3
 ·rcases h2.2 o h3 with h4 | h4
  ·exact .inr h4
  ·exact .inr h4
theorem okX.one {b : Nat} {o : Obj} {w : World} {v : Value} : okX (fun w w' => Ext [b] w w' /\ ∀ x, w.heap[b]? = some x -> w'.heap[b]? = some x ∨ w'.heap[b]? = some o) w (fun u _ => u = v) v w := ⟨⟨Ext.refl, fun _ h => .inl h⟩, rfl⟩
theorem qZ14 : type_of% (And.intro @szR (And.intro @cq_len (And.intro @cq_all (And.intro @cxC_len (And.intro @cxC_all (And.intro @inC_len (And.intro @inC_all (And.intro @rnC_len (And.intro @rnC_all (And.intro @ouC_len (@ouC_all))))))))))) := ⟨@szR, @cq_len, @cq_all, @cxC_len, @cxC_all, @inC_len, @inC_all, @rnC_len, @rnC_all, @ouC_len, @ouC_all⟩
theorem qD14 {p : Prop} (h : p := by first | assumption | omega | (simp only [qZ14] <;> omega) | rfl | decide) : p := h
theorem retire_spec {w : World} {q : Nat} {r : Rn} (hr : w.heap[q]? = some (.cells (rnC r).toArray 91 (0, 0))) {K : Value -> World -> Prop} (hK : ∀ w', Ext [] w w' -> K (.tuple #[.agg (cxC r.c).toArray, .agg (ouC 0 0 0 r.i).toArray]) w') : callsK Tryz.prog 96 #[.pointer (some ⟨q, 0, none⟩)] w K := by
 apply F96_ok
 unfold F96
 have l0 := lt_of_at hr
 simp (disch := first | exact qD14 | fail) only [qG3, zeroX_cells]
 have hx0 : Ext [] w ((w.alloc (.cells (cxC zeroX).toArray 42)).alloc (.cells [.int .i64 0, .int .i64 0, .int .u64 0, .int .i64 0, .int .i64 0, .int .i64 0, .int .i64 0, .int .i64 0].toArray 51)).drew := qX
 have g1 : ((w.alloc (.cells (cxC zeroX).toArray 42)).alloc (.cells [.int .i64 0, .int .i64 0, .int .u64 0, .int .i64 0, .int .i64 0, .int .i64 0, .int .i64 0, .int .i64 0].toArray 51)).drew.heap[w.heap.size]? = some (.cells (cxC zeroX).toArray 42 (0, 0)) := (by first | with_reducible rfl | assumption | (simp (disch := first | exact qD14 | fail) only [qG3] <;> rfl))
 have g2 : ((w.alloc (.cells (cxC zeroX).toArray 42)).alloc (.cells [.int .i64 0, .int .i64 0, .int .u64 0, .int .i64 0, .int .i64 0, .int .i64 0, .int .i64 0, .int .i64 0].toArray 51)).drew.heap[w.heap.size + 1]? = some (.cells [.int .i64 0, .int .i64 0, .int .u64 0, .int .i64 0, .int .i64 0, .int .i64 0, .int .i64 0, .int .i64 0].toArray 51 (0, 0)) := (by first | with_reducible rfl | assumption | (simp (disch := first | exact qD14 | fail) only [qG3] <;> rfl))
 have g0 := hx0.at hr (by simp)
 obtain ⟨b1, hb1⟩ : ∃ b1, b1 = w.heap.size := ⟨_, rfl⟩
 have hq : q ≠ b1 := by omega
 rw [<- hb1] at g1 g2 ⊢
 generalize ((w.alloc (.cells (cxC zeroX).toArray 42)).alloc (.cells [.int .i64 0, .int .i64 0, .int .u64 0, .int .i64 0, .int .i64 0, .int .i64 0, .int .i64 0, .int .i64 0].toArray 51)).drew = w1 at *
 refine relX.one b1 (.cells (cxC r.c).toArray 42 (0, 0)) ?_
 refine postX.is (.pointer (some ⟨q, 0, none⟩)) (fun v w2 hR _ => okX.one) ?_
 refine postX.is (.pointer (some ⟨q, 0, none⟩)) (fun v w2 hR hd => by obtain ⟨d1, -⟩ := hd; simp (disch := first | exact qD14 | fail) only [qG3, d1]; exact okX.one) ?_
 refine postX.is (.pointer (some ⟨q, 0, none⟩)) (fun v w2 hR hd => by obtain ⟨d1, -⟩ := hd; simp (disch := first | exact qD14 | fail) only [qG3, d1]; exact okX.one) ?_
 refine postX.is (.agg (cxC r.c).toArray) (fun v w2 hR hd => by
  obtain ⟨d1, -⟩ := hd
  have e := hR.1.at g0 (by simpa using hq)
  simp (disch := first | exact qD14 | fail) only [qG3, d1, e, rn_c]
  exact okX.one) ?_
 refine postX.is (.pointer (some ⟨q, 0, none⟩)) (fun v w2 hR _ => okX.one) ?_
 refine postX.is (.pointer (some ⟨q, 0, none⟩)) (fun v w2 hR hd => by obtain ⟨d1, -⟩ := hd; simp (disch := first | exact qD14 | fail) only [qG3, d1]; exact okX.one) ?_
 refine postX.is (.pointer (some ⟨q, 199, none⟩)) (fun v w2 hR hd => by obtain ⟨d1, -⟩ := hd; simp (disch := first | exact qD14 | fail) only [qG3, d1]; exact okX.one) ?_
 refine postX.is (.agg (inC r.i).toArray) (fun v w2 hR hd => by
  obtain ⟨d1, -⟩ := hd
  have e := hR.1.at g0 (by simpa using hq)
  simp (disch := first | exact qD14 | fail) only [qG3, d1, e, rn_i]
  exact okX.one) ?_
 have hb : ∀ (a0 a1 a2 a3 a4 : Int) (w : World), (Instr.build 51 #[(3, .agg [.int .i64 a0, .int .i64 a1, .int .i64 a2, .int .i64 a3, .int .i64 a4].toArray)]).run Tryz.prog w = .ok (.agg [.int .i64 0, .int .i64 0, .int .u64 0, .int .i64 a0, .int .i64 a1, .int .i64 a2, .int .i64 a3, .int .i64 a4].toArray) w := fun a0 a1 a2 a3 a4 w => run_build w 51 _ _ (by kernel_rfl)
 have hb2 : ∀ (w : World), (Instr.build 51 #[(3, .agg (inC r.i).toArray)]).run Tryz.prog w = .ok (.agg (ouC 0 0 0 r.i).toArray) w := fun w => hb _ _ _ _ _ w
 refine postX.is (.agg (ouC 0 0 0 r.i).toArray) (fun v w2 hR hd => by
  obtain ⟨d1, -⟩ := hd
  simp (disch := first | exact qD14 | fail) only [qG3, d1, hb2]
  exact okX.one) ?_
 have hat : ∀ w2, (Ext [b1] w1 w2 /\ ∀ x, w1.heap[b1]? = some x -> w2.heap[b1]? = some x ∨ w2.heap[b1]? = some (.cells (cxC r.c).toArray 42 (0, 0))) -> ∃ d, w2.heap[b1]? = some (.cells (cxC d).toArray 42 (0, 0)) := by
  intro w2 h
  rcases h.2 _ g1 with h | h
  ·exact ⟨_, h⟩
  ·exact ⟨_, h⟩
 refine postX.intro (fun _ w => w.heap[b1]? = some (.cells (cxC r.c).toArray 42 (0, 0))) (fun _ w w' hR h => by rcases hR.2 _ h with h | h <;> exact h) (fun v w2 hR hd => by
  obtain ⟨-, -, -, d4, -⟩ := hd
  obtain ⟨d, e⟩ := hat w2 hR
  simp (disch := first | exact qD14 | fail) only [qG3, d4, e, cx_over, cx_put]
  have l := lt_of_at e
  have hxe : Ext [b1] w2 (World.upd w2 b1 (cxC r.c)) := qX
  have hue : (World.upd w2 b1 (cxC r.c)).heap[b1]? = some (.cells (cxC r.c).toArray 42 (0, 0)) := upd_at e
  exact okX.mk ⟨hxe, fun x _ => .inr hue⟩ hue) ?_
 intro v w2 hR hd _
 obtain ⟨-, -, -, -, -, -, -, -, d9, ⟨u, h1⟩, -⟩ := hd
 have h2 := hR.1.at g2 (by simp)
 have l1 := lt_of_at h1
 have l2 := lt_of_at h2
 have hx : Ext [] w w2 := hx0.trans hR.1 (by simp [hb1])
 simp (disch := first | exact qD14 | fail) only [qG3, d9, h1, h2, ou_over, ou_put, cx_sub, ou_sub]
 exact hK _ qX
open Go.Fx
set_option maxRecDepth 100000
theorem rn_putc (r : Rn) (c : Nat -> Cq) : cxC c ++ List.drop (cxC c).length (rnC r) = rnC { r with c := c } := by
 rw [<- rn_setc r c]
 unfold splice
 rw [List.take_zero, List.nil_append, Nat.zero_add]
set_option maxHeartbeats 1000000 in
theorem trap_spec {w : World} {q k e va : Nat} {r : Rn} (hr : w.heap[q]? = some (.cells (rnC r).toArray 91 (0, 0))) {K : Value -> World -> Prop} (hK : ∀ w', Ext [] w w' -> K (.tuple #[.agg (cxC r.d).toArray, .agg (ouC k e va r.i).toArray]) w') : callsK Tryz.prog 30 #[.pointer (some ⟨q, 0, none⟩), .int .i64 (k : Nat), .int .i64 (e : Nat), .int .u64 (va : Nat)] w K := by
 apply F30_ok
 unfold F30
 have l0 := lt_of_at hr
 simp (disch := first | exact qD14 | fail) only [qG3, zeroX_cells]
 have hx0 : Ext [] w ((w.alloc (.cells (cxC zeroX).toArray 42)).alloc (.cells [.int .i64 0, .int .i64 0, .int .u64 0, .int .i64 0, .int .i64 0, .int .i64 0, .int .i64 0, .int .i64 0].toArray 51)).drew := qX
 have g1 : ((w.alloc (.cells (cxC zeroX).toArray 42)).alloc (.cells [.int .i64 0, .int .i64 0, .int .u64 0, .int .i64 0, .int .i64 0, .int .i64 0, .int .i64 0, .int .i64 0].toArray 51)).drew.heap[w.heap.size]? = some (.cells (cxC zeroX).toArray 42 (0, 0)) := (by first | with_reducible rfl | assumption | (simp (disch := first | exact qD14 | fail) only [qG3] <;> rfl))
 have g2 : ((w.alloc (.cells (cxC zeroX).toArray 42)).alloc (.cells [.int .i64 0, .int .i64 0, .int .u64 0, .int .i64 0, .int .i64 0, .int .i64 0, .int .i64 0, .int .i64 0].toArray 51)).drew.heap[w.heap.size + 1]? = some (.cells [.int .i64 0, .int .i64 0, .int .u64 0, .int .i64 0, .int .i64 0, .int .i64 0, .int .i64 0, .int .i64 0].toArray 51 (0, 0)) := (by first | with_reducible rfl | assumption | (simp (disch := first | exact qD14 | fail) only [qG3] <;> rfl))
 have g0 := hx0.at hr (by simp)
 obtain ⟨b1, hb1⟩ : ∃ b1, b1 = w.heap.size := ⟨_, rfl⟩
 have hq : q ≠ b1 := by omega
 rw [<- hb1] at g1 g2 ⊢
 generalize ((w.alloc (.cells (cxC zeroX).toArray 42)).alloc (.cells [.int .i64 0, .int .i64 0, .int .u64 0, .int .i64 0, .int .i64 0, .int .i64 0, .int .i64 0, .int .i64 0].toArray 51)).drew = w1 at *
 refine relX.one b1 (.cells (cxC r.d).toArray 42 (0, 0)) ?_
 refine postX.is (.pointer (some ⟨q, 0, none⟩)) (fun v w2 hR _ => okX.one) ?_
 refine postX.is (.pointer (some ⟨q, 0, none⟩)) (fun v w2 hR hd => by
  obtain ⟨d1, -⟩ := hd
  simp (disch := first | exact qD14 | fail) only [qG3, d1]
  exact okX.one) ?_
 refine postX.is (.pointer (some ⟨q, 99, none⟩)) (fun v w2 hR hd => by
  obtain ⟨d1, -⟩ := hd
  simp (disch := first | exact qD14 | fail) only [qG3, d1]
  exact okX.one) ?_
 refine postX.is (.agg (cxC r.d).toArray) (fun v w2 hR hd => by
  obtain ⟨d1, -⟩ := hd
  have e := hR.1.at g0 (by simpa using hq)
  simp (disch := first | exact qD14 | fail) only [qG3, d1, e, rn_d]
  exact okX.one) ?_
 refine postX.is (.int .i64 (k : Nat)) (fun v w2 hR _ => okX.one) ?_
 refine postX.is (.int .i64 (e : Nat)) (fun v w2 hR _ => okX.one) ?_
 refine postX.is (.int .u64 (va : Nat)) (fun v w2 hR _ => okX.one) ?_
 refine postX.is (.pointer (some ⟨q, 0, none⟩)) (fun v w2 hR _ => okX.one) ?_
 refine postX.is (.pointer (some ⟨q, 0, none⟩)) (fun v w2 hR hd => by
  obtain ⟨d1, -⟩ := hd
  simp (disch := first | exact qD14 | fail) only [qG3, d1]
  exact okX.one) ?_
 refine postX.is (.pointer (some ⟨q, 199, none⟩)) (fun v w2 hR hd => by
  obtain ⟨d1, -⟩ := hd
  simp (disch := first | exact qD14 | fail) only [qG3, d1]
  exact okX.one) ?_
 refine postX.is (.agg (inC r.i).toArray) (fun v w2 hR hd => by
  obtain ⟨d1, -⟩ := hd
  have e := hR.1.at g0 (by simpa using hq)
  simp (disch := first | exact qD14 | fail) only [qG3, d1, e, rn_i]
  exact okX.one) ?_
 have hb : ∀ (x y z a0 a1 a2 a3 a4 : Int) (w : World), (Instr.build 51 #[(0, .int .i64 x), (1, .int .i64 y), (2, .int .u64 z), (3, .agg [.int .i64 a0, .int .i64 a1, .int .i64 a2, .int .i64 a3, .int .i64 a4].toArray)]).run Tryz.prog w = .ok (.agg [.int .i64 x, .int .i64 y, .int .u64 z, .int .i64 a0, .int .i64 a1, .int .i64 a2, .int .i64 a3, .int .i64 a4].toArray) w := fun x y z a0 a1 a2 a3 a4 w => run_build w 51 _ _ (by kernel_rfl)
 have hb2 : ∀ (w : World), (Instr.build 51 #[(0, .int .i64 (k : Nat)), (1, .int .i64 (e : Nat)), (2, .int .u64 (va : Nat)), (3, .agg (inC r.i).toArray)]).run Tryz.prog w = .ok (.agg (ouC k e va r.i).toArray) w := fun w => hb _ _ _ _ _ _ _ _ w
 refine postX.is (.agg (ouC k e va r.i).toArray) (fun v w2 hR hd => by
  obtain ⟨d1, d2, d3, d4, -⟩ := hd
  simp (disch := first | exact qD14 | fail) only [qG3, d1, d2, d3, d4, hb2]
  exact okX.one) ?_
 refine postX.intro (fun _ w => w.heap[b1]? = some (.cells (cxC r.d).toArray 42 (0, 0))) (fun _ w w' hR h => by rcases hR.2 _ h with h | h <;> exact h) (fun v w2 hR hd => by
  obtain ⟨-, -, -, d4, -⟩ := hd
  obtain ⟨d, e⟩ : ∃ d, w2.heap[b1]? = some (.cells (cxC d).toArray 42 (0, 0)) := by
   rcases hR.2 _ g1 with h | h
   ·exact ⟨_, h⟩
   ·exact ⟨_, h⟩
  simp (disch := first | exact qD14 | fail) only [qG3, d4, e, cx_over, cx_put]
  have l := lt_of_at e
  have hxe : Ext [b1] w2 (World.upd w2 b1 (cxC r.d)) := qX
  have hue : (World.upd w2 b1 (cxC r.d)).heap[b1]? = some (.cells (cxC r.d).toArray 42 (0, 0)) := upd_at e
  exact okX.mk ⟨hxe, fun x _ => .inr hue⟩ hue) ?_
 intro v w2 hR hd _
 obtain ⟨-, -, -, -, -, -, -, -, -, -, -, d9, ⟨u, h1⟩, -⟩ := hd
 have h2 := hR.1.at g2 (by simp)
 have l1 := lt_of_at h1
 have l2 := lt_of_at h2
 have hx : Ext [] w w2 := hx0.trans hR.1 (by simp [hb1])
 simp (disch := first | exact qD14 | fail) only [qG3, d9, h1, h2, ou_over, ou_put, cx_sub, ou_sub]
 exact hK _ qX
theorem tell_spec {w : World} {q : Nat} {r : Rn} {x : Cq} (hr : w.heap[q]? = some (.cells (rnC r).toArray 91 (0, 0))) (hrd : r.i.rd < 9223372036854775808) {K : Value -> World -> Prop} (hK : ∀ w', Ext [q] w w' -> K (.tuple #[.agg (cxC (withX r.c r.i.rd x)).toArray, .agg (ouC 0 0 0 r.i).toArray]) w') : callsK Tryz.prog 74 #[.pointer (some ⟨q, 0, none⟩), .agg (cq x).toArray] w K := by
 apply F74_ok
 unfold F74
 have l0 := lt_of_at hr
 simp (disch := first | exact qD14 | fail) only [qG3, zeroX_cells]
 refine joinL.intro fun J hJ => ?_
 simp (disch := first | exact qD14 | fail) only [qG3]
 have hx0 : Ext [] w (((w.alloc (.cells (cq x).toArray 24)).alloc (.cells (cxC zeroX).toArray 42)).alloc (.cells [.int .i64 0, .int .i64 0, .int .u64 0, .int .i64 0, .int .i64 0, .int .i64 0, .int .i64 0, .int .i64 0].toArray 51)).drew := qX
 have g3 : (((w.alloc (.cells (cq x).toArray 24)).alloc (.cells (cxC zeroX).toArray 42)).alloc (.cells [.int .i64 0, .int .i64 0, .int .u64 0, .int .i64 0, .int .i64 0, .int .i64 0, .int .i64 0, .int .i64 0].toArray 51)).drew.heap[w.heap.size]? = some (.cells (cq x).toArray 24 (0, 0)) := (by first | with_reducible rfl | assumption | (simp (disch := first | exact qD14 | fail) only [qG3] <;> rfl))
 have g1 : (((w.alloc (.cells (cq x).toArray 24)).alloc (.cells (cxC zeroX).toArray 42)).alloc (.cells [.int .i64 0, .int .i64 0, .int .u64 0, .int .i64 0, .int .i64 0, .int .i64 0, .int .i64 0, .int .i64 0].toArray 51)).drew.heap[w.heap.size + 1]? = some (.cells (cxC zeroX).toArray 42 (0, 0)) := (by first | with_reducible rfl | assumption | (simp (disch := first | exact qD14 | fail) only [qG3] <;> rfl))
 have g2 : (((w.alloc (.cells (cq x).toArray 24)).alloc (.cells (cxC zeroX).toArray 42)).alloc (.cells [.int .i64 0, .int .i64 0, .int .u64 0, .int .i64 0, .int .i64 0, .int .i64 0, .int .i64 0, .int .i64 0].toArray 51)).drew.heap[w.heap.size + 2]? = some (.cells [.int .i64 0, .int .i64 0, .int .u64 0, .int .i64 0, .int .i64 0, .int .i64 0, .int .i64 0, .int .i64 0].toArray 51 (0, 0)) := (by first | with_reducible rfl | assumption | (simp (disch := first | exact qD14 | fail) only [qG3] <;> rfl))
 have g0 := hx0.at hr (by simp)
 obtain ⟨b1, hb1⟩ : ∃ b1, b1 = w.heap.size := ⟨_, rfl⟩
 rw [<- hb1] at g1 g2 g3 hJ ⊢
 generalize (((w.alloc (.cells (cq x).toArray 24)).alloc (.cells (cxC zeroX).toArray 42)).alloc (.cells [.int .i64 0, .int .i64 0, .int .u64 0, .int .i64 0, .int .i64 0, .int .i64 0, .int .i64 0, .int .i64 0].toArray 51)).drew = w1 at *
 refine relX.ext [] ?_
 refine postX.is (.pointer (some ⟨q, 0, none⟩)) (fun v w2 hR _ => okX.is) ?_
 refine postX.is (.pointer (some ⟨q, 0, none⟩)) (fun v w2 hR _ => okX.is) ?_
 refine postX.is (.pointer (some ⟨q, 0, none⟩)) (fun v w2 hR hd => by
  obtain ⟨d1, -⟩ := hd
  simp (disch := first | exact qD14 | fail) only [qG3, d1]
  exact okX.is) ?_
 refine postX.is (.pointer (some ⟨q, 0, none⟩)) (fun v w2 hR hd => by
  obtain ⟨d1, -⟩ := hd
  simp (disch := first | exact qD14 | fail) only [qG3, d1]
  exact okX.is) ?_
 refine postX.is (.agg (cxC r.c).toArray) (fun v w2 hR hd => by
  obtain ⟨d1, -⟩ := hd
  have e := hR.at g0 (by simp)
  simp (disch := first | exact qD14 | fail) only [qG3, d1, e, rn_c]
  exact okX.is) ?_
 refine postX.is (.pointer (some ⟨q, 0, none⟩)) (fun v w2 hR _ => okX.is) ?_
 refine postX.is (.pointer (some ⟨q, 0, none⟩)) (fun v w2 hR hd => by
  obtain ⟨d1, -⟩ := hd
  simp (disch := first | exact qD14 | fail) only [qG3, d1]
  exact okX.is) ?_
 refine postX.is (.pointer (some ⟨q, 199, none⟩)) (fun v w2 hR hd => by
  obtain ⟨d1, -⟩ := hd
  simp (disch := first | exact qD14 | fail) only [qG3, d1]
  exact okX.is) ?_
 refine postX.is (.pointer (some ⟨q, 200, none⟩)) (fun v w2 hR hd => by
  obtain ⟨d1, -⟩ := hd
  simp (disch := first | exact qD14 | fail) only [qG3, Nat.reduceAdd, d1]
  exact okX.is) ?_
 refine postX.is (.int .i64 (r.i.rd : Nat)) (fun v w2 hR hd => by
  obtain ⟨d1, -⟩ := hd
  have e := hR.at g0 (by simp)
  simp (disch := first | exact qD14 | fail) only [qG3, d1, e, rn_rd]
  exact okX.is) ?_
 refine postX.is (.agg (cq x).toArray) (fun v w2 hR hd => by
  have e := hR.at g3 (by simp)
  simp (disch := first | exact qD14 | fail) only [qG3, e, cq_sub]
  exact okX.is) ?_
 refine postX.is (.agg (cxC (withX r.c r.i.rd x)).toArray) (fun v w2 hR hd => by
  obtain ⟨d1, d2, d3, -⟩ := hd
  simp (disch := first | exact qD14 | fail) only [qG3, d1, d2, d3]
  refine With_reg hrd fun w3 hx3 => okX.mk hx3 rfl) ?_
 intro v w2 hR hd _
 obtain ⟨d1, -, -, -, -, -, -, -, -, -, -, d12, -⟩ := hd
 have h0 := hR.at g0 (by simp)
 have h1 := hR.at g1 (by simp)
 have h2 := hR.at g2 (by simp)
 have hxa : Ext [] w w2 := hx0.trans hR (by simp)
 have k0 := lt_of_at h0
 simp (disch := first | exact qD14 | fail) only [qG3, d1, d12, h0, rn_setc, rn_putc]
 apply hJ
 intro _
 have m0 : (World.upd w2 q (rnC { r with c := withX r.c r.i.rd x })).heap[q]? = some (.cells (rnC { r with c := withX r.c r.i.rd x }).toArray 91 (0, 0)) := upd_at h0
 have m1 : (World.upd w2 q (rnC { r with c := withX r.c r.i.rd x })).heap[b1 + 1]? = some (.cells (cxC zeroX).toArray 42 (0, 0)) := (upd_ne (by omega)).trans h1
 have m2 : (World.upd w2 q (rnC { r with c := withX r.c r.i.rd x })).heap[b1 + 2]? = some (.cells [.int .i64 0, .int .i64 0, .int .u64 0, .int .i64 0, .int .i64 0, .int .i64 0, .int .i64 0, .int .i64 0].toArray 51 (0, 0)) := (upd_ne (by omega)).trans h2
 have hxb : Ext [q] w (World.upd w2 q (rnC { r with c := withX r.c r.i.rd x })) := by
  have := hxa.mono (T := [q]) (by simp)
  exact qX
 refine retire_spec m0 fun w3 hx3 => ?_
 have n1 := hx3.at m1 (by simp)
 have n2 := hx3.at m2 (by simp)
 have ln1 := lt_of_at n1
 have ln2 := lt_of_at n2
 have hxc := hxb.trans hx3 (by simp)
 have hb1w : w.heap.size <= b1 := by omega
 simp (disch := first | exact qD14 | fail) only [qG3, n1, n2, cx_over, cx_put, ou_over, ou_put, cx_sub, ou_sub]
 exact hK _ qX
theorem num_spec {w : World} {q n : Nat} {r : Rn} (hr : w.heap[q]? = some (.cells (rnC r).toArray 91 (0, 0))) (hrd : r.i.rd < 9223372036854775808) {K : Value -> World -> Prop} (hK : ∀ w', Ext [q] w w' -> K (.tuple #[.agg (cxC (withX r.c r.i.rd ⟨false, 0, n⟩)).toArray, .agg (ouC 0 0 0 r.i).toArray]) w') : callsK Tryz.prog 77 #[.pointer (some ⟨q, 0, none⟩), .int .u64 (n : Nat)] w K := by
 apply F77_ok
 unfold F77
 have l0 := lt_of_at hr
 simp (disch := first | exact qD14 | fail) only [qG3, zeroX_cells]
 have hx0 : Ext [] w ((w.alloc (.cells (cxC zeroX).toArray 42)).alloc (.cells [.int .i64 0, .int .i64 0, .int .u64 0, .int .i64 0, .int .i64 0, .int .i64 0, .int .i64 0, .int .i64 0].toArray 51)) := qX
 have g1 : ((w.alloc (.cells (cxC zeroX).toArray 42)).alloc (.cells [.int .i64 0, .int .i64 0, .int .u64 0, .int .i64 0, .int .i64 0, .int .i64 0, .int .i64 0, .int .i64 0].toArray 51)).heap[w.heap.size]? = some (.cells (cxC zeroX).toArray 42 (0, 0)) := (by first | with_reducible rfl | assumption | (simp (disch := first | exact qD14 | fail) only [qG3] <;> rfl))
 have g2 : ((w.alloc (.cells (cxC zeroX).toArray 42)).alloc (.cells [.int .i64 0, .int .i64 0, .int .u64 0, .int .i64 0, .int .i64 0, .int .i64 0, .int .i64 0, .int .i64 0].toArray 51)).heap[w.heap.size + 1]? = some (.cells [.int .i64 0, .int .i64 0, .int .u64 0, .int .i64 0, .int .i64 0, .int .i64 0, .int .i64 0, .int .i64 0].toArray 51 (0, 0)) := (by first | with_reducible rfl | assumption | (simp (disch := first | exact qD14 | fail) only [qG3] <;> rfl))
 have g0 := hx0.at hr (by simp)
 refine Null_spec fun w1 hx1 => ?_
 have hxa := hx0.trans hx1 (by simp)
 have k0 := hx1.at g0 (by simp)
 have k1 := hx1.at g1 (by simp)
 have k2 := hx1.at g2 (by simp)
 simp (disch := first | exact qD14 | fail) only [qG3]
 refine tell_spec (x := ⟨false, 0, n⟩) k0 hrd fun w2 hx2 => ?_
 have n1 := hx2.at k1 (by simp; omega)
 have n2 := hx2.at k2 (by simp; omega)
 have ln1 := lt_of_at n1
 have ln2 := lt_of_at n2
 have hxc : Ext [q] w w2 := (hxa.mono (by simp)).step hx2
 simp (disch := first | exact qD14 | fail) only [qG3, n1, n2, cx_over, cx_put, ou_over, ou_put, cx_sub, ou_sub]
 exact hK _ qX
open Go.Fx
set_option maxRecDepth 100000
/-- the value of a memory that is at a block. -/
def flV (rb : Nat) : Value := .iface 55 (.agg [.pointer (some ⟨rb, 0, none⟩)].toArray)
theorem flV_one (rb : Nat) : (flV rb).oneCell' = true := rfl
theorem sN_fl {rb : Nat} {w : World} {K : Value -> Prop} : sN Tryz.prog (nilN (flV rb)) w K = K (flV rb) := by
 simp [sN, nilN, execOp, resS, resSF, flV]
theorem callFetch {v va : Value} {w : World} {K : Value -> World -> Prop} (h : callsK Tryz.prog 158 #[v, va] w K) : kN Tryz.prog (callMethod (.iface 55 v) "Fetch" #[va]) w K := by
 have e : (callMethod (.iface 55 v) "Fetch" #[va]).run Tryz.prog w = .ok (.enter 158 #[v, va]) w := by kernel_rfl
 unfold kN
 rw [e]
 exact h
theorem callLoadCap {v va : Value} {w : World} {K : Value -> World -> Prop} (h : callsK Tryz.prog 160 #[v, va] w K) : kN Tryz.prog (callMethod (.iface 55 v) "LoadCap" #[va]) w K := by
 have e : (callMethod (.iface 55 v) "LoadCap" #[va]).run Tryz.prog w = .ok (.enter 160 #[v, va]) w := by kernel_rfl
 unfold kN
 rw [e]
 exact h
theorem callStoreCap {v va x : Value} {w : World} {K : Value -> World -> Prop} (h : callsK Tryz.prog 162 #[v, va, x] w K) : kN Tryz.prog (callMethod (.iface 55 v) "StoreCap" #[va, x]) w K := by
 have e : (callMethod (.iface 55 v) "StoreCap" #[va, x]).run Tryz.prog w = .ok (.enter 162 #[v, va, x]) w := by kernel_rfl
 unfold kN
 rw [e]
 exact h
theorem wrong_spec {w : World} {K : Value -> World -> Prop} (hK : K (.int .i64 0) w) : callsK Tryz.prog 163 #[.int .i64 0] w K := by
 apply F163_ok
 unfold F163
 simp (disch := first | exact qD14 | fail) only [qG3]
 exact hK
theorem wrong_still {w : World} {K : Value -> Prop} (hK : K (.int .i64 0)) : callsS Tryz.prog 163 #[.int .i64 0] w K := callsS.of _ (wrong_spec ⟨rfl, rfl⟩) hK
theorem Fetch_spec {w : World} {rb pb n a W : Nat} {m g : Nat -> Int} (hM : Mem w rb pb n m g) (hn : 0 < n /\ n <= 1000) (ha : a < n * 4096) (hal : a % 4 = 0) (hW : leN m a 4 = W) {K : Value -> World -> Prop} (hK : ∀ w', Ext [] w w' -> K (.tuple #[.int .u32 (W : Nat), .int .i64 0]) w') :
  callsK Tryz.prog 158 #[.agg [.pointer (some ⟨rb, 0, none⟩)].toArray, .int .u64 (a : Nat)] w K := by
 apply F158_ok
 unfold F158
 simp (disch := first | exact qD14 | fail) only [qG3]
 have hx0 : Ext [] w (w.alloc (.cells [.pointer (some ⟨rb, 0, none⟩)].toArray 55)) := qX
 have hM1 := hM.ext hx0 (by simp) (by simp)
 refine Load_spec hM1 hn ha (.inr (.inr (.inl rfl))) hal fun w1 hx1 => ?_
 have hlt : W < 4294967296 := by
  have := leN_lt hM.byte a 4
  rw [hW] at this
  exact this
 have hw : IntKind.u32.wrap ((W : Nat) : Int) = (W : Nat) := wrap_u32 (by omega)
 rw [hW]
 simp (disch := first | exact qD14 | fail) only [qG3, hw]
 refine wrong_spec ?_
 exact hK _ (hx0.trans hx1 (by simp))
theorem FLoadCap_spec {w : World} {rb pb n a : Nat} {m g : Nat -> Int} (hM : Mem w rb pb n m g) (hn : 0 < n /\ n <= 1000) (ha : a < n * 4096) (hal : a % 16 = 0) {K : Value -> World -> Prop} (hK : ∀ w', Ext [] w w' -> K (.tuple #[.agg (cq ⟨bit g (a / 16), leN m (a + 8) 8, leN m a 8⟩).toArray, .int .i64 0]) w') :
  callsK Tryz.prog 160 #[.agg [.pointer (some ⟨rb, 0, none⟩)].toArray, .int .u64 (a : Nat)] w K := by
 apply F160_ok
 unfold F160
 simp (disch := first | exact qD14 | fail) only [qG3]
 have hx0 : Ext [] w ((w.alloc (.cells [.pointer (some ⟨rb, 0, none⟩)].toArray 55)).alloc (.cells [.bool false, .int .u64 0, .int .u64 0].toArray 24)) := qX
 have g1 : ((w.alloc (.cells [.pointer (some ⟨rb, 0, none⟩)].toArray 55)).alloc (.cells [.bool false, .int .u64 0, .int .u64 0].toArray 24)).heap[w.heap.size + 1]? = some (.cells [.bool false, .int .u64 0, .int .u64 0].toArray 24 (0, 0)) := (by first | with_reducible rfl | assumption | (simp (disch := first | exact qD14 | fail) only [qG3] <;> rfl))
 have hM1 := hM.ext hx0 (by simp) (by simp)
 refine LoadCap_spec hM1 hn ha hal fun w1 hx1 => ?_
 have h1 := hx1.at g1 (by simp)
 have l1 := lt_of_at h1
 have hxa := hx0.trans hx1 (by simp)
 have e : capC (bit g (a / 16)) (leN m (a + 8) 8 : Nat) (leN m a 8 : Nat) = cq ⟨bit g (a / 16), leN m (a + 8) 8, leN m a 8⟩ := rfl
 rw [e]
 generalize (⟨bit g (a / 16), leN m (a + 8) 8, leN m a 8⟩ : Cq) = y at *
 simp (disch := first | exact qD14 | fail) only [qG3, cq_over0, cq_put, cq_sub]
 refine wrong_still ?_
 simp (disch := first | exact qD14 | fail) only [qG3, h1, cq_over0, cq_put, cq_sub]
 exact hK _ qX
theorem FStoreCap_spec {w : World} {rb pb n a : Nat} {y : Cq} {m g : Nat -> Int} (hM : Mem w rb pb n m g) (hn : 0 < n /\ n <= 1000) (ha : a < n * 4096) (hal : a % 16 = 0) (hm : y.m < 18446744073709551616) (hd : y.a < 18446744073709551616) {K : Value -> World -> Prop}
  (hK : ∀ g' w', Mem w' rb pb n (laid m a 16 (capBy (y.m : Nat) (y.a : Nat))) g' -> (∀ x, x < n * 256 -> bit g' x = if x = a / 16 then y.t else bit g x) -> Ext [pb] w w' -> K (.int .i64 0) w') :
  callsK Tryz.prog 162 #[.agg [.pointer (some ⟨rb, 0, none⟩)].toArray, .int .u64 (a : Nat), .agg (cq y).toArray] w K := by
 apply F162_ok
 unfold F162
 simp (disch := first | exact qD14 | fail) only [qG3, cq_sub]
 have hx0 : Ext [] w ((w.alloc (.cells [.pointer (some ⟨rb, 0, none⟩)].toArray 55)).alloc (.cells (cq y).toArray 24)) := qX
 have hM1 := hM.ext hx0 (by simp) (by simp)
 have e : cq y = capC y.t (y.m : Nat) (y.a : Nat) := rfl
 rw [e]
 refine StoreCap_spec hM1 hn ha hal ⟨by omega, by omega⟩ ⟨by omega, by omega⟩ fun g' w1 hM2 hg hx1 => ?_
 simp (disch := first | exact qD14 | fail) only [qG3]
 refine wrong_spec ?_
 exact hK g' w1 hM2 hg ((hx0.mono (by simp)).step hx1)
open Go.Fx
set_option maxRecDepth 100000
theorem fetch_m {rb : Nat} {va : Value} {w : World} {K : Value -> World -> Prop} (hc : callsK Tryz.prog 158 #[.agg [.pointer (some ⟨rb, 0, none⟩)].toArray, va] w K) : kN Tryz.prog (callMethod (flV rb) "Fetch" #[va]) w K := callFetch hc
theorem Mem.neR {w : World} {q rb pb n : Nat} {r : Rn} {m g : Nat -> Int} (h : Mem w rb pb n m g) (hr : w.heap[q]? = some (.cells (rnC r).toArray 91 (0, 0))) : q ≠ pb := by
 rintro rfl
 obtain ⟨L, h1, -⟩ := h.body
 rw [hr] at h1
 simp only [Option.some.injEq, Obj.cells.injEq] at h1
 exact absurd h1.2.1 (by decide)
open Go.Fx
set_option maxRecDepth 100000
open Go.Fx
set_option maxRecDepth 100000
theorem cx_pca (c : Nat -> Cq) : (cxC c)[98]? = some (.int .u64 ((c 32).a : Nat)) := by
 rw [get_sub (o := 96) (n := 3) (j := 2) (by omega), cx_at (k := 32) (by omega)]
 rfl
theorem cx_pcc (c : Nat -> Cq) : sub (cxC c) 96 3 = cq (c 32) := cx_at (k := 32) (by omega)
/-- a region in which fields of an instruction that is run are written: what words say of it stands. -/
def Fld (q : Nat) (ps : List (Rn -> Prop)) (w w' : World) : Prop := Ext [q] w w' /\ ∀ p ∈ ps, (∃ r, p r /\ w.heap[q]? = some (.cells (rnC r).toArray 91 (0, 0))) -> ∃ r, p r /\ w'.heap[q]? = some (.cells (rnC r).toArray 91 (0, 0))
theorem Fld.refl {q : Nat} {ps : List (Rn -> Prop)} {w : World} : Fld q ps w w := ⟨Ext.refl, fun _ _ h => h⟩
theorem Fld.of {q : Nat} {ps : List (Rn -> Prop)} {w w' : World} (h : Ext [] w w') : Fld q ps w w' := ⟨h.mono (by simp), fun _ _ ⟨r, h1, h2⟩ => ⟨r, h1, h.at h2 (by simp)⟩⟩
theorem relX.fld (q : Nat) (ps : List (Rn -> Prop)) {G : (World -> World -> Prop) -> Prop} (h : G (Fld q ps)) : relX G :=
 ⟨Fld q ps, fun _ => Fld.refl, fun _ _ _ h1 h2 => ⟨h1.1.step h2.1, fun p hp hw => h2.2 p hp (h1.2 p hp hw)⟩, fun _ _ h => h.1.size, h⟩
theorem okX.fld {q : Nat} {ps : List (Rn -> Prop)} {w : World} {v : Value} : okX (Fld q ps) w (fun u _ => u = v) v w := ⟨Fld.refl, rfl⟩
theorem Fld.set {q : Nat} {ps : List (Rn -> Prop)} {w w' : World} (f : Rn -> Rn) (hf : ∀ r r', rnC r = rnC r' -> rnC (f r) = rnC (f r')) (hx : Ext [q] w w') {r : Rn} (h : w.heap[q]? = some (.cells (rnC r).toArray 91 (0, 0))) (h' : w'.heap[q]? = some (.cells (rnC (f r)).toArray 91 (0, 0))) (hp : ∀ p ∈ ps, ∀ r, p r -> p (f r)) : Fld q ps w w' :=
 ⟨hx, fun p hm ⟨r', h1, h2⟩ => ⟨f r', hp p hm r' h1, by
  rw [h] at h2
  simp only [Option.some.injEq, Obj.cells.injEq, List.toArray_inj] at h2
  rw [h', hf r r' (by simpa using h2)]⟩⟩
theorem Fld.has {q : Nat} {ps : List (Rn -> Prop)} {w w' : World} (h : Fld q ps w w') {p : Rn -> Prop} (hm : p ∈ ps) {r : Rn} (hr : p r) (hw : w.heap[q]? = some (.cells (rnC r).toArray 91 (0, 0))) : ∃ r, p r /\ w'.heap[q]? = some (.cells (rnC r).toArray 91 (0, 0)) := h.2 p hm ⟨r, hr, hw⟩
theorem rn_i_inj {i : In} (r r' : Rn) (h : rnC r = rnC r') : rnC { r with i := i } = rnC { r' with i := i } := (rn_seti r i).symm.trans ((congrArg (fun l => splice l 199 (inC i)) h).trans (rn_seti r' i))
theorem rn_a_inj {x : Cq} (r r' : Rn) (h : rnC r = rnC r') : rnC { r with a := x } = rnC { r' with a := x } := (rn_seta r x).symm.trans ((congrArg (fun l => splice l 204 (cq x)) h).trans (rn_seta r' x))
theorem in_put (i : In) : inC i ++ List.drop (inC i).length [.int .i64 0, .int .i64 0, .int .i64 0, .int .i64 0, .int .i64 0] = inC i := by simp [inC]
theorem in_r1 (i : In) : (inC i)[2]? = some (.int .i64 (i.r1 : Nat)) := rfl
theorem in_r2 (i : In) : (inC i)[3]? = some (.int .i64 (i.r2 : Nat)) := rfl
theorem qZ15 : type_of% (And.intro @szR (And.intro @cq_len (And.intro @cq_all (And.intro @cxC_len (And.intro @cxC_all (And.intro @inC_len (And.intro @inC_all (And.intro @rnC_len (And.intro @rnC_all (And.intro @ouC_len (And.intro @ouC_all (And.intro @vwC_len (@vwC_all))))))))))))) := ⟨@szR, @cq_len, @cq_all, @cxC_len, @cxC_all, @inC_len, @inC_all, @rnC_len, @rnC_all, @ouC_len, @ouC_all, @vwC_len, @vwC_all⟩
theorem qD15 {p : Prop} (h : p := by first | assumption | omega | (simp only [qZ15] <;> omega) | rfl | decide) : p := h
set_option maxHeartbeats 1000000 in
theorem Step_spec {w : World} {rb pb n W k e va : Nat} {c d : Nat -> Cq} {i : In} {m g m' : Nat -> Int} {Q : (Nat -> Int) -> Prop} (hM : Mem w rb pb n m g) (hn : 0 < n /\ n <= 1000) (hcm : (c 32).m < 18446744073709551616) (ha : (c 32).a < n * 4096) (hsB : spB (spM (c 32).m (c 32).a) < 18446744073709551616) (hsT : spT (spM (c 32).m (c 32).a) < 18446744073709551616) (hchk : chkN (c 32).t (c 32).m (c 32).a 0 4 = 0) (hal : (c 32).a % 4 = 0) (hW : leN m (c 32).a 4 = W)
  (h1 : i.r1 < 9223372036854775808) (h2 : i.r2 < 9223372036854775808)
  (hD : ∀ (w : World) (K : Value -> World -> Prop), (∀ w', Ext [] w w' -> K (.tuple #[.agg (inC i).toArray, .bool true]) w') -> callsK Tryz.prog 31 #[.int .u32 (W : Nat)] w K)
  (hrun : ∀ (q : Nat) (w1 : World) (K : Value -> World -> Prop), w1.heap[q]? = some (.cells (rnC ⟨nextX c, c, flV rb, flV_one rb, i, regX c i.r1, regX c i.r2⟩).toArray 91 (0, 0)) -> Mem w1 rb pb n m g -> (∀ g' w2, Q g' -> Mem w2 rb pb n m' g' -> Ext [q, pb] w1 w2 -> K (.tuple #[.agg (cxC d).toArray, .agg (ouC k e va i).toArray]) w2) -> callsK Tryz.prog 32 #[.pointer (some ⟨q, 0, none⟩)] w1 K)
  {K : Value -> World -> Prop} (hK : ∀ g' w', Q g' -> Mem w' rb pb n m' g' -> Ext [pb] w w' -> K (.tuple #[.agg (cxC d).toArray, .agg (ouC k e va i).toArray]) w') :
  callsK Tryz.prog 10 #[.agg (cxC c).toArray, flV rb] w K := by
 apply F10_ok
 unfold F10
 have lM := hM.lt
 simp (disch := first | exact qD15 | fail) only [qG3, Nat.reduceAdd, zeroX_cells, cx_sub, cx_pca]
 refine joinL.intro fun J0 hJ0 => ?_
 simp (disch := first | exact qD15 | fail) only [qG3]
 have hx0 : Ext [] w (((w.alloc (.cells (cxC c).toArray 42)).alloc (.cells (cxC zeroX).toArray 42)).alloc (.cells [.int .i64 0, .int .i64 0, .int .u64 0, .int .i64 0, .int .i64 0, .int .i64 0, .int .i64 0, .int .i64 0].toArray 51)).drew := qX
 have g0 : (((w.alloc (.cells (cxC c).toArray 42)).alloc (.cells (cxC zeroX).toArray 42)).alloc (.cells [.int .i64 0, .int .i64 0, .int .u64 0, .int .i64 0, .int .i64 0, .int .i64 0, .int .i64 0, .int .i64 0].toArray 51)).drew.heap[w.heap.size]? = some (.cells (cxC c).toArray 42 (0, 0)) := (by first | with_reducible rfl | assumption | (simp (disch := first | exact qD15 | fail) only [qG3] <;> rfl))
 have g1 : (((w.alloc (.cells (cxC c).toArray 42)).alloc (.cells (cxC zeroX).toArray 42)).alloc (.cells [.int .i64 0, .int .i64 0, .int .u64 0, .int .i64 0, .int .i64 0, .int .i64 0, .int .i64 0, .int .i64 0].toArray 51)).drew.heap[w.heap.size + 1]? = some (.cells (cxC zeroX).toArray 42 (0, 0)) := (by first | with_reducible rfl | assumption | (simp (disch := first | exact qD15 | fail) only [qG3] <;> rfl))
 have g2 : (((w.alloc (.cells (cxC c).toArray 42)).alloc (.cells (cxC zeroX).toArray 42)).alloc (.cells [.int .i64 0, .int .i64 0, .int .u64 0, .int .i64 0, .int .i64 0, .int .i64 0, .int .i64 0, .int .i64 0].toArray 51)).drew.heap[w.heap.size + 1 + 1]? = some (.cells [.int .i64 0, .int .i64 0, .int .u64 0, .int .i64 0, .int .i64 0, .int .i64 0, .int .i64 0, .int .i64 0].toArray 51 (0, 0)) := (by first | with_reducible rfl | assumption | (simp (disch := first | exact qD15 | fail) only [qG3] <;> rfl))
 have hM1 := hM.ext hx0 (by simp) (by simp)
 obtain ⟨b0, hb0⟩ : ∃ b0, b0 = w.heap.size := ⟨_, rfl⟩
 rw [<- hb0] at g0 g1 g2 hJ0 ⊢
 generalize (((w.alloc (.cells (cxC c).toArray 42)).alloc (.cells (cxC zeroX).toArray 42)).alloc (.cells [.int .i64 0, .int .i64 0, .int .u64 0, .int .i64 0, .int .i64 0, .int .i64 0, .int .i64 0, .int .i64 0].toArray 51)).drew = w1 at *
 refine relX.ext [] ?_
 (apply postX.is; (focus (intro v w2 hR hd; have e0 := hR.at g0 (by simp); (try simp (disch := first | exact qD15 | fail) only [qG3, hd, e0, cx_sub]); exact okX.is)))
 apply postX.is
 ·intro v w2 hR hd
  simp (disch := first | exact qD15 | fail) only [qG3, hd]
  refine Next_spec hcm (by omega) fun w3 hx3 => okX.mk hx3 rfl
 (apply postX.is; (focus (intro v w2 hR hd; have e0 := hR.at g0 (by simp); (try simp (disch := first | exact qD15 | fail) only [qG3, hd, e0, cx_sub]); exact okX.is)))
 (apply postX.is; (focus (intro v w2 hR hd; (try simp (disch := first | exact qD15 | fail) only [qG3, Nat.reduceAdd, Nat.reduceLeDiff, Int.reduceToNat, Int.reduceAdd, Int.reduceSub, Int.reduceLT, Int.reduceLE, Nat.reduceSub, Nat.reduceMul, Nat.reduceEqDiff, hd]); exact okX.is)))
 intro v w2 hR hd _
 have hb : ∀ (w : World), (Instr.build 91 #[(0, .agg (cxC (nextX c)).toArray), (1, .agg (cxC c).toArray), (2, flV rb)]).run Tryz.prog w = .ok (.agg (rnC ⟨nextX c, c, flV rb, flV_one rb, In.zero, Cq.zero, Cq.zero⟩).toArray) w := by
  generalize nextX c = d
  exact fun w => run_build w 91 _ _ (by kernel_rfl)
 have rsub : ∀ r : Rn, sub (rnC r) 0 210 = rnC r := fun r => sub_whole (by rw [rnC_len])
 have k0 := hR.at g0 (by simp)
 have k1 := hR.at g1 (by simp)
 have k2 := hR.at g2 (by simp)
 have kM := hM1.ext hR (by simp) (by simp)
 have hxa := hx0.trans hR (by simp)
 have lk0 := lt_of_at k0
 have lk1 := lt_of_at k1
 have lk2 := lt_of_at k2
 have lkM := kM.lt
 simp (disch := first | exact qD15 | fail) only [qG3, hd, hb, rsub]
 have hsw := hx0.size
 clear hR hd hM1 g0 g1 g2 hx0
 apply hJ0
 intro _
 simp (disch := first | exact qD15 | fail) only [qG3, k0, cx_pcc]
 refine Check_spec (t := (c 32).t) (m := (c 32).m) (a := (c 32).a) (k := 0) (n := 4) hcm (by omega) (by omega) (by omega) (by omega) hsB hsT fun w3 hx3 => ?_
 have hrem : (((c 32).a : Nat) : Int) % 4 = 0 := by omega
 have hxb : Ext [] w2 w3 := Ext.trans (S := []) qX hx3 (by simp)
 have kq : w3.heap[w2.heap.size]? = some (.cells (rnC ⟨nextX c, c, flV rb, flV_one rb, In.zero, Cq.zero, Cq.zero⟩).toArray 91 (0, 0)) := hx3.at (alloc_at rfl) (by simp)
 obtain ⟨q, hq⟩ : ∃ q, q = w2.heap.size := ⟨_, rfl⟩
 rw [<- hq] at kq
 have hqb : q ≠ b0 /\ q ≠ b0 + 1 /\ q ≠ b0 + 1 + 1 /\ rb ≠ q /\ pb ≠ q := by omega
 obtain ⟨hq0, hq1, hq2, hqr, hqp⟩ := hqb
 have hlq : w.heap.size <= q := by have := hxa.size; omega
 rw [hchk]
 simp (disch := first | exact qD15 | fail) only [qG3, hrem]
 refine fetch_m (Fetch_spec (kM.ext hxb (by simp) (by simp)) hn ha hal hW fun w4 hx4 => ?_)
 simp (disch := first | exact qD15 | fail) only [qG3]
 refine hD _ _ fun w5 hx5 => ?_
 have hxc : Ext [] w2 w5 := (hxb.trans hx4 (by simp)).trans hx5 (by simp)
 replace k0 := hxc.at k0 (by simp)
 replace k1 := hxc.at k1 (by simp)
 replace k2 := hxc.at k2 (by simp)
 replace kM := kM.ext hxc (by simp) (by simp)
 replace kq := (hx4.trans hx5 (by simp)).at kq (by simp)
 replace hxa := hxa.trans hxc (by simp)
 replace lk0 := lt_of_at k0
 replace lk1 := lt_of_at k1
 replace lk2 := lt_of_at k2
 have lkq := lt_of_at kq
 replace lkM := kM.lt
 simp (disch := first | exact qD15 | fail) only [qG3, Bool.not_true]
 refine joinL.intro fun J10 hJ10 => ?_
 simp (disch := first | exact qD15 | fail) only [qG3, in_put, List.getD_cons_zero]
 rw [<- hq]
 obtain ⟨b4, hb4⟩ : ∃ b4, b4 = w5.heap.size := ⟨_, rfl⟩
 have hxd : Ext [] w5 (w5.alloc (.cells (inC i).toArray 49)).drew := qX
 have m4 : (w5.alloc (.cells (inC i).toArray 49)).drew.heap[b4]? = some (.cells (inC i).toArray 49 (0, 0)) := alloc_at hb4
 rw [<- hb4]
 have m0 := hxd.at k0 (by simp)
 have m1 := hxd.at k1 (by simp)
 have m2 := hxd.at k2 (by simp)
 have mq := hxd.at kq (by simp)
 have hxe := hxa.trans hxd (by simp)
 have mM := kM.ext hxd (by simp) (by simp)
 generalize (w5.alloc (.cells (inC i).toArray 49)).drew = w6 at *
 have hq4 : q ≠ b4 := by omega
 obtain ⟨p0, hp0⟩ : ∃ p0 : Rn -> Prop, p0 = fun r => r.c = nextX c /\ r.d = c /\ r.m = flV rb := ⟨_, rfl⟩
 obtain ⟨p1, hp1⟩ : ∃ p1 : Rn -> Prop, p1 = fun r => p0 r /\ r.i = i := ⟨_, rfl⟩
 obtain ⟨p2, hp2⟩ : ∃ p2 : Rn -> Prop, p2 = fun r => p1 r /\ r.a = regX c i.r1 := ⟨_, rfl⟩
 refine relX.fld q [p0, p1, p2] ?_
 (apply postX.is; (focus (intro v w2 hR hd; (try simp (disch := first | exact qD15 | fail) only [qG3, hd]); exact okX.fld)))
 (apply postX.is; (focus (intro v w2 hR hd; (try simp (disch := first | exact qD15 | fail) only [qG3, hd]); exact okX.fld)))
 (apply postX.is; (focus (intro v w2 hR hd; (try simp (disch := first | exact qD15 | fail) only [qG3, hd]); exact okX.fld)))
 (apply postX.is; (focus (intro v w2 hR hd; have e0 := hR.1.at m4 (by simp; try omega); (try simp (disch := first | exact qD15 | fail) only [qG3, hd, e0, inC_sub]); exact okX.fld)))
 (apply postX.is; (focus (intro v w2 hR hd; have e0 := hR.1.at m0 (by simp; try omega); (try simp (disch := first | exact qD15 | fail) only [qG3, hd, e0, cx_sub]); exact okX.fld)))
 (apply postX.is; (focus (intro v w2 hR hd; (try simp (disch := first | exact qD15 | fail) only [qG3, hd]); exact okX.fld)))
 (apply postX.is; (focus (intro v w2 hR hd; have e0 := hR.1.at m4 (by simp; try omega); (try simp (disch := first | exact qD15 | fail) only [qG3, hd, e0, in_r1]); exact okX.fld)))
 apply postX.is
 ·intro v w2 hR hd
  simp (disch := first | exact qD15 | fail) only [qG3, hd]
  exact Get_reg h1 fun w3 hx3 => okX.mk (Fld.of hx3) rfl
 (apply postX.is; (focus (intro v w2 hR hd; have e0 := hR.1.at m0 (by simp; try omega); (try simp (disch := first | exact qD15 | fail) only [qG3, hd, e0, cx_sub]); exact okX.fld)))
 (apply postX.is; (focus (intro v w2 hR hd; (try simp (disch := first | exact qD15 | fail) only [qG3, hd]); exact okX.fld)))
 (apply postX.is; (focus (intro v w2 hR hd; have e0 := hR.1.at m4 (by simp; try omega); (try simp (disch := first | exact qD15 | fail) only [qG3, hd, e0, in_r2]); exact okX.fld)))
 apply postX.is
 ·intro v w2 hR hd
  simp (disch := first | exact qD15 | fail) only [qG3, hd]
  exact Get_reg h2 fun w3 hx3 => okX.mk (Fld.of hx3) rfl
 (apply postX.is; (focus (intro v w2 hR hd; (try simp (disch := first | exact qD15 | fail) only [qG3, hd]); exact okX.fld)))
 (apply postX.is; (focus (intro v w2 hR hd; (try simp (disch := first | exact qD15 | fail) only [qG3, hd]); exact okX.fld)))
 refine postX.intro (fun _ w => ∃ r, p1 r /\ w.heap[q]? = some (.cells (rnC r).toArray 91 (0, 0))) (fun _ _ _ hR h => hR.2 p1 (by simp) h) (fun v w2 hR hd => ?_) ?_
 ·obtain ⟨r, hr, e⟩ := hR.has (p := p0) (by simp) (by rw [hp0]; exact ⟨rfl, rfl, rfl⟩) mq
  have le := lt_of_at e
  simp (disch := first | exact qD15 | fail) only [qG3, hd, e, rn_seti]
  have hxu : Ext [q] w2 (World.upd w2 q (rnC { r with i := i })) := qX
  refine okX.mk (Fld.set (fun r => { r with i := i }) rn_i_inj hxu e (upd_at e) ?_) ⟨{ r with i := i }, by rw [hp1]; rw [hp0] at hr ⊢; exact ⟨hr, rfl⟩, upd_at e⟩
  rw [hp2, hp1, hp0]
  simp +contextual
 (apply postX.is; (focus (intro v w2 hR hd; (try simp (disch := first | exact qD15 | fail) only [qG3, hd]); exact okX.fld)))
 (apply postX.is; (focus (intro v w2 hR hd; (try simp (disch := first | exact qD15 | fail) only [qG3, hd]); exact okX.fld)))
 refine postX.intro (fun _ w => ∃ r, p2 r /\ w.heap[q]? = some (.cells (rnC r).toArray 91 (0, 0))) (fun _ _ _ hR h => hR.2 p2 (by simp) h) (fun v w2 hR hd => ?_) ?_
 ·obtain ⟨-, -, -, -, -, -, -, -, -, -, ⟨r, hr, e⟩, -⟩ := id hd
  have le := lt_of_at e
  simp (disch := first | exact qD15 | fail) only [qG3, hd, e, rn_seta]
  have hxu : Ext [q] w2 (World.upd w2 q (rnC { r with a := regX c i.r1 })) := qX
  refine okX.mk (Fld.set (fun r => { r with a := regX c i.r1 }) rn_a_inj hxu e (upd_at e) ?_) ⟨{ r with a := regX c i.r1 }, by rw [hp2]; rw [hp1, hp0] at hr ⊢; exact ⟨hr, rfl⟩, upd_at e⟩
  rw [hp2, hp1, hp0]
  simp +contextual
 intro v w7 hR hd _
 obtain ⟨-, -, -, -, -, -, -, -, -, -, -, -, -, -, -, -, -, ⟨r, hr, eR⟩, -⟩ := id hd
 have le := lt_of_at eR
 simp (disch := first | exact qD15 | fail) only [qG3, hd, eR, rn_setb]
 have er : ({ r with b := regX c i.r2 } : Rn) = ⟨nextX c, c, flV rb, flV_one rb, i, regX c i.r1, regX c i.r2⟩ := by
  rw [hp2, hp1, hp0] at hr
  obtain ⟨⟨⟨h3, h4, h5⟩, h6⟩, h7⟩ := hr
  cases r
  simp only at h3 h4 h5 h6 h7
  subst h3 h4 h5 h6 h7
  rfl
 rw [er]
 have hxu : Ext [q] w7 (World.upd w7 q (rnC ⟨nextX c, c, flV rb, flV_one rb, i, regX c i.r1, regX c i.r2⟩)) := qX
 have hxv : Ext [q] w6 (World.upd w7 q (rnC ⟨nextX c, c, flV rb, flV_one rb, i, regX c i.r1, regX c i.r2⟩)) := hR.1.step hxu
 replace m1 := hxv.at m1 (by simp; omega)
 replace m2 := hxv.at m2 (by simp; omega)
 replace mM := mM.ext hxv (by simp; omega) (by simp; omega)
 have mr := upd_at (l := rnC ⟨nextX c, c, flV rb, flV_one rb, i, regX c i.r1, regX c i.r2⟩) eR
 have hxw : Ext [] w (World.upd w7 q (rnC ⟨nextX c, c, flV rb, flV_one rb, i, regX c i.r1, regX c i.r2⟩)) := hxe.trans hxv (by simp; omega)
 generalize World.upd w7 q (rnC ⟨nextX c, c, flV rb, flV_one rb, i, regX c i.r1, regX c i.r2⟩) = w8 at *
 apply hJ10
 intro _
 simp (disch := first | exact qD15 | fail) only [qG3, List.getD_cons_zero]
 rw [<- hq]
 have hpq : pb ≠ b0 + 1 /\ pb ≠ b0 + 1 + 1 /\ rb ≠ b0 + 1 /\ rb ≠ b0 + 1 + 1 := by omega
 with_reducible refine hrun q w8 _ mr mM fun g' w9 hQ hM9 hx9 => ?_
 have n1 := hx9.at m1 (by simp; omega)
 have n2 := hx9.at m2 (by simp; omega)
 have ln1 := lt_of_at n1
 have ln2 := lt_of_at n2
 simp (disch := first | exact qD15 | fail) only [qG3, n1, n2, cx_over, cx_put, ou_over, ou_put, cx_sub, ou_sub]
 have hxo : Ext [b0 + 1, b0 + 1 + 1] w9 (World.upd (World.upd w9 (b0 + 1) (cxC d)) (b0 + 1 + 1) (ouC k e va i)) := qX
 have hxp : Ext [pb] w w9 := (hxw.mono (by simp)).trans hx9 (by simp; omega)
 have hxz : Ext [pb] w (World.upd (World.upd w9 (b0 + 1) (cxC d)) (b0 + 1 + 1) (ouC k e va i)) := hxp.trans hxo (by simp; omega)
 generalize World.upd (World.upd w9 (b0 + 1) (cxC d)) (b0 + 1 + 1) (ouC k e va i) = w10 at *
 exact hK g' w10 hQ (hM9.ext hxo (by simp; omega) (by simp; omega)) hxz
open Go.Fx
set_option maxRecDepth 100000
/-- the two blocks that each part of an instruction makes for its answer. -/
theorem two_x (w : World) : Ext [] w ((w.alloc (.cells (cxC zeroX).toArray 42)).alloc (.cells [.int .i64 0, .int .i64 0, .int .u64 0, .int .i64 0, .int .i64 0, .int .i64 0, .int .i64 0, .int .i64 0].toArray 51)) := Ext.alloc (Ext.alloc Ext.refl _ _) _ _
theorem two_1 (w : World) : ((w.alloc (.cells (cxC zeroX).toArray 42)).alloc (.cells [.int .i64 0, .int .i64 0, .int .u64 0, .int .i64 0, .int .i64 0, .int .i64 0, .int .i64 0, .int .i64 0].toArray 51)).heap[w.heap.size]? = some (.cells (cxC zeroX).toArray 42 (0, 0)) := (alloc_ne (by simp only [szR]; omega)).trans (alloc_at rfl)
theorem two_2 (w : World) : ((w.alloc (.cells (cxC zeroX).toArray 42)).alloc (.cells [.int .i64 0, .int .i64 0, .int .u64 0, .int .i64 0, .int .i64 0, .int .i64 0, .int .i64 0, .int .i64 0].toArray 51)).heap[w.heap.size + 1]? = some (.cells [.int .i64 0, .int .i64 0, .int .u64 0, .int .i64 0, .int .i64 0, .int .i64 0, .int .i64 0, .int .i64 0].toArray 51 (0, 0)) := alloc_at (by simp only [szR])
theorem runMem_spec {w : World} {q k e va : Nat} {r : Rn} {d : Nat -> Cq} {S : List Nat} {Post : World -> Prop} (hr : w.heap[q]? = some (.cells (rnC r).toArray 91 (0, 0))) (ho : r.i.op = 43 ∨ r.i.op = 44) (hS : ∀ k ∈ S, k < w.heap.size)
  (hP : ∀ (w1 w2 : World) (T : List Nat), Post w1 -> Ext T w1 w2 -> (∀ k ∈ T, w.heap.size <= k) -> Post w2)
  (hm : ∀ (w1 : World) (K : Value -> World -> Prop), Ext [] w w1 -> (∀ w2, Ext S w1 w2 -> Post w2 -> K (.tuple #[.agg (cxC d).toArray, .agg (ouC k e va r.i).toArray]) w2) -> callsK Tryz.prog 73 #[.pointer (some ⟨q, 0, none⟩), .int .i64 16] w1 K)
  {K : Value -> World -> Prop} (hK : ∀ w', Ext S w w' -> Post w' -> K (.tuple #[.agg (cxC d).toArray, .agg (ouC k e va r.i).toArray]) w') : callsK Tryz.prog 32 #[.pointer (some ⟨q, 0, none⟩)] w K := by
 apply F32_ok
 unfold F32
 have l0 := lt_of_at hr
 have eop := rn_op r
 simp (disch := first | exact qD15 | fail) only [qG3, zeroX_cells]
 have hx0 := two_x w
 have g1 := two_1 w
 have g2 := two_2 w
 have g0 := hx0.at hr (by simp)
 simp (disch := first | exact qD15 | fail) only [qG3, hr, eop]
 refine branches_spec (by omega) ?_
 rw [decide_eq_false (by omega)]
 simp (disch := first | exact qD15 | fail) only [qG3]
 refine width16_spec ho fun w2 hx2 => ?_
 simp (disch := first | exact qD15 | fail) only [qG3, Int.reduceLT]
 refine width16_spec ho fun w3 hx3 => ?_
 have hx4 : Ext [] ((w.alloc (.cells (cxC zeroX).toArray 42)).alloc (.cells [.int .i64 0, .int .i64 0, .int .u64 0, .int .i64 0, .int .i64 0, .int .i64 0, .int .i64 0, .int .i64 0].toArray 51)) w3 := Ext.trans (S := []) qX hx3 (by simp)
 simp (disch := first | exact qD15 | fail) only [qG3]
 have hx5 := hx0.trans hx4 (by simp)
 refine hm w3 _ hx5 fun w6 hx6 hp6 => ?_
 have k1 := hx6.at (hx4.at g1 (by simp)) (fun hc => by have := hS _ hc; omega)
 have k2 := hx6.at (hx4.at g2 (by simp)) (fun hc => by have := hS _ hc; omega)
 have lk1 := lt_of_at k1
 have lk2 := lt_of_at k2
 simp (disch := first | exact qD15 | fail) only [qG3, k1, k2, cx_over, cx_put, ou_over, ou_put, cx_sub, ou_sub]
 have hxo : Ext [w.heap.size, w.heap.size + 1] w6 (World.upd (World.upd w6 w.heap.size (cxC d)) (w.heap.size + 1) (ouC k e va r.i)) := qX
 have hxz : Ext S w (World.upd (World.upd w6 w.heap.size (cxC d)) (w.heap.size + 1) (ouC k e va r.i)) := ((hx5.mono (by simp)).step hx6).trans hxo (by simp)
 exact hK _ hxz (hP _ _ _ hp6 hxo (by simp))
theorem runAddi_spec {w : World} {q : Nat} {r : Rn} (hr : w.heap[q]? = some (.cells (rnC r).toArray 91 (0, 0))) (ho : r.i.op = 22) (hrd : r.i.rd < 9223372036854775808) (him : r.i.im < 9223372036854775808) (hsum : r.a.a + r.i.im < 18446744073709551616)
  {K : Value -> World -> Prop} (hK : ∀ w', Ext [q] w w' -> K (.tuple #[.agg (cxC (withX r.c r.i.rd ⟨false, 0, r.a.a + r.i.im⟩)).toArray, .agg (ouC 0 0 0 r.i).toArray]) w') : callsK Tryz.prog 32 #[.pointer (some ⟨q, 0, none⟩)] w K := by
 apply F32_ok
 unfold F32
 have l0 := lt_of_at hr
 have eop := rn_op r
 rw [ho] at eop
 simp (disch := first | exact qD15 | fail) only [qG3, zeroX_cells]
 have hx0 := two_x w
 have g1 := two_1 w
 have g2 := two_2 w
 have g0 := hx0.at hr (by simp)
 simp (disch := first | exact qD15 | fail) only [qG3, hr, eop]
 refine branches_spec (n := 22) (by omega) ?_
 rw [decide_eq_false (by omega)]
 simp (disch := first | exact qD15 | fail) only [qG3]
 refine width0_spec (n := 22) (by omega) fun w2 hx2 => ?_
 have k0 := hx2.at g0 (by simp)
 have k1 := hx2.at g1 (by simp)
 have k2 := hx2.at g2 (by simp)
 have e2 := rn_ba r
 have e3 := rn_im r
 have e4 := rn_aa r
 have lk0 := lt_of_at k0
 have lk1 := lt_of_at k1
 have lk2 := lt_of_at k2
 simp (disch := first | exact qD15 | fail) only [qG3, Nat.reduceAdd, Int.reduceLT, k0, e2]
 refine joinL.intro fun J0 hJ0 => ?_
 refine immediate_spec (n := 22) (by omega) ?_
 rw [decide_eq_true (by omega)]
 simp (disch := first | exact qD15 | fail) only [qG3, Nat.reduceAdd, k0, e3]
 apply hJ0
 intro _
 simp (disch := first | exact qD15 | fail) only [qG3, Nat.reduceAdd, k0, e4, List.getD_cons_zero]
 refine addi_spec (x := r.a.a) (y := r.i.im) hsum ?_
 simp (disch := first | exact qD15 | fail) only [qG3]
 refine num_spec k0 hrd fun w3 hx3 => ?_
 have hqs : w.heap.size ≠ q /\ w.heap.size + 1 ≠ q := by omega
 have m1 := hx3.at k1 (by simp; omega)
 have m2 := hx3.at k2 (by simp; omega)
 have lm1 := lt_of_at m1
 have lm2 := lt_of_at m2
 have hx5 : Ext [q] w w3 := ((hx0.trans hx2 (by simp)).mono (by simp)).step hx3
 simp (disch := first | exact qD15 | fail) only [qG3, m1, m2, cx_over, cx_put, ou_over, ou_put, cx_sub, ou_sub]
 generalize withX r.c r.i.rd ⟨false, 0, r.a.a + r.i.im⟩ = d at *
 have hxo : Ext [w.heap.size, w.heap.size + 1] w3 (World.upd (World.upd w3 w.heap.size (cxC d)) (w.heap.size + 1) (ouC 0 0 0 r.i)) := qX
 exact hK _ (hx5.trans hxo (by simp))
open Go.Fx
set_option maxRecDepth 100000
def aC (p : Nat × Int) : List Value := [.int .u64 p.1]
def bC (p : Nat × Int) : List Value := [.int .u8 p.2]
theorem aC_all (P : List (Nat × Int)) : ∀ r ∈ P.map aC, r.all (fun v => v.oneCell') = true := by
 intro r hr
 obtain ⟨l, -, rfl⟩ := List.mem_map.1 hr
 rfl
theorem bC_all (P : List (Nat × Int)) : ∀ r ∈ P.map bC, r.all (fun v => v.oneCell') = true := by
 intro r hr
 obtain ⟨l, -, rfl⟩ := List.mem_map.1 hr
 rfl
/-- what was laid last at an address. -/
def lk (P : List (Nat × Int)) (a : Nat) : Int := P.foldl (fun x p => if p.1 = a then p.2 else x) 0
theorem lk_add (P : List (Nat × Int)) (a x : Nat) (b : Int) : lk (P ++ [(a, b)]) x = wset (lk P) a b x := by
 unfold lk wset
 rw [List.foldl_append]
 simp only [List.foldl_cons, List.foldl_nil]
 by_cases h : a = x
 ·rw [if_pos h, if_pos h.symm]
 ·rw [if_neg h, if_neg (Ne.symm h)]
theorem app25 {base : Nat} {v x : Value} {rows rows2 : List (List Value)} {w : World} {K : Value -> World -> Prop} (hown : OwnR w base 22 1 v rows) (hx : RowsAt w x 1 rows2) (h1 : ∀ r ∈ rows2, r.all (fun v => v.oneCell') = true)
  (hl : rows.length + rows2.length <= 1000000) (hbase : base <= w.heap.size) (hK : ∀ v' w', OwnR w' base 22 1 v' (rows ++ rows2) -> App base v w w' -> K v' w') : resV K ((Builtin.append_ #[32, 32] 32 #[v, x]).run Tryz.prog w) :=
 kV_appR Tryz.underlying32 (by kernel_rfl) (by omega) (bytes := 8) hown hx h1 (by simp only [maxLen]; omega) (by omega) hbase hK
theorem app26 {base : Nat} {v x : Value} {rows rows2 : List (List Value)} {w : World} {K : Value -> World -> Prop} (hown : OwnR w base 5 1 v rows) (hx : RowsAt w x 1 rows2) (h1 : ∀ r ∈ rows2, r.all (fun v => v.oneCell') = true)
  (hl : rows.length + rows2.length <= 1000000) (hbase : base <= w.heap.size) (hK : ∀ v' w', OwnR w' base 5 1 v' (rows ++ rows2) -> App base v w w' -> K v' w') : resV K ((Builtin.append_ #[33, 33] 33 #[v, x]).run Tryz.prog w) :=
 kV_appR Tryz.underlying33 (by kernel_rfl) (by omega) (bytes := 1) hown hx h1 (by simp only [maxLen]; omega) (by omega) hbase hK
def rmC (n : Nat) (va vb : Value) : List Value := [.int .i64 n, va, vb, .slice none 0 0]
/-- the document's memory as a value. -/
structure RMem (w : World) (base : Nat) (L : List Value) (n : Nat) (m : Nat -> Int) (c : Nat) (P : List (Nat × Int)) (va vb : Value) : Prop where
 val : L = rmC n va vb
 rowa : RowsAt w va 1 (P.map aC)
 rowb : RowsAt w vb 1 (P.map bC)
 lowa : ∀ b, blockOf va = some b -> base <= b
 lowb : ∀ b, blockOf vb = some b -> base <= b
 lk : ∀ a, lk P a = m a
 len : P.length <= c
theorem RMem.ext {w w' : World} {base n c : Nat} {L : List Value} {m : Nat -> Int} {P : List (Nat × Int)} {va vb : Value} {S : List Nat} (h : RMem w base L n m c P va vb) (hx : Ext S w w') (hs : ∀ k ∈ S, k < base) : RMem w' base L n m c P va vb :=
 ⟨h.val, h.rowa.at hx fun b hb hc => absurd (hs b hc) (Nat.not_lt.2 (h.lowa b hb)), h.rowb.at hx fun b hb hc => absurd (hs b hc) (Nat.not_lt.2 (h.lowb b hb)), h.lowa, h.lowb, h.lk, h.len⟩
theorem RMem.ext' {w w' : World} {base n c : Nat} {L : List Value} {m : Nat -> Int} {P : List (Nat × Int)} {va vb : Value} {S : List Nat} (h : RMem w base L n m c P va vb) (hx : Ext S w w') (hs : P ≠ [] -> ∀ k, blockOf va = some k ∨ blockOf vb = some k -> k ∉ S) : RMem w' base L n m c P va vb :=
 ⟨h.val, h.rowa.at' hx fun h0 b hb => hs (by rintro rfl; exact h0 rfl) b (.inl hb), h.rowb.at' hx fun h0 b hb => hs (by rintro rfl; exact h0 rfl) b (.inr hb), h.lowa, h.lowb, h.lk, h.len⟩
theorem RMem.form {w : World} {base n c : Nat} {L : List Value} {m : Nat -> Int} {P : List (Nat × Int)} {va vb : Value} (h : RMem w base L n m c P va vb) : ∃ a1 c1 a2 c2, va = .slice a1 P.length c1 /\ vb = .slice a2 P.length c2 := by
 obtain ⟨a1, c1, e1⟩ := h.rowa.len
 obtain ⟨a2, c2, e2⟩ := h.rowb.len
 rw [List.length_map] at e1 e2
 exact ⟨a1, c1, a2, c2, e1, e2⟩
theorem rSize_spec {w : World} {n : Nat} {va vb : Value} (hn : n <= 1000) {K : Value -> World -> Prop} (hK : ∀ w', Ext [] w w' -> K (.int .u64 (n * 4096 : Nat)) w') : callsK Tryz.prog 62 #[.agg (rmC n va vb).toArray] w K := by
 have e : (n : Int) * 4096 = ((n * 4096 : Nat) : Int) := by omega
 apply F62_ok
 unfold F62
 simp only [rmC]
 simp (disch := first | exact qDR | fail) only [qG3, e]
 exact hK _ qX
theorem rMay_spec {w : World} {n a : Nat} {va vb : Value} (hn : n <= 1000) (h8 : a % 4 = 0) (ha : a < n * 4096) {K : Value -> World -> Prop} (hK : ∀ w', Ext [] w w' -> K (.bool true) w') : callsK Tryz.prog 58 #[.agg (rmC n va vb).toArray, .int .u64 a, .int .i64 4] w K := by
 apply F58_ok
 unfold F58
 have hs : sub (rmC n va vb) 0 4 = rmC n va vb := by simp [rmC, sub]
 have hl : (rmC n va vb).length = 4 := by simp [rmC]
 have e0 : (a : Int) % 4 = 0 := by omega
 simp (disch := first | exact qDR | fail) only [qG3, joinR, hs, hl, e0]
 refine rSize_spec hn fun w1 hx1 => ?_
 simp (disch := first | exact qDR | fail) only [qG3, joinR]
 exact hK _ (Ext.trans (S := []) qX hx1 (by simp))
theorem rNew_spec {w : World} {n : Nat} (hn : 1 <= n /\ n <= 64) {K : Value -> World -> Prop} (hK : ∀ w', (∀ base, RMem w' base (rmC n (.slice none 0 0) (.slice none 0 0)) n (fun _ => 0) 0 [] (.slice none 0 0) (.slice none 0 0)) -> Ext [] w w' -> K (.tuple #[.agg (rmC n (.slice none 0 0) (.slice none 0 0)).toArray, .int .i64 0]) w') :
  callsK Tryz.prog 22 #[.int .i64 n] w K := by
 apply F22_ok
 unfold F22
 simp (disch := first | exact qDR | fail) only [qG3, Nat.reduceAdd, joinBR]
 refine hK _ (fun base => ⟨rfl, OwnR.nil.rows (base := 0) (e := 5), OwnR.nil.rows (base := 0) (e := 5), by simp [blockOf], by simp [blockOf], fun _ => rfl, by simp⟩) qX
theorem rUntag_spec {w : World} {n n1 c1 n2 c2 : Nat} {a1 a2 : Option Addr} {x : Int} {K : Value -> World -> Prop} (hK : ∀ w', Ext [] w w' -> K (.agg (rmC n (.slice a1 n1 c1) (.slice a2 n2 c2)).toArray) w') :
  callsK Tryz.prog 92 #[.agg (rmC n (.slice a1 n1 c1) (.slice a2 n2 c2)).toArray, .int .u64 x] w K := by
 apply F92_ok
 unfold F92
 simp only [rmC]
 simp (disch := first | exact qDR | fail) only [qG3]
 refine loopT.intro (fun st w' => st = [.slice none 0 0, .int .i64 0] /\ w'.heap[w.heap.size]? = some (.cells (rmC n (.slice a1 n1 c1) (.slice a2 n2 c2)).toArray 35 (0, 0)) /\ w'.heap[w.heap.size + 1]? = some (.cells [.int .i64 0, .slice none 0 0, .slice none 0 0, .slice none 0 0].toArray 35 (0, 0)) /\ Ext [] w w') (fun _ _ => 0) ⟨rfl, (by first | with_reducible rfl | assumption | (simp (disch := first | exact qDR | fail) only [qG3] <;> rfl)), (by first | with_reducible rfl | assumption | (simp (disch := first | exact qDR | fail) only [qG3] <;> rfl)), qX⟩ ?_
 rintro st w' ⟨rfl, h1, h2, hx⟩ _
 have l1 := lt_of_at h1
 have l2 := lt_of_at h2
 simp only [rmC] at h1
 simp (disch := first | exact qDR | fail) only [qG3, Nat.reduceAdd, Int.reduceLT, h1, h2]
 exact hK _ qX
set_option maxHeartbeats 1000000 in
theorem rLay_spec {w : World} {base n c a : Nat} {L : List Value} {b : Int} {m : Nat -> Int} {P : List (Nat × Int)} {va vb : Value} (h : RMem w base L n m c P va vb) (hb : base <= w.heap.size) (hc : c <= 100000) (ha : a < 18446744073709551616) {K : Value -> World -> Prop}
  (hK : ∀ L' P' va' vb' w', RMem w' base L' n (wset m a b) (c + 1) P' va' vb' -> (∀ k, blockOf va' = some k ∨ blockOf vb' = some k -> w.heap.size <= k) -> Ext [] w w' -> K (.agg L'.toArray) w') : callsK Tryz.prog 59 #[.agg L.toArray, .int .u64 a, .int .u8 b] w K := by
 obtain ⟨a1, c1, a2, c2, rfl, rfl⟩ := h.form
 obtain ⟨rfl, hA, hB, -, -, hlk, hlen⟩ := h
 apply F59_ok
 unfold F59
 simp only [rmC]
 simp (disch := first | exact qDR | fail) only [qG3]
 refine app25 (rows := []) (rows2 := P.map aC) (base := w.heap.size + 1 + 1) (OwnR.empty (by first | with_reducible rfl | assumption | (simp (disch := first | exact qDR | fail) only [qG3] <;> rfl)) (Nat.le_refl _)) (hA.ext (S := []) qX (by simp)) (aC_all P) (by simp; omega) (by simp only [szR]; omega) fun v10 w1 ho1 hp1 => ?_
 have hx1 := hp1.ext _ [] (by simp only [szR]; omega) (Ext.alloc (S := []) Ext.refl _ _)
 have hs1 := hx1.size
 simp only [szR] at hs1
 have hk1 := kept0 hx1
 simp (disch := first | exact qDR | fail) only [qG3, hk1]
 refine app25 (rows2 := [aC (a, b)]) (base := w.heap.size + 1 + 1) (ho1.ext (Ext.alloc (S := []) Ext.refl _ _) (by simp)) (RowsAt.one (l := aC (a, b)) (by first | with_reducible rfl | assumption | (simp (disch := first | exact qDR | fail) only [qG3] <;> rfl)) rfl) (aC_all [(a, b)]) (by simp; omega) (by simp only [szR]; omega) fun v13 w2 ho2 hp2 => ?_
 have hx2 := hp2.ext _ [] (by simp only [szR]; omega) (hx1.alloc _ _)
 have hs2 := hx2.size
 simp only [szR] at hs2
 have hk2 := kept0 hx2
 obtain ⟨a13, c13, rfl⟩ := ho2.rows.len
 have hxw2 : Ext [] w w2 := Ext.trans (S := []) qX hx2 (by simp)
 simp (disch := first | exact qDR | fail) only [qG3, hk2]
 refine app26 (rows := []) (rows2 := P.map bC) (base := w2.heap.size) (OwnR.empty (by first | with_reducible rfl | assumption | (simp (disch := first | exact qDR | fail) only [qG3] <;> rfl)) (Nat.le_refl _)) (hB.ext (S := []) qX (by simp)) (bC_all P) (by simp; omega) (by simp only [szR]; omega) fun v18 w3 ho3 hp3 => ?_
 have hx3 := hp3.ext _ [] (by simp only [szR]; omega) (Ext.alloc (S := []) Ext.refl _ _)
 have hs3 := hx3.size
 simp only [szR] at hs3
 have hk3 := kept0 hx3
 simp (disch := first | exact qDR | fail) only [qG3, hk3, hk2]
 refine app26 (rows2 := [bC (a, b)]) (base := w2.heap.size) (ho3.ext (Ext.alloc (S := []) Ext.refl _ _) (by simp)) (RowsAt.one (l := bC (a, b)) (by first | with_reducible rfl | assumption | (simp (disch := first | exact qDR | fail) only [qG3] <;> rfl)) rfl) (bC_all [(a, b)]) (by simp; omega) (by simp only [szR]; omega) fun v21 w4 ho4 hp4 => ?_
 have hx4 := hp4.ext _ [] (by simp only [szR]; omega) (hx3.alloc _ _)
 have hs4 := hx4.size
 simp only [szR] at hs4
 have hk4 := kept0 hx4
 obtain ⟨a21, c21, rfl⟩ := ho4.rows.len
 have hxw4 : Ext [] w w4 := Ext.trans (S := []) qX hx4 (by simp)
 have hu := fun (w : World) (K : Value -> World -> Prop) => rUntag_spec (w := w) (n := n) (n1 := ([] ++ P.map aC ++ [aC (a, b)]).length) (c1 := c13) (n2 := ([] ++ P.map bC ++ [bC (a, b)]).length) (c2 := c21) (a1 := a13) (a2 := a21) (x := ((a / 16 * 16 : Nat) : Int)) (K := K)
 have e16 : (a : Int) / 16 * 16 = ((a / 16 * 16 : Nat) : Int) := by omega
 simp only [rmC] at hu
 simp (disch := first | exact qDR | fail) only [qG3, hk4, hk3, hk2, e16]
 refine hu _ _ fun w5 hx5 => ?_
 have hs5 := hx5.size
 simp only [szR] at hs5
 have hk5 := kept0 hx5
 simp (disch := first | exact qDR | fail) only [qG3, Nat.reduceAdd, hk5, hk4, hk3, hk2, hk1]
 have hxw5 : Ext [] w w5 := Ext.trans (S := []) qX hx5 (by simp)
 have hra := ho2.rows
 have hrb := ho4.rows
 simp only [List.nil_append] at hra hrb
 refine hK _ (P ++ [(a, b)]) _ _ _ ⟨rfl, ?_, ?_, ?_, ?_, fun x => ?_, ?_⟩ (fun k hk => hk.elim (fun h => by have := ho2.block k h; omega) (fun h => by have := ho4.block k h; omega)) qX
 ·rw [List.map_append]
  have hy4 : Ext [w.heap.size, w.heap.size + 1] w2 w4 := Ext.trans qX hx4 (by simp)
  have hy5 : Ext [w.heap.size, w.heap.size + 1] w2 w5 := Ext.trans qX hx5 (by simp)
  refine hra.at (S := [w.heap.size, w.heap.size + 1]) qX fun k hk hm => ?_
  have := ho2.block k hk
  simp at hm
  omega
 ·rw [List.map_append]
  have hy5 : Ext [w.heap.size, w.heap.size + 1] w4 w5 := Ext.trans qX hx5 (by simp)
  refine hrb.at (S := [w.heap.size, w.heap.size + 1]) qX fun k hk hm => ?_
  have := ho4.block k hk
  simp at hm
  omega
 ·intro k hk
  have := ho2.block k hk
  omega
 ·intro k hk
  have := ho4.block k hk
  omega
 ·rw [lk_add]
  unfold wset
  rw [hlk]
 ·simp
  omega
theorem RMem.cells {w : World} {base n c : Nat} {L : List Value} {m : Nat -> Int} {P : List (Nat × Int)} {va vb : Value} (h : RMem w base L n m c P va vb) : L.length = 4 /\ L.all (fun v => v.oneCell') = true /\ sub L 0 4 = L := by
 obtain ⟨a1, c1, a2, c2, rfl, rfl⟩ := h.form
 rw [h.val]
 exact ⟨rfl, rfl, by simp [rmC, sub]⟩
theorem splice_all {l vs : List Value} (h : l.length = vs.length) : splice l 0 vs = vs := by simp [splice, <- h]
theorem drop_all {l vs : List Value} (h : l.length = vs.length) : vs ++ List.drop vs.length l = vs := by simp [<- h]
set_option maxHeartbeats 1000000 in
theorem rStore_spec {w : World} {base n c a x : Nat} {L : List Value} {m : Nat -> Int} {P : List (Nat × Int)} {va vb : Value} (h : RMem w base L n m c P va vb) (hb : base <= w.heap.size) (hc : c <= 10000) (hn : n <= 1000) (h8 : a % 4 = 0) (ha : a < n * 4096) (hx64 : x < 18446744073709551616) {K : Value -> World -> Prop}
  (hK : ∀ L' P' va' vb' w', RMem w' base L' n (stored m a 4 x) (c + 4) P' va' vb' -> Ext [] w w' -> K (.tuple #[.agg L'.toArray, .int .i64 0]) w') : callsK Tryz.prog 24 #[.agg L.toArray, .int .u64 a, .int .i64 4, .int .u64 x] w K := by
 have hval := h.val
 obtain ⟨hlen, hall, hsub⟩ := h.cells
 have hx0 : Ext [] w ((w.alloc (.cells L.toArray 35)).alloc (.cells #[.int .i64 0, .slice none 0 0, .slice none 0 0, .slice none 0 0] 35)) := qX
 apply F24_ok
 unfold F24
 simp (disch := first | exact qDR | fail) only [qG3, hsub, hlen]
 rw [hval]
 refine rMay_spec hn h8 ha fun w1 hx1 => ?_
 rw [<- hval] at hx1
 have hk1 := kept0 hx1
 have hx01 := hx0.trans hx1 (by simp)
 have hc1 : w1.heap[w.heap.size]? = some (.cells L.toArray 35 (0, 0)) := (by first | with_reducible rfl | assumption | (simp (disch := first | exact qDR | fail) only [qG3, hk1] <;> rfl))
 have hblk : P ≠ [] -> ∀ b, blockOf va = some b ∨ blockOf vb = some b -> b ≠ w.heap.size /\ b ≠ w.heap.size + 1 := by
  intro h0 b hb
  have : b < w.heap.size := hb.elim (fun hb => h.rowa.blt (by simpa using h0) b hb) (fun hb => h.rowb.blt (by simpa using h0) b hb)
  omega
 have hd1 : w1.heap[w.heap.size + 1]? = some (.cells [.int .i64 0, .slice none 0 0, .slice none 0 0, .slice none 0 0].toArray 35 (0, 0)) := (by first | with_reducible rfl | assumption | (simp (disch := first | exact qDR | fail) only [qG3, hk1] <;> rfl))
 simp (disch := first | exact qDR | fail) only [qG3]
 refine loopT.intro (fun st w' => ∃ (k : Nat) (z : Int) (L' : List Value) (P' : List (Nat × Int)) (va' vb' : Value), k <= 4 /\ st = [.int .i64 z] /\ z = k /\ w'.heap[w.heap.size]? = some (.cells L'.toArray 35 (0, 0)) /\ w'.heap[w.heap.size + 1]? = some (.cells [.int .i64 0, .slice none 0 0, .slice none 0 0, .slice none 0 0].toArray 35 (0, 0)) /\
   RMem w' base L' n (stored m a k x) (c + k) P' va' vb' /\ (P' ≠ [] -> ∀ b, blockOf va' = some b ∨ blockOf vb' = some b -> b ≠ w.heap.size /\ b ≠ w.heap.size + 1) /\ Ext [] w w')
  (fun st _ => match st with
   | [.int _ z] => 4 - z.toNat
   | _ => 0) ⟨0, 0, L, P, va, vb, by omega, rfl, rfl, hc1, hd1, by rw [stored_zero]; exact h.ext hx01 (by simp), hblk, hx01⟩ ?_
 rintro st w' ⟨k, z, L', P', va', vb', hk, rfl, rfl, hc2, hd2, hr, hbk, hx⟩ _
 obtain ⟨hlen2, hall2, hsub2⟩ := hr.cells
 have l1 := lt_of_at hc2
 have l2 := lt_of_at hd2
 have hbw := hx.size
 by_cases hk8 : k < 4
 ·have e1 : (a : Int) + k = ((a + k : Nat) : Int) := by omega
  have e2 : (8 * (k : Int)).toNat = 8 * k := by omega
  have hfd := fdiv_pow (v := x) (by omega) (8 * k)
  rw [Int.toNat_natCast] at hfd
  have hw8 := wrapU8 ((x / 2 ^ (8 * k) : Nat) : Int)
  have hwe : ((x / 2 ^ (8 * k) : Nat) : Int) % 256 = ((x / 2 ^ (8 * k) % 256 : Nat) : Int) := by simp
  rw [hwe] at hw8
  have hst := stored_succ m a k (x : Int)
  rw [Int.toNat_natCast] at hst
  have hq := Nat.mod_lt (x / 2 ^ (8 * k)) (show 256 > 0 by omega)
  generalize x / 2 ^ (8 * k) = q at hfd hw8 hst hq
  simp (disch := first | exact qDR | fail) only [qG3, hc2, hsub2, hlen2, e1, e2, hfd, hw8]
  refine rLay_spec hr (by omega) (by omega) (by omega) fun L3 P3 va3 vb3 w3 h3 hb3 hx3 => ?_
  rw [hst] at h3
  obtain ⟨hlen3, hall3, hsub3⟩ := h3.cells
  have hk3 := kept0 hx3
  have hc3 := hx3.at hc2 (by simp)
  have hd3 := hx3.at hd2 (by simp)
  have hs3 := hx3.size
  have hsp := splice_all (l := L') (vs := L3) (by omega)
  have hdr := drop_all (l := L') (vs := L3) (by omega)
  simp (disch := first | exact qDR | fail) only [qG3, hc3, hlen3, hall3, hsp]
  refine ⟨⟨k + 1, (k : Int) + 1, L3, P3, va3, vb3, by omega, rfl, by omega, ?_, ?_, ?_, ?_, ?_⟩, by first | omega | (simp <;> omega)⟩
  ·first
    | exact congrArg (fun l : List Value => some (Obj.cells l.toArray 35 (0, 0))) hdr
    | (first | with_reducible rfl | assumption | (simp (disch := first | exact qDR | fail) only [qG3, Nat.reduceAdd, Nat.reduceLeDiff, Int.reduceToNat, Int.reduceAdd, Int.reduceSub, Int.reduceLT, Int.reduceLE, Nat.reduceSub, Nat.reduceMul, Nat.reduceEqDiff, hdr, hsp] <;> try rfl))
  ·(first | with_reducible rfl | assumption | (simp (disch := first | exact qDR | fail) only [qG3, Nat.reduceAdd, Nat.reduceLeDiff, Int.reduceToNat, Int.reduceAdd, Int.reduceSub, Int.reduceLT, Int.reduceLE, Nat.reduceSub, Nat.reduceMul, Nat.reduceEqDiff, hd3] <;> try rfl))
  ·refine h3.ext' (S := [w.heap.size]) qX fun _ b hb hm => ?_
   have := hb3 b hb
   simp at hm
   omega
  ·intro _ b hb
   have := hb3 b hb
   omega
  ·have hx4 := hx.trans hx3 (by simp)
   exact qX
 ·obtain rfl : k = 4 := by omega
  have hsp : splice [Value.int .i64 0, .slice none 0 0, .slice none 0 0, .slice none 0 0] 0 L' = L' := splice_all (by rw [hlen2]; rfl)
  simp (disch := first | exact qDR | fail) only [qG3, Int.reduceLT, hc2, hd2, hlen2, hall2, hsub2, hsp]
  refine hK _ _ _ _ _ (hr.ext' (S := [w.heap.size + 1]) qX ?_) qX
  intro h0 b hb hm
  have := hbk h0 b hb
  simp at hm
  omega
open Go.Fx
set_option maxRecDepth 100000
theorem mixedN : Tryz.prog.follows .mixedOrders = true := by kernel_rfl
section
variable (P : Program) (w : World) (K : Value -> World -> Prop)
def F4 (t0 t1 : Value) : Prop :=
 kV P (Instr.box 45 t0) w fun v2 w =>
 kV P (Instr.buildSlice 39 1 #[(0, t1)]) w fun v16 w =>
 kV P (Instr.fieldAt 45 v2 0) w fun v17 w =>
 kU P (Instr.storeAt 39 v17 v16) w fun _ w =>
 kV P (Instr.loadAt 45 v2) w fun v19 w =>
 kN P (callN (.func (.func 7) #[] #[]) #[v19]) w fun v20 w =>
 kV P (Instr.extract v20 0) w fun v21 w =>
 kV P (Instr.extract v20 1) w fun v22 w =>
 kV P (Instr.extract v20 2) w fun v23 w =>
 kV P (Instr.alloc 35 true (.tuple #[])) w fun v6 w =>
 kU P (Instr.storeAt 35 v6 v22) w fun _ w =>
 kV P (binV .eql 3 (.tmp 24) (.const (.int .i64 0)) v23 (.int .i64 0)) w fun v25 w =>
 condK v25
 (kV P (binV .neq 31 (.tmp 26) (.const (.pointer none)) v21 (.pointer none)) w fun v27 w =>
 K v27 w)
 (kV P (Instr.fieldAt 45 v2 1) w fun v28 w =>
 kV P (Instr.loadAt 42 v28) w fun v29 w =>
 kV P (Instr.alloc 42 true (.tuple #[])) w fun v8 w =>
 kU P (Instr.storeAt 42 v8 v29) w fun _ w =>
 kV P (Instr.build 24 #[]) w fun v30 w =>
 kV P (Instr.fieldAt 42 v8 0) w fun v31 w =>
 kV P (Instr.indexAt 40 v31 (.int .i64 0)) w fun v32 w =>
 kU P (Instr.storeAt 24 v32 v30) w fun _ w =>
 kV P (Instr.loadAt 42 v8) w fun v34 w =>
 kV P (Instr.build 55 #[(0, v21)]) w fun v36 w =>
 kV P (Instr.makeInterface 55 v36) w fun v37 w =>
 kN P (callN (.func (.func 10) #[] #[]) #[v34, v37]) w fun v38 w =>
 kV P (Instr.extract v38 0) w fun v39 w =>
 kV P (Instr.extract v38 1) w fun v40 w =>
 kV P (Instr.alloc 42 true (.tuple #[])) w fun v9 w =>
 kV P (Instr.alloc 51 true (.tuple #[])) w fun v10 w =>
 kU P (Instr.storeAt 42 v9 v39) w fun _ w =>
 kU P (Instr.storeAt 51 v10 v40) w fun _ w =>
 kV P (Instr.fieldAt 51 v10 0) w fun v41 w =>
 kV P (Instr.loadAt 3 v41) w fun v42 w =>
 kV P (binV .neq 3 (.tmp 42) (.const (.int .i64 0)) v42 (.int .i64 0)) w fun v43 w =>
 condK v43
 (kV P (Instr.loadAt 42 v9) w fun v44 w =>
 kV P (Instr.loadAt 42 v8) w fun v45 w =>
 kV P (binV .eql 42 (.tmp 44) (.tmp 45) v44 v45) w fun v46 w =>
 joinK (fun J0 : Value -> World -> Prop => gdK (yb v46) true (fun k => kN P (callN (.func (.func 12) #[] #[]) #[]) w k) w fun v48 w =>
 kN P (pickN v46 v48 (.bool false)) w fun v49_1 w =>
 J0 v49_1 w) fun v49 w =>
 K v49 w)
 (kV P (Instr.fieldAt 51 v10 3) w fun v50 w =>
 kV P (Instr.fieldAt 49 v50 0) w fun v51 w =>
 kV P (Instr.loadAt 3 v51) w fun v52 w =>
 kV P (Instr.loadAt 42 v9) w fun v53 w =>
 kV P (Instr.fieldAt 51 v10 3) w fun v54 w =>
 kV P (Instr.fieldAt 49 v54 1) w fun v55 w =>
 kV P (Instr.loadAt 3 v55) w fun v56 w =>
 kN P (callN (.func (.func 11) #[] #[]) #[v53, v56]) w fun v57 w =>
 kV P (Instr.alloc 24 true (.tuple #[])) w fun v12 w =>
 kU P (Instr.storeAt 24 v12 v57) w fun _ w =>
 kV P (binV .eql 3 (.tmp 58) (.const (.int .i64 1)) v52 (.int .i64 1)) w fun v59 w =>
 joinK (fun J1 : Value -> World -> Prop => gdK (yb v59) false (fun k => k v52 w) w fun v61 w =>
 gdK (yb v59) false (fun k => kV P (binV .geq 3 (.tmp 61) (.const (.int .i64 22)) v61 (.int .i64 22)) w k) w fun v62 w =>
 gdK (yb v59) false (fun k => k v62 w) w fun v63 w =>
 gdK (yb v63) true (fun k => k v52 w) w fun v64 w =>
 gdK (yb v63) true (fun k => kV P (binV .leq 3 (.tmp 64) (.const (.int .i64 40)) v64 (.int .i64 40)) w k) w fun v65 w =>
 gdK (yb v59) false (fun k => kN P (pickN v63 v65 (.bool false)) w k) w fun v66 w =>
 kN P (pickN v59 (.bool true) v66) w fun v67_1 w =>
 J1 v67_1 w) fun v67 w =>
 joinK (fun J2 : Value -> World -> Prop => gdK (yb v67) false (fun k => k v52 w) w fun v69 w =>
 gdK (yb v67) false (fun k => kV P (binV .geq 3 (.tmp 69) (.const (.int .i64 11)) v69 (.int .i64 11)) w k) w fun v70 w =>
 gdK (yb v67) false (fun k => k v70 w) w fun v71 w =>
 gdK (yb v71) true (fun k => k v52 w) w fun v72 w =>
 gdK (yb v71) true (fun k => kV P (binV .leq 3 (.tmp 72) (.const (.int .i64 17)) v72 (.int .i64 17)) w k) w fun v73 w =>
 gdK (yb v67) false (fun k => kN P (pickN v71 v73 (.bool false)) w k) w fun v74 w =>
 kN P (pickN v67 (.bool true) v74) w fun v75_1 w =>
 J2 v75_1 w) fun v75 w =>
 joinK (fun J3 : Value -> World -> Prop => gdK (yb v75) false (fun k => k v52 w) w fun v77 w =>
 gdK (yb v75) false (fun k => kV P (binV .eql 3 (.tmp 77) (.const (.int .i64 52)) v77 (.int .i64 52)) w k) w fun v78 w =>
 kN P (pickN v75 (.bool true) v78) w fun v79_1 w =>
 J3 v79_1 w) fun v79 w =>
 joinK (fun J4 : Value -> World -> Prop => gdK (yb v79) false (fun k => k v52 w) w fun v81 w =>
 gdK (yb v79) false (fun k => kV P (binV .eql 3 (.tmp 81) (.const (.int .i64 54)) v81 (.int .i64 54)) w k) w fun v82 w =>
 kN P (pickN v79 (.bool true) v82) w fun v83_1 w =>
 J4 v83_1 w) fun v83 w =>
 joinK (fun J5 : Value -> World -> Prop => gdK (yb v83) false (fun k => k v52 w) w fun v85 w =>
 gdK (yb v83) false (fun k => kV P (binV .eql 3 (.tmp 85) (.const (.int .i64 55)) v85 (.int .i64 55)) w k) w fun v86 w =>
 kN P (pickN v83 (.bool true) v86) w fun v87_1 w =>
 J5 v87_1 w) fun v87 w =>
 joinK (fun J6 : Value -> World -> Prop => gdK (yb v87) false (fun k => k v52 w) w fun v89 w =>
 gdK (yb v87) false (fun k => kV P (binV .geq 3 (.tmp 89) (.const (.int .i64 56)) v89 (.int .i64 56)) w k) w fun v90 w =>
 gdK (yb v87) false (fun k => k v90 w) w fun v91 w =>
 gdK (yb v91) true (fun k => k v52 w) w fun v92 w =>
 gdK (yb v91) true (fun k => kV P (binV .leq 3 (.tmp 92) (.const (.int .i64 63)) v92 (.int .i64 63)) w k) w fun v93 w =>
 gdK (yb v87) false (fun k => kN P (pickN v91 v93 (.bool false)) w k) w fun v94 w =>
 kN P (pickN v87 (.bool true) v94) w fun v95_1 w =>
 J6 v95_1 w) fun v95 w =>
 joinK (fun J7 : Value -> World -> Prop => gdK (yb v95) false (fun k => k v52 w) w fun v97 w =>
 gdK (yb v95) false (fun k => kV P (binV .eql 3 (.tmp 97) (.const (.int .i64 66)) v97 (.int .i64 66)) w k) w fun v98 w =>
 kN P (pickN v95 (.bool true) v98) w fun v99_1 w =>
 J7 v99_1 w) fun v99 w =>
 joinK (fun J8 : Value -> World -> Prop => gdK (yb v99) true (fun k => kV P (Instr.fieldAt 24 v12 0) w k) w fun v101 w =>
 gdK (yb v99) true (fun k => kV P (Instr.loadAt 4 v101) w k) w fun v102 w =>
 gdK (yb v99) true (fun k => k v102 w) w fun v103 w =>
 gdK (yb v103) false (fun k => kV P (Instr.fieldAt 24 v12 1) w k) w fun v104 w =>
 gdK (yb v103) false (fun k => kV P (Instr.loadAt 22 v104) w k) w fun v105 w =>
 gdK (yb v103) false (fun k => kV P (binV .neq 22 (.tmp 105) (.const (.int .u64 0)) v105 (.int .u64 0)) w k) w fun v106 w =>
 gdK (yb v99) true (fun k => kN P (pickN v103 (.bool true) v106) w k) w fun v107 w =>
 kN P (pickN v99 v107 (.bool false)) w fun v108_1 w =>
 J8 v108_1 w) fun v108 w =>
 condK v108
 (K (.bool false) w)
 (loopT (fun R9 s9 w => ∀ _ : Nat -> Value,
 kV P (binV .lss 3 (.tmp 109) (.const (.int .i64 32)) (s9.getD 0 undef) (.int .i64 32)) w fun v110 w =>
 condK v110
 (kN P (callN (.func (.func 13) #[] #[]) #[v52]) w fun v114 w =>
 joinL (fun J11 =>
 drewK (fun w =>
 pV P (binV .eql 5 (.tmp 115) (.const (.int .u8 66)) v114 (.int .u8 66)) fun v116 =>
 gdP (yb v116) false (fun k => k v114) fun v118 =>
 gdP (yb v116) false (fun k => pV P (binV .eql 5 (.tmp 118) (.const (.int .u8 83)) v118 (.int .u8 83)) k) fun v119 =>
 pN P (pickN v116 (.bool true) v119) fun v120 =>
 gdP (yb v120) false (fun k => k (s9.getD 0 undef)) fun v122 =>
 gdP (yb v120) false (fun k => pV P (Instr.fieldAt 51 v10 3) k) fun v123 =>
 gdP (yb v120) false (fun k => pV P (Instr.fieldAt 49 v123 1) k) fun v124 =>
 gdK (yb v120) false (fun k => kV P (Instr.loadAt 3 v124) w k) w fun v125 w =>
 gdP (yb v120) false (fun k => pV P (binV .neq 3 (.tmp 122) (.tmp 125) v122 v125) k) fun v126 =>
 pN P (pickN v120 (.bool true) v126) fun v127 =>
 gdP (yb v127) true (fun k => k (s9.getD 0 undef)) fun v130 =>
 gdP (yb v127) true (fun k => k (s9.getD 0 undef)) fun v133 =>
 (gdK (yb v127) true (fun k => kV P (Instr.loadAt 42 v9) w k) w fun v129 w =>
 (gdK (yb v127) true (fun k => kN P (callN (.func (.func 11) #[] #[]) #[v129, v130]) w k) w fun v131 w =>
 gdK (yb v127) true (fun k => kV P (Instr.loadAt 42 v8) w k) w fun v132 w =>
 gdK (yb v127) true (fun k => kN P (callN (.func (.func 11) #[] #[]) #[v132, v133]) w k) w fun v134 w =>
 gdP (yb v127) true (fun k => pV P (binV .neq 24 (.tmp 131) (.tmp 134) v131 v134) k) fun v135 =>
 pN P (pickN v127 v135 (.bool false)) fun v136 =>
 J11 [v136] w) /\
 (gdK (yb v127) true (fun k => kV P (Instr.loadAt 42 v8) w k) w fun v132_1 w =>
 gdK (yb v127) true (fun k => kN P (callN (.func (.func 11) #[] #[]) #[v129, v130]) w k) w fun v131_1 w =>
 gdK (yb v127) true (fun k => kN P (callN (.func (.func 11) #[] #[]) #[v132_1, v133]) w k) w fun v134_1 w =>
 gdP (yb v127) true (fun k => pV P (binV .neq 24 (.tmp 131) (.tmp 134) v131_1 v134_1) k) fun v135_1 =>
 pN P (pickN v127 v135_1 (.bool false)) fun v136_1 =>
 J11 [v136_1] w)) /\
 (gdK (yb v127) true (fun k => kV P (Instr.loadAt 42 v8) w k) w fun v132_2 w =>
 gdK (yb v127) true (fun k => kV P (Instr.loadAt 42 v9) w k) w fun v129_1 w =>
 gdK (yb v127) true (fun k => kN P (callN (.func (.func 11) #[] #[]) #[v129_1, v130]) w k) w fun v131_2 w =>
 gdK (yb v127) true (fun k => kN P (callN (.func (.func 11) #[] #[]) #[v132_2, v133]) w k) w fun v134_2 w =>
 gdP (yb v127) true (fun k => pV P (binV .neq 24 (.tmp 131) (.tmp 134) v131_2 v134_2) k) fun v135_2 =>
 pN P (pickN v127 v135_2 (.bool false)) fun v136_2 =>
 J11 [v136_2] w)) w) fun s11 w => ∀ _ : Nat -> Value,
 condK (s11.getD 0 undef)
 (K (.bool false) w)
 (kV P (binV .add 3 (.tmp 111) (.const (.int .i64 1)) (s9.getD 0 undef) (.int .i64 1)) w fun v112 w =>
 R9 [v112] w))
 (kN P (callN (.func (.func 12) #[] #[]) #[]) w fun v137 w =>
 K v137 w)) [(.int .i64 1)] w)))
theorem F4_eq (t0 t1 : Value) : funE P ⟨[(18, 999)], [(15, [13])], [(19, [136])]⟩ Tryz.f4 [t0, t1] w K = F4 P w K t0 t1 := by kernel_rfl
theorem F4_ok (t0 t1 : Value) (h : F4 Tryz.prog w K t0 t1) : callsK Tryz.prog 4 #[t0, t1] w K := calls_of_eq mixedN Tryz.func4 (F4_eq _ w K t0 t1) h
def F13 (t0 : Value) : Prop :=
 kN P (callN (.func (.func 34) #[] #[]) #[t0]) w fun v7 w =>
 kV P (Instr.extract v7 0) w fun v8 w =>
 kV P (Instr.extract v7 1) w fun v9 w =>
 kV P (Instr.alloc 101 true (.tuple #[])) w fun v3 w =>
 kU P (Instr.storeAt 101 v3 v8) w fun _ w =>
 kV P (Instr.fieldAt 101 v3 1) w fun v10 w =>
 kV P (Instr.loadAt 5 v10) w fun v11 w =>
 K v11 w
theorem F13_eq (t0 : Value) : funE P ⟨[], [], []⟩ Tryz.f13 [t0] w K = F13 P w K t0 := by kernel_rfl
theorem F13_ok (t0 : Value) (h : F13 Tryz.prog w K t0) : callsK Tryz.prog 13 #[t0] w K := calls_of_eq mixedN Tryz.func13 (F13_eq _ w K t0) h
def F17 (t0 : Value) : Prop :=
 kV P (Instr.box 24 t0) w fun v1 w =>
 kV P (Instr.alloc 24 true (.tuple #[])) w fun v2 w =>
 kV P (Instr.loadAt 24 v1) w fun v4 w =>
 kN P (callN (.func (.func 45) #[] #[]) #[v4]) w fun v5 w =>
 kV P (Instr.alloc 121 true (.tuple #[])) w fun v3 w =>
 kU P (Instr.storeAt 121 v3 v5) w fun _ w =>
 kV P (Instr.fieldAt 121 v3 2) w fun v6 w =>
 kV P (Instr.loadAt 4 v6) w fun v7 w =>
 kV P (Op.unary .not v7) w fun v8 w =>
 joinK (fun J0 : Value -> World -> Prop => gdK (yb v8) false (fun k => kV P (Instr.fieldAt 121 v3 1) w k) w fun v10 w =>
 gdK (yb v8) false (fun k => kV P (Instr.fieldAt 28 v10 2) w k) w fun v11 w =>
 gdK (yb v8) false (fun k => kV P (Instr.loadAt 22 v11) w k) w fun v12 w =>
 gdK (yb v8) false (fun k => kV P (binV .neq 22 (.tmp 12) (.const (.int .u64 1)) v12 (.int .u64 1)) w k) w fun v13 w =>
 kN P (pickN v8 (.bool true) v13) w fun v14_1 w =>
 J0 v14_1 w) fun v14 w =>
 condK v14
 (kV P (Instr.loadAt 24 v1) w fun v15 w =>
 kU P (Instr.storeAt 24 v2 v15) w fun _ w =>
 retV P 24 v2 w fun r1 =>
 K r1 w)
 (kV P (Instr.loadAt 121 v3) w fun v16 w =>
 kN P (callN (.func (.func 46) #[] #[]) #[v16, (.bool true), (.int .u64 0)]) w fun v17 w =>
 kU P (Instr.storeAt 24 v2 v17) w fun _ w =>
 retV P 24 v2 w fun r2 =>
 K r2 w)
theorem F17_eq (t0 : Value) : funE P ⟨[], [], []⟩ Tryz.f17 [t0] w K = F17 P w K t0 := by kernel_rfl
theorem F17_ok (t0 : Value) (h : F17 Tryz.prog w K t0) : callsK Tryz.prog 17 #[t0] w K := calls_of_eq mixedN Tryz.func17 (F17_eq _ w K t0) h
def F26 (t0 t1 t2 : Value) : Prop :=
 kV P (Instr.box 35 t0) w fun v3 w =>
 kV P (Instr.box 84 t2) w fun v5 w =>
 kV P (Instr.alloc 35 true (.tuple #[])) w fun v6 w =>
 kV P (binV .rem 22 (.tmp 10) (.const (.int .u64 16)) t1 (.int .u64 16)) w fun v11 w =>
 kV P (binV .neq 22 (.tmp 11) (.const (.int .u64 0)) v11 (.int .u64 0)) w fun v12 w =>
 joinK (fun J0 : Value -> World -> Prop => gdK (yb v12) false (fun k => k t1 w) w fun v14 w =>
 gdK (yb v12) false (fun k => kV P (Instr.loadAt 35 v3) w k) w fun v15 w =>
 gdK (yb v12) false (fun k => kN P (callN (.func (.func 62) #[] #[]) #[v15]) w k) w fun v16 w =>
 gdK (yb v12) false (fun k => kV P (binV .geq 22 (.tmp 14) (.tmp 16) v14 v16) w k) w fun v17 w =>
 kN P (pickN v12 (.bool true) v17) w fun v18_1 w =>
 J0 v18_1 w) fun v18 w =>
 condK v18
 (kV P (Instr.loadAt 35 v3) w fun v19 w =>
 kU P (Instr.storeAt 35 v6 v19) w fun _ w =>
 retV P 35 v6 w fun r1 =>
 K (.tuple #[r1, (.int .i64 2)]) w)
 (kV P (Instr.loadAt 84 v5) w fun v20 w =>
 kN P (callN (.func (.func 63) #[] #[]) #[v20]) w fun v21 w =>
 kV P (Instr.alloc 152 true (.tuple #[])) w fun v8 w =>
 kU P (Instr.storeAt 152 v8 v21) w fun _ w =>
 loopT (fun R2 s2 w => ∀ _ : Nat -> Value,
 kV P (binV .lss 3 (.tmp 22) (.const (.int .i64 16)) (s2.getD 0 undef) (.int .i64 16)) w fun v23 w =>
 condK v23
 (drewK (fun w =>
 sV P (Instr.loadAt 35 v3) w fun v26 =>
 sV P (convert 3 22 (s2.getD 0 undef)) w fun v29 =>
 sV P (binV .add 22 (.tmp 27) (.tmp 29) t1 v29) w fun v30 =>
 sV P (Instr.indexAt 152 v8 (s2.getD 0 undef)) w fun v32 =>
 sV P (Instr.loadAt 5 v32) w fun v33 =>
 kN P (callN (.func (.func 59) #[] #[]) #[v26, v30, v33]) w fun v34 w =>
 kU P (Instr.storeAt 35 v3 v34) w fun _ w =>
 kV P (binV .add 3 (.tmp 24) (.const (.int .i64 1)) (s2.getD 0 undef) (.int .i64 1)) w fun v25 w =>
 R2 [v25] w) w)
 (joinL (fun J4 =>
 kV P (Instr.fieldAt 84 v5 0) w fun v35 w =>
 kV P (Instr.loadAt 4 v35) w fun v36 w =>
 condK v36
 (kV P (Instr.fieldAt 35 v3 3) w fun v37 w =>
 kV P (Instr.loadAt 32 v37) w fun v38 w =>
 kV P (Instr.buildSlice 32 1 #[(0, t1)]) w fun v40 w =>
 kV P (Builtin.append_ #[32, 32] 32 #[v38, v40]) w fun v41 w =>
 kV P (Instr.fieldAt 35 v3 3) w fun v42 w =>
 kU P (Instr.storeAt 32 v42 v41) w fun _ w =>
 J4 [] w)
 (J4 [] w)) fun s4 w => ∀ _ : Nat -> Value,
 kV P (Instr.loadAt 35 v3) w fun v43 w =>
 kU P (Instr.storeAt 35 v6 v43) w fun _ w =>
 retV P 35 v6 w fun r6 =>
 K (.tuple #[r6, (.int .i64 0)]) w)) [(.int .i64 0)] w)
theorem F26_eq (t0 t1 t2 : Value) : funE P ⟨[(7, 8)], [(5, [9])], [(10, [])]⟩ Tryz.f26 [t0, t1, t2] w K = F26 P w K t0 t1 t2 := by kernel_rfl
theorem F26_ok (t0 t1 t2 : Value) (h : F26 Tryz.prog w K t0 t1 t2) : callsK Tryz.prog 26 #[t0, t1, t2] w K := calls_of_eq mixedN Tryz.func26 (F26_eq _ w K t0 t1 t2) h
def F34 (t0 : Value) : Prop :=
 kV P (Instr.alloc 101 true (.tuple #[])) w fun v2 w =>
 kV P (binV .lss 3 (.tmp 4) (.const (.int .i64 1)) t0 (.int .i64 1)) w fun v5 w =>
 joinK (fun J0 : Value -> World -> Prop => gdK (yb v5) false (fun k => k t0 w) w fun v7 w =>
 gdK (yb v5) false (fun k => kV P (binV .gtr 3 (.tmp 7) (.const (.int .i64 69)) v7 (.int .i64 69)) w k) w fun v8 w =>
 kN P (pickN v5 (.bool true) v8) w fun v9_1 w =>
 J0 v9_1 w) fun v9 w =>
 condK v9
 (kV P (Instr.build 101 #[]) w fun v10 w =>
 kU P (Instr.storeAt 101 v2 v10) w fun _ w =>
 retV P 101 v2 w fun r1 =>
 K (.tuple #[r1, (.bool false)]) w)
 (kN P (callN (.func (.func 68) #[] #[]) #[]) w fun v11 w =>
 kV P (binV .sub 3 (.tmp 12) (.const (.int .i64 1)) t0 (.int .i64 1)) w fun v13 w =>
 kV P (Instr.index 160 v11 v13) w fun v14 w =>
 kU P (Instr.storeAt 101 v2 v14) w fun _ w =>
 retV P 101 v2 w fun r2 =>
 K (.tuple #[r2, (.bool true)]) w)
theorem F34_eq (t0 : Value) : funE P ⟨[], [], []⟩ Tryz.f34 [t0] w K = F34 P w K t0 := by kernel_rfl
theorem F34_ok (t0 : Value) (h : F34 Tryz.prog w K t0) : callsK Tryz.prog 34 #[t0] w K := calls_of_eq mixedN Tryz.func34 (F34_eq _ w K t0) h
def F46 (t0 t1 t2 : Value) : Prop :=
 kV P (Instr.box 121 t0) w fun v3 w =>
 kV P (Instr.alloc 24 true (.tuple #[])) w fun v6 w =>
 kV P (Op.unary .not t1) w fun v8 w =>
 condK v8
 (kV P (Instr.fieldAt 121 v3 0) w fun v9 w =>
 kV P (Instr.loadAt 24 v9) w fun v10 w =>
 kN P (callN (.func (.func 87) #[] #[]) #[v10]) w fun v11 w =>
 kU P (Instr.storeAt 24 v6 v11) w fun _ w =>
 retV P 24 v6 w fun r0 =>
 K r0 w)
 (kV P (Instr.fieldAt 121 v3 0) w fun v12 w =>
 kV P (Instr.fieldAt 24 v12 1) w fun v13 w =>
 kV P (Instr.loadAt 22 v13) w fun v14 w =>
 kV P (Instr.fieldAt 121 v3 1) w fun v15 w =>
 kV P (Instr.fieldAt 28 v15 2) w fun v16 w =>
 kV P (Instr.loadAt 22 v16) w fun v17 w =>
 kV P (binV .xor 22 (.tmp 17) (.tmp 18) v17 t2) w fun v19 w =>
 kV P (binV .shl 22 (.tmp 19) (.const (.int .u64 48)) v19 (.int .u64 48)) w fun v20 w =>
 kV P (binV .xor 22 (.tmp 14) (.tmp 20) v14 v20) w fun v21 w =>
 kV P (Instr.fieldAt 121 v3 0) w fun v22 w =>
 kV P (Instr.fieldAt 24 v22 1) w fun v23 w =>
 kU P (Instr.storeAt 22 v23 v21) w fun _ w =>
 kV P (Instr.fieldAt 121 v3 0) w fun v24 w =>
 kV P (Instr.loadAt 24 v24) w fun v25 w =>
 kU P (Instr.storeAt 24 v6 v25) w fun _ w =>
 retV P 24 v6 w fun r1 =>
 K r1 w)
theorem F46_eq (t0 t1 t2 : Value) : funE P ⟨[], [], []⟩ Tryz.f46 [t0, t1, t2] w K = F46 P w K t0 t1 t2 := by kernel_rfl
theorem F46_ok (t0 t1 t2 : Value) (h : F46 Tryz.prog w K t0 t1 t2) : callsK Tryz.prog 46 #[t0, t1, t2] w K := calls_of_eq mixedN Tryz.func46 (F46_eq _ w K t0 t1 t2) h
def F63 (t0 : Value) : Prop :=
 kV P (Instr.box 84 t0) w fun v1 w =>
 kV P (Instr.alloc 152 true (.tuple #[])) w fun v2 w =>
 kV P (Instr.alloc 152 true (.tuple #[])) w fun v3 w =>
 loopT (fun R0 s0 w => ∀ _ : Nat -> Value,
 kV P (binV .lss 3 (.tmp 5) (.const (.int .i64 8)) (s0.getD 0 undef) (.int .i64 8)) w fun v6 w =>
 condK v6
 (kV P (Instr.fieldAt 84 v1 2) w fun v10 w =>
 kV P (Instr.loadAt 22 v10) w fun v11 w =>
 kV P (binV .mul 3 (.const (.int .i64 8)) (.tmp 12) (.int .i64 8) (s0.getD 0 undef)) w fun v13 w =>
 kV P (convert 3 151 v13) w fun v14 w =>
 kV P (binV .shr 22 (.tmp 11) (.tmp 14) v11 v14) w fun v15 w =>
 kV P (convert 22 5 v15) w fun v16 w =>
 kV P (Instr.indexAt 152 v3 (s0.getD 0 undef)) w fun v17 w =>
 kU P (Instr.storeAt 5 v17 v16) w fun _ w =>
 kV P (binV .add 3 (.const (.int .i64 8)) (.tmp 18) (.int .i64 8) (s0.getD 0 undef)) w fun v19 w =>
 kV P (Instr.fieldAt 84 v1 1) w fun v20 w =>
 kV P (Instr.loadAt 22 v20) w fun v21 w =>
 kV P (binV .mul 3 (.const (.int .i64 8)) (.tmp 22) (.int .i64 8) (s0.getD 0 undef)) w fun v23 w =>
 kV P (convert 3 151 v23) w fun v24 w =>
 kV P (binV .shr 22 (.tmp 21) (.tmp 24) v21 v24) w fun v25 w =>
 kV P (convert 22 5 v25) w fun v26 w =>
 kV P (Instr.indexAt 152 v3 v19) w fun v27 w =>
 kU P (Instr.storeAt 5 v27 v26) w fun _ w =>
 kV P (binV .add 3 (.tmp 7) (.const (.int .i64 1)) (s0.getD 0 undef) (.int .i64 1)) w fun v8 w =>
 R0 [v8] w)
 (kV P (Instr.loadAt 152 v3) w fun v28 w =>
 kU P (Instr.storeAt 152 v2 v28) w fun _ w =>
 retV P 152 v2 w fun r2 =>
 K r2 w)) [(.int .i64 0)] w
theorem F63_eq (t0 : Value) : funE P ⟨[], [(3, [4])], []⟩ Tryz.f63 [t0] w K = F63 P w K t0 := by kernel_rfl
theorem F63_ok (t0 : Value) (h : F63 Tryz.prog w K t0) : callsK Tryz.prog 63 #[t0] w K := calls_of_eq mixedN Tryz.func63 (F63_eq _ w K t0) h
def F71 (t0 : Value) : Prop :=
 kV P (Instr.alloc 42 true (.tuple #[])) w fun v2 w =>
 kV P (Instr.alloc 51 true (.tuple #[])) w fun v3 w =>
 joinL (fun J0 =>
 joinL (fun J4 =>
 drewK (fun w =>
 pN P (nilN t0) fun v8 =>
 pV P (Instr.fieldAt 91 v8 3) fun v9 =>
 pV P (Instr.fieldAt 49 v9 0) fun v10 =>
 pN P (nilN t0) fun v13 =>
 pV P (Instr.fieldAt 91 v13 4) fun v14 =>
 pV P (Instr.fieldAt 24 v14 2) fun v15 =>
 pN P (nilN t0) fun v18 =>
 pV P (Instr.fieldAt 91 v18 5) fun v19 =>
 pV P (Instr.fieldAt 24 v19 2) fun v20 =>
 (kV P (Instr.loadAt 3 v10) w fun v11 w =>
 (kV P (Instr.loadAt 22 v15) w fun v16 w =>
 kV P (Instr.loadAt 22 v20) w fun v21 w =>
 kN P (callN (.func (.func 95) #[] #[]) #[v11, v16, v21]) w fun v22 w =>
 pV P (Instr.extract v22 0) fun v23 =>
 pV P (Instr.extract v22 1) fun v24 =>
 J4 [v23] w) /\
 (kV P (Instr.loadAt 22 v20) w fun v21_1 w =>
 kV P (Instr.loadAt 22 v15) w fun v16_1 w =>
 kN P (callN (.func (.func 95) #[] #[]) #[v11, v16_1, v21_1]) w fun v22_1 w =>
 pV P (Instr.extract v22_1 0) fun v23_1 =>
 pV P (Instr.extract v22_1 1) fun v24_1 =>
 J4 [v23_1] w)) /\
 (kV P (Instr.loadAt 22 v15) w fun v16_2 w =>
 (kV P (Instr.loadAt 3 v10) w fun v11_1 w =>
 kV P (Instr.loadAt 22 v20) w fun v21_2 w =>
 kN P (callN (.func (.func 95) #[] #[]) #[v11_1, v16_2, v21_2]) w fun v22_2 w =>
 pV P (Instr.extract v22_2 0) fun v23_2 =>
 pV P (Instr.extract v22_2 1) fun v24_2 =>
 J4 [v23_2] w) /\
 (kV P (Instr.loadAt 22 v20) w fun v21_3 w =>
 kV P (Instr.loadAt 3 v10) w fun v11_2 w =>
 kN P (callN (.func (.func 95) #[] #[]) #[v11_2, v16_2, v21_3]) w fun v22_3 w =>
 pV P (Instr.extract v22_3 0) fun v23_3 =>
 pV P (Instr.extract v22_3 1) fun v24_3 =>
 J4 [v23_3] w)) /\
 (kV P (Instr.loadAt 22 v20) w fun v21_4 w =>
 (kV P (Instr.loadAt 3 v10) w fun v11_3 w =>
 kV P (Instr.loadAt 22 v15) w fun v16_3 w =>
 kN P (callN (.func (.func 95) #[] #[]) #[v11_3, v16_3, v21_4]) w fun v22_4 w =>
 pV P (Instr.extract v22_4 0) fun v23_4 =>
 pV P (Instr.extract v22_4 1) fun v24_4 =>
 J4 [v23_4] w) /\
 (kV P (Instr.loadAt 22 v15) w fun v16_4 w =>
 kV P (Instr.loadAt 3 v10) w fun v11_4 w =>
 kN P (callN (.func (.func 95) #[] #[]) #[v11_4, v16_4, v21_4]) w fun v22_5 w =>
 pV P (Instr.extract v22_5 0) fun v23_5 =>
 pV P (Instr.extract v22_5 1) fun v24_5 =>
 J4 [v23_5] w))) w) fun s4 w => ∀ _ : Nat -> Value,
 condK (s4.getD 0 undef)
 (drewK (fun w =>
 pN P (nilN t0) fun v28 =>
 pV P (Instr.fieldAt 91 v28 1) fun v29 =>
 pV P (Instr.fieldAt 42 v29 1) fun v30 =>
 pN P (nilN t0) fun v33 =>
 pV P (Instr.fieldAt 91 v33 3) fun v34 =>
 pV P (Instr.fieldAt 49 v34 4) fun v35 =>
 (kV P (Instr.loadAt 24 v30) w fun v31 w =>
 kV P (Instr.loadAt 2 v35) w fun v36 w =>
 pV P (convert 2 22 v36) fun v37 =>
 kN P (callN (.func (.func 16) #[] #[]) #[v31, v37]) w fun v38 w =>
 pN P (nilN t0) fun v39 =>
 pV P (Instr.fieldAt 91 v39 0) fun v40 =>
 pV P (Instr.fieldAt 42 v40 1) fun v41 =>
 kU P (Instr.storeAt 24 v41 v38) w fun _ w =>
 J0 [] w) /\
 (kV P (Instr.loadAt 2 v35) w fun v36_1 w =>
 pV P (convert 2 22 v36_1) fun v37_1 =>
 kV P (Instr.loadAt 24 v30) w fun v31_1 w =>
 kN P (callN (.func (.func 16) #[] #[]) #[v31_1, v37_1]) w fun v38_1 w =>
 pN P (nilN t0) fun v39_1 =>
 pV P (Instr.fieldAt 91 v39_1 0) fun v40_1 =>
 pV P (Instr.fieldAt 42 v40_1 1) fun v41_1 =>
 kU P (Instr.storeAt 24 v41_1 v38_1) w fun _ w =>
 J0 [] w)) w)
 (J0 [] w)) fun s0 w => ∀ _ : Nat -> Value,
 kN P (callN (.func (.func 96) #[] #[]) #[t0]) w fun v43 w =>
 kV P (Instr.extract v43 0) w fun v44 w =>
 kV P (Instr.extract v43 1) w fun v45 w =>
 kU P (Instr.storeAt 42 v2 v44) w fun _ w =>
 kU P (Instr.storeAt 51 v3 v45) w fun _ w =>
 retV P 42 v2 w fun r2 =>
 retV P 51 v3 w fun r3 =>
 K (.tuple #[r2, r3]) w
theorem F71_eq (t0 : Value) : funE P ⟨[(1, 999), (3, 999)], [], [(4, []), (2, [4])]⟩ Tryz.f71 [t0] w K = F71 P w K t0 := by kernel_rfl
theorem F71_ok (t0 : Value) (h : F71 Tryz.prog w K t0) : callsK Tryz.prog 71 #[t0] w K := calls_of_eq mixedN Tryz.func71 (F71_eq _ w K t0) h
def F75 (t0 : Value) : Prop :=
 kV P (Instr.box 24 t0) w fun v1 w =>
 kV P (Instr.alloc 24 true (.tuple #[])) w fun v2 w =>
 kV P (Instr.loadAt 24 v1) w fun v4 w =>
 kN P (callN (.func (.func 45) #[] #[]) #[v4]) w fun v5 w =>
 kV P (Instr.alloc 121 true (.tuple #[])) w fun v3 w =>
 kU P (Instr.storeAt 121 v3 v5) w fun _ w =>
 drewK (fun w =>
 relX fun R0 =>
 postX R0 (fun p0_6 => allX R0 w fun V0 w => True -> kV P (Instr.loadAt 121 v3) w (okX R0 w p0_6)) fun p0_6 =>
 postX R0 (fun p0_7 => allX R0 w fun V0 w => True -> kV P (Instr.loadAt 121 v3) w (okX R0 w p0_7)) fun p0_7 =>
 postX R0 (fun p0_8 => allX R0 w fun V0 w => p0_7 (V0 7) w /\ True -> kN P (callN (.func (.func 64) #[] #[]) #[(V0 7)]) w (okX R0 w p0_8)) fun p0_8 =>
 postX R0 (fun p0_9 => allX R0 w fun V0 w => p0_8 (V0 8) w /\ True -> (okX R0 w p0_9) (V0 8) w) fun p0_9 =>
 postX R0 (fun p0_10 => allX R0 w fun V0 w => p0_9 (V0 9) w /\ True -> gdK (yb (V0 9)) true (fun k => kV P (Instr.fieldAt 121 v3 1) w k) w (okX R0 w p0_10)) fun p0_10 =>
 postX R0 (fun p0_11 => allX R0 w fun V0 w => p0_9 (V0 9) w /\ p0_10 (V0 10) w /\ True -> gdK (yb (V0 9)) true (fun k => kV P (Instr.fieldAt 28 (V0 10) 1) w k) w (okX R0 w p0_11)) fun p0_11 =>
 postX R0 (fun p0_12 => allX R0 w fun V0 w => p0_9 (V0 9) w /\ p0_11 (V0 11) w /\ True -> gdK (yb (V0 9)) true (fun k => kV P (Instr.loadAt 22 (V0 11)) w k) w (okX R0 w p0_12)) fun p0_12 =>
 postX R0 (fun p0_13 => allX R0 w fun V0 w => p0_9 (V0 9) w /\ p0_12 (V0 12) w /\ True -> gdK (yb (V0 9)) true (fun k => kN P (callN (.func (.func 65) #[] #[]) #[(.int .u64 4), (V0 12)]) w k) w (okX R0 w p0_13)) fun p0_13 =>
 postX R0 (fun p0_14 => allX R0 w fun V0 w => p0_9 (V0 9) w /\ p0_13 (V0 13) w /\ True -> kN P (pickN (V0 9) (V0 13) (.bool false)) w (okX R0 w p0_14)) fun p0_14 =>
 allX R0 w fun V0 w => p0_6 (V0 6) w /\ p0_7 (V0 7) w /\ p0_8 (V0 8) w /\ p0_9 (V0 9) w /\ p0_10 (V0 10) w /\ p0_11 (V0 11) w /\ p0_12 (V0 12) w /\ p0_13 (V0 13) w /\ p0_14 (V0 14) w /\ True -> xDist V0 [] ->
 kN P (callN (.func (.func 46) #[] #[]) #[(V0 6), (V0 14), (.int .u64 1)]) w fun v15 w =>
 kU P (Instr.storeAt 24 v2 v15) w fun _ w =>
 retV P 24 v2 w fun r1 =>
 K r1 w) w
theorem F75_eq (t0 : Value) : funE P ⟨[(2, 1009)], [], []⟩ Tryz.f75 [t0] w K = F75 P w K t0 := by kernel_rfl
theorem F75_ok (t0 : Value) (h : F75 Tryz.prog w K t0) : callsK Tryz.prog 75 #[t0] w K := calls_of_eq mixedN Tryz.func75 (F75_eq _ w K t0) h
def F76 (t0 : Value) : Prop :=
 kV P (Instr.alloc 42 true (.tuple #[])) w fun v2 w =>
 kV P (Instr.alloc 51 true (.tuple #[])) w fun v3 w =>
 kN P (nilN t0) w fun v10 w =>
 kV P (Instr.fieldAt 91 v10 4) w fun v11 w =>
 kV P (Instr.loadAt 24 v11) w fun v12 w =>
 kN P (callN (.func (.func 15) #[] #[]) #[v12]) w fun v13 w =>
 kV P (Instr.extract v13 0) w fun v14 w =>
 kV P (Instr.extract v13 1) w fun v15 w =>
 kV P (Instr.alloc 28 true (.tuple #[])) w fun v4 w =>
 kU P (Instr.storeAt 28 v4 v14) w fun _ w =>
 kN P (nilN t0) w fun v17 w =>
 kV P (Instr.fieldAt 91 v17 4) w fun v18 w =>
 kV P (Instr.fieldAt 24 v18 0) w fun v19 w =>
 kV P (Instr.loadAt 4 v19) w fun v20 w =>
 joinK (fun J0 : Value -> World -> Prop => gdK (yb v20) true (fun k => kV P (Instr.fieldAt 28 v4 2) w k) w fun v22 w =>
 gdK (yb v20) true (fun k => kV P (Instr.loadAt 22 v22) w k) w fun v23 w =>
 gdK (yb v20) true (fun k => kV P (binV .eql 22 (.tmp 23) (.const (.int .u64 1)) v23 (.int .u64 1)) w k) w fun v24 w =>
 kN P (pickN v20 v24 (.bool false)) w fun v25_1 w =>
 J0 v25_1 w) fun v25 w =>
 joinK (fun J1 : Value -> World -> Prop => gdK (yb v25) true (fun k => k t0 w) w fun v27 w =>
 gdK (yb v25) true (fun k => kN P (nilN v27) w k) w fun v28 w =>
 gdK (yb v25) true (fun k => kV P (Instr.fieldAt 91 v28 3) w k) w fun v29 w =>
 gdK (yb v25) true (fun k => kV P (Instr.fieldAt 49 v29 4) w k) w fun v30 w =>
 gdK (yb v25) true (fun k => kV P (Instr.loadAt 2 v30) w k) w fun v31 w =>
 gdK (yb v25) true (fun k => kV P (binV .neq 2 (.tmp 31) (.const (.int .i64 0)) v31 (.int .i64 0)) w k) w fun v32 w =>
 kN P (pickN v25 v32 (.bool false)) w fun v33_1 w =>
 J1 v33_1 w) fun v33 w =>
 condK v33
 (kN P (nilN t0) w fun v36 w =>
 kV P (Instr.fieldAt 91 v36 4) w fun v37 w =>
 kV P (Instr.fieldAt 24 v37 2) w fun v38 w =>
 kV P (Instr.loadAt 22 v38) w fun v39 w =>
 kN P (callN (.func (.func 30) #[] #[]) #[t0, (.int .i64 5), (.int .i64 2), v39]) w fun v40 w =>
 kV P (Instr.extract v40 0) w fun v41 w =>
 kV P (Instr.extract v40 1) w fun v42 w =>
 kU P (Instr.storeAt 42 v2 v41) w fun _ w =>
 kU P (Instr.storeAt 51 v3 v42) w fun _ w =>
 retV P 42 v2 w fun r2 =>
 retV P 51 v3 w fun r3 =>
 K (.tuple #[r2, r3]) w)
 (kN P (nilN t0) w fun v44 w =>
 kV P (Instr.fieldAt 91 v44 4) w fun v45 w =>
 kV P (Instr.loadAt 24 v45) w fun v46 w =>
 kN P (callN (.func (.func 17) #[] #[]) #[v46]) w fun v47 w =>
 kV P (Instr.alloc 24 true (.tuple #[])) w fun v6 w =>
 kU P (Instr.storeAt 24 v6 v47) w fun _ w =>
 kV P (Instr.loadAt 24 v6) w fun v48 w =>
 kN P (callN (.func (.func 29) #[] #[]) #[v48, (.int .i64 0), (.int .u64 0)]) w fun v49 w =>
 kV P (binV .neq 3 (.tmp 50) (.const (.int .i64 0)) v49 (.int .i64 0)) w fun v51 w =>
 condK v51
 (kN P (nilN t0) w fun v55 w =>
 kV P (Instr.fieldAt 91 v55 4) w fun v56 w =>
 kV P (Instr.fieldAt 24 v56 2) w fun v57 w =>
 kV P (Instr.loadAt 22 v57) w fun v58 w =>
 kN P (callN (.func (.func 30) #[] #[]) #[t0, (.int .i64 5), v49, v58]) w fun v59 w =>
 kV P (Instr.extract v59 0) w fun v60 w =>
 kV P (Instr.extract v59 1) w fun v61 w =>
 kU P (Instr.storeAt 42 v2 v60) w fun _ w =>
 kU P (Instr.storeAt 51 v3 v61) w fun _ w =>
 retV P 42 v2 w fun r4 =>
 retV P 51 v3 w fun r5 =>
 K (.tuple #[r4, r5]) w)
 (joinL (fun J6 =>
 drewK (fun w =>
 pV P (Instr.fieldAt 24 v6 2) fun v64 =>
 pN P (nilN t0) fun v67 =>
 pV P (Instr.fieldAt 91 v67 3) fun v68 =>
 pV P (Instr.fieldAt 49 v68 4) fun v69 =>
 (kV P (Instr.loadAt 24 v6) w fun v63 w =>
 (kV P (Instr.loadAt 22 v64) w fun v65 w =>
 kV P (Instr.loadAt 2 v69) w fun v70 w =>
 pV P (convert 2 22 v70) fun v71 =>
 pV P (binV .add 22 (.tmp 65) (.tmp 71) v65 v71) fun v72 =>
 pV P (binV .andNot 22 (.tmp 72) (.const (.int .u64 1)) v72 (.int .u64 1)) fun v73 =>
 kN P (callN (.func (.func 44) #[] #[]) #[v63, v73]) w fun v74 w =>
 pN P (nilN t0) fun v75 =>
 pV P (Instr.fieldAt 91 v75 0) fun v76 =>
 pV P (Instr.fieldAt 42 v76 1) fun v77 =>
 kU P (Instr.storeAt 24 v77 v74) w fun _ w =>
 J6 [] w) /\
 (kV P (Instr.loadAt 2 v69) w fun v70_1 w =>
 pV P (convert 2 22 v70_1) fun v71_1 =>
 kV P (Instr.loadAt 22 v64) w fun v65_1 w =>
 pV P (binV .add 22 (.tmp 65) (.tmp 71) v65_1 v71_1) fun v72_1 =>
 pV P (binV .andNot 22 (.tmp 72) (.const (.int .u64 1)) v72_1 (.int .u64 1)) fun v73_1 =>
 kN P (callN (.func (.func 44) #[] #[]) #[v63, v73_1]) w fun v74_1 w =>
 pN P (nilN t0) fun v75_1 =>
 pV P (Instr.fieldAt 91 v75_1 0) fun v76_1 =>
 pV P (Instr.fieldAt 42 v76_1 1) fun v77_1 =>
 kU P (Instr.storeAt 24 v77_1 v74_1) w fun _ w =>
 J6 [] w)) /\
 (kV P (Instr.loadAt 22 v64) w fun v65_2 w =>
 (kV P (Instr.loadAt 24 v6) w fun v63_1 w =>
 kV P (Instr.loadAt 2 v69) w fun v70_2 w =>
 pV P (convert 2 22 v70_2) fun v71_2 =>
 pV P (binV .add 22 (.tmp 65) (.tmp 71) v65_2 v71_2) fun v72_2 =>
 pV P (binV .andNot 22 (.tmp 72) (.const (.int .u64 1)) v72_2 (.int .u64 1)) fun v73_2 =>
 kN P (callN (.func (.func 44) #[] #[]) #[v63_1, v73_2]) w fun v74_2 w =>
 pN P (nilN t0) fun v75_2 =>
 pV P (Instr.fieldAt 91 v75_2 0) fun v76_2 =>
 pV P (Instr.fieldAt 42 v76_2 1) fun v77_2 =>
 kU P (Instr.storeAt 24 v77_2 v74_2) w fun _ w =>
 J6 [] w) /\
 (kV P (Instr.loadAt 2 v69) w fun v70_3 w =>
 pV P (convert 2 22 v70_3) fun v71_3 =>
 pV P (binV .add 22 (.tmp 65) (.tmp 71) v65_2 v71_3) fun v72_3 =>
 pV P (binV .andNot 22 (.tmp 72) (.const (.int .u64 1)) v72_3 (.int .u64 1)) fun v73_3 =>
 kV P (Instr.loadAt 24 v6) w fun v63_2 w =>
 kN P (callN (.func (.func 44) #[] #[]) #[v63_2, v73_3]) w fun v74_3 w =>
 pN P (nilN t0) fun v75_3 =>
 pV P (Instr.fieldAt 91 v75_3 0) fun v76_3 =>
 pV P (Instr.fieldAt 42 v76_3 1) fun v77_3 =>
 kU P (Instr.storeAt 24 v77_3 v74_3) w fun _ w =>
 J6 [] w)) /\
 (kV P (Instr.loadAt 2 v69) w fun v70_4 w =>
 pV P (convert 2 22 v70_4) fun v71_4 =>
 (kV P (Instr.loadAt 24 v6) w fun v63_3 w =>
 kV P (Instr.loadAt 22 v64) w fun v65_3 w =>
 pV P (binV .add 22 (.tmp 65) (.tmp 71) v65_3 v71_4) fun v72_4 =>
 pV P (binV .andNot 22 (.tmp 72) (.const (.int .u64 1)) v72_4 (.int .u64 1)) fun v73_4 =>
 kN P (callN (.func (.func 44) #[] #[]) #[v63_3, v73_4]) w fun v74_4 w =>
 pN P (nilN t0) fun v75_4 =>
 pV P (Instr.fieldAt 91 v75_4 0) fun v76_4 =>
 pV P (Instr.fieldAt 42 v76_4 1) fun v77_4 =>
 kU P (Instr.storeAt 24 v77_4 v74_4) w fun _ w =>
 J6 [] w) /\
 (kV P (Instr.loadAt 22 v64) w fun v65_4 w =>
 pV P (binV .add 22 (.tmp 65) (.tmp 71) v65_4 v71_4) fun v72_5 =>
 pV P (binV .andNot 22 (.tmp 72) (.const (.int .u64 1)) v72_5 (.int .u64 1)) fun v73_5 =>
 kV P (Instr.loadAt 24 v6) w fun v63_4 w =>
 kN P (callN (.func (.func 44) #[] #[]) #[v63_4, v73_5]) w fun v74_5 w =>
 pN P (nilN t0) fun v75_5 =>
 pV P (Instr.fieldAt 91 v75_5 0) fun v76_5 =>
 pV P (Instr.fieldAt 42 v76_5 1) fun v77_5 =>
 kU P (Instr.storeAt 24 v77_5 v74_5) w fun _ w =>
 J6 [] w))) w) fun s6 w => ∀ _ : Nat -> Value,
 kN P (nilN t0) w fun v80 w =>
 kV P (Instr.fieldAt 91 v80 1) w fun v81 w =>
 kV P (Instr.loadAt 42 v81) w fun v82 w =>
 kN P (callN (.func (.func 28) #[] #[]) #[v82]) w fun v83 w =>
 kV P (Instr.field 42 v83 1) w fun v84 w =>
 kN P (callN (.func (.func 75) #[] #[]) #[v84]) w fun v85 w =>
 kN P (callN (.func (.func 74) #[] #[]) #[t0, v85]) w fun v86 w =>
 kV P (Instr.extract v86 0) w fun v87 w =>
 kV P (Instr.extract v86 1) w fun v88 w =>
 kU P (Instr.storeAt 42 v2 v87) w fun _ w =>
 kU P (Instr.storeAt 51 v3 v88) w fun _ w =>
 retV P 42 v2 w fun r8 =>
 retV P 51 v3 w fun r9 =>
 K (.tuple #[r8, r9]) w))
theorem F76_eq (t0 : Value) : funE P ⟨[(8, 999)], [], [(9, [])]⟩ Tryz.f76 [t0] w K = F76 P w K t0 := by kernel_rfl
theorem F76_ok (t0 : Value) (h : F76 Tryz.prog w K t0) : callsK Tryz.prog 76 #[t0] w K := calls_of_eq mixedN Tryz.func76 (F76_eq _ w K t0) h
def F95 (t0 t1 t2 : Value) : Prop :=
 kV P (Instr.box 22 t1) w fun v4 w =>
 kV P (Instr.box 22 t2) w fun v5 w =>
 kV P (binV .eql 3 (.tmp 10) (.const (.int .i64 5)) t0 (.int .i64 5)) w fun v12 w =>
 condK v12
 (kV P (Instr.loadAt 22 v4) w fun v13 w =>
 kV P (Instr.loadAt 22 v5) w fun v14 w =>
 kV P (binV .eql 22 (.tmp 13) (.tmp 14) v13 v14) w fun v15 w =>
 K (.tuple #[v15, (.bool true)]) w)
 (kV P (binV .eql 3 (.tmp 10) (.const (.int .i64 6)) t0 (.int .i64 6)) w fun v17 w =>
 condK v17
 (kV P (Instr.loadAt 22 v4) w fun v18 w =>
 kV P (Instr.loadAt 22 v5) w fun v19 w =>
 kV P (binV .neq 22 (.tmp 18) (.tmp 19) v18 v19) w fun v20 w =>
 K (.tuple #[v20, (.bool true)]) w)
 (kV P (binV .eql 3 (.tmp 10) (.const (.int .i64 7)) t0 (.int .i64 7)) w fun v22 w =>
 condK v22
 (kN P (callN (.func (.func 113) #[] #[v4, v5]) #[(.bool true)]) w fun v24 w =>
 K (.tuple #[v24, (.bool true)]) w)
 (kV P (binV .eql 3 (.tmp 10) (.const (.int .i64 8)) t0 (.int .i64 8)) w fun v26 w =>
 condK v26
 (kN P (callN (.func (.func 113) #[] #[v4, v5]) #[(.bool true)]) w fun v28 w =>
 kV P (Op.unary .not v28) w fun v29 w =>
 K (.tuple #[v29, (.bool true)]) w)
 (kV P (binV .eql 3 (.tmp 10) (.const (.int .i64 9)) t0 (.int .i64 9)) w fun v31 w =>
 condK v31
 (kN P (callN (.func (.func 113) #[] #[v4, v5]) #[(.bool false)]) w fun v33 w =>
 K (.tuple #[v33, (.bool true)]) w)
 (kV P (binV .eql 3 (.tmp 10) (.const (.int .i64 10)) t0 (.int .i64 10)) w fun v35 w =>
 condK v35
 (kN P (callN (.func (.func 113) #[] #[v4, v5]) #[(.bool false)]) w fun v37 w =>
 kV P (Op.unary .not v37) w fun v38 w =>
 K (.tuple #[v38, (.bool true)]) w)
 (K (.tuple #[(.bool false), (.bool false)]) w))))))
theorem F95_eq (t0 t1 t2 : Value) : funE P ⟨[], [], []⟩ Tryz.f95 [t0, t1, t2] w K = F95 P w K t0 t1 t2 := by kernel_rfl
theorem F95_ok (t0 t1 t2 : Value) (h : F95 Tryz.prog w K t0 t1 t2) : callsK Tryz.prog 95 #[t0, t1, t2] w K := calls_of_eq mixedN Tryz.func95 (F95_eq _ w K t0 t1 t2) h
def F100 (t0 t1 t2 : Value) : Prop :=
 kV P (Instr.box 42 t0) w fun v3 w =>
 kV P (Instr.alloc 42 true (.tuple #[])) w fun v6 w =>
 drewK (fun w =>
 (kV P (Instr.loadAt 42 v3) w fun v7 w =>
 kN P (callN (.func (.func 33) #[] #[]) #[t2]) w fun v10 w =>
 kN P (callN (.func (.func 9) #[] #[]) #[v7, t1, v10]) w fun v11 w =>
 kU P (Instr.storeAt 42 v6 v11) w fun _ w =>
 retV P 42 v6 w fun r0 =>
 K r0 w) /\
 (kN P (callN (.func (.func 33) #[] #[]) #[t2]) w fun v10_1 w =>
 kV P (Instr.loadAt 42 v3) w fun v7_1 w =>
 kN P (callN (.func (.func 9) #[] #[]) #[v7_1, t1, v10_1]) w fun v11_1 w =>
 kU P (Instr.storeAt 42 v6 v11_1) w fun _ w =>
 retV P 42 v6 w fun r1 =>
 K r1 w)) w
theorem F100_eq (t0 t1 t2 : Value) : funE P ⟨[(1, 999)], [], []⟩ Tryz.f100 [t0, t1, t2] w K = F100 P w K t0 t1 t2 := by kernel_rfl
theorem F100_ok (t0 t1 t2 : Value) (h : F100 Tryz.prog w K t0 t1 t2) : callsK Tryz.prog 100 #[t0, t1, t2] w K := calls_of_eq mixedN Tryz.func100 (F100_eq _ w K t0 t1 t2) h
def F101 (t0 t1 : Value) : Prop :=
 kN P (callN (.func (.func 72) #[] #[]) #[t0]) w fun v7 w =>
 kV P (binV .mul 3 (.const (.int .i64 8)) (.tmp 7) (.int .i64 8) v7) w fun v8 w =>
 joinL (fun J0 =>
 kV P (binV .eql 3 (.tmp 9) (.const (.int .i64 11)) t0 (.int .i64 11)) w fun v11 w =>
 condK v11
 (J0 [v11] w)
 (kV P (binV .eql 3 (.tmp 9) (.const (.int .i64 12)) t0 (.int .i64 12)) w fun v12 w =>
 condK v12
 (J0 [v12] w)
 (kV P (binV .eql 3 (.tmp 9) (.const (.int .i64 13)) t0 (.int .i64 13)) w fun v13 w =>
 condK v13
 (J0 [v13] w)
 (kV P (binV .eql 3 (.tmp 9) (.const (.int .i64 14)) t0 (.int .i64 14)) w fun v14 w =>
 J0 [v14] w)))) fun s0 w => ∀ _ : Nat -> Value,
 condK (s0.getD 0 undef)
 (kN P (callN (.func (.func 83) #[] #[]) #[t1, v8]) w fun v17 w =>
 K v17 w)
 (joinL (fun J2 =>
 kV P (binV .eql 3 (.tmp 9) (.const (.int .i64 15)) t0 (.int .i64 15)) w fun v19 w =>
 condK v19
 (J2 [v19] w)
 (kV P (binV .eql 3 (.tmp 9) (.const (.int .i64 16)) t0 (.int .i64 16)) w fun v20 w =>
 condK v20
 (J2 [v20] w)
 (kV P (binV .eql 3 (.tmp 9) (.const (.int .i64 17)) t0 (.int .i64 17)) w fun v21 w =>
 J2 [v21] w))) fun s2 w => ∀ _ : Nat -> Value,
 condK (s2.getD 0 undef)
 (kN P (callN (.func (.func 43) #[] #[]) #[t1, (.int .i64 0), v8]) w fun v24 w =>
 K v24 w)
 (K (.int .u64 0) w))
theorem F101_eq (t0 t1 : Value) : funE P ⟨[], [], [(7, [10]), (11, [18])]⟩ Tryz.f101 [t0, t1] w K = F101 P w K t0 t1 := by kernel_rfl
theorem F101_ok (t0 t1 : Value) (h : F101 Tryz.prog w K t0 t1) : callsK Tryz.prog 101 #[t0, t1] w K := calls_of_eq mixedN Tryz.func101 (F101_eq _ w K t0 t1) h
def F103 (t0 t1 t2 : Value) : Prop :=
 kV P (Instr.box 24 t0) w fun v3 w =>
 kV P (Instr.alloc 24 true (.tuple #[])) w fun v6 w =>
 kV P (Instr.loadAt 24 v3) w fun v14 w =>
 kN P (callN (.func (.func 45) #[] #[]) #[v14]) w fun v15 w =>
 kV P (Instr.alloc 121 true (.tuple #[])) w fun v7 w =>
 kU P (Instr.storeAt 121 v7 v15) w fun _ w =>
 kV P (Instr.fieldAt 24 v3 2) w fun v17 w =>
 kV P (Instr.loadAt 22 v17) w fun v18 w =>
 kN P (callN (.func (.func 94) #[] #[]) #[v18, t1]) w fun v20 w =>
 kV P (Instr.extract v20 0) w fun v21 w =>
 kV P (Instr.extract v20 1) w fun v22 w =>
 kV P (Instr.fieldAt 24 v3 2) w fun v23 w =>
 kV P (Instr.loadAt 22 v23) w fun v24 w =>
 kV P (Instr.build 26 #[(0, v24), (1, v21)]) w fun v26 w =>
 kV P (Instr.alloc 26 true (.tuple #[])) w fun v10 w =>
 kU P (Instr.storeAt 26 v10 v26) w fun _ w =>
 kV P (Instr.loadAt 26 v10) w fun v28 w =>
 kN P (callN (.func (.func 114) #[] #[]) #[v28]) w fun v29 w =>
 kV P (Instr.extract v29 0) w fun v30 w =>
 kV P (Instr.extract v29 1) w fun v31 w =>
 kV P (Instr.alloc 26 true (.tuple #[])) w fun v11 w =>
 kU P (Instr.storeAt 26 v11 v30) w fun _ w =>
 joinK (fun J0 : Value -> World -> Prop => gdK (yb v22) false (fun k => k v31 w) w fun v34 w =>
 gdK (yb v22) false (fun k => kV P (Op.unary .not v34) w k) w fun v35 w =>
 kN P (pickN v22 (.bool true) v35) w fun v36_1 w =>
 J0 v36_1 w) fun v36 w =>
 condK v36
 (kV P (Instr.loadAt 24 v3) w fun v37 w =>
 kN P (callN (.func (.func 87) #[] #[]) #[v37]) w fun v38 w =>
 kU P (Instr.storeAt 24 v6 v38) w fun _ w =>
 retV P 24 v6 w fun r1 =>
 K r1 w)
 (kV P (Instr.loadAt 26 v11) w fun v40 w =>
 kV P (Instr.fieldAt 121 v7 1) w fun v41 w =>
 kV P (Instr.fieldAt 28 v41 1) w fun v42 w =>
 kV P (Instr.loadAt 22 v42) w fun v43 w =>
 kV P (Instr.fieldAt 121 v7 1) w fun v44 w =>
 kV P (Instr.fieldAt 28 v44 2) w fun v45 w =>
 kV P (Instr.loadAt 22 v45) w fun v46 w =>
 kV P (Instr.build 28 #[(0, v40), (1, v43), (2, v46)]) w fun v47 w =>
 kV P (Instr.fieldAt 24 v3 2) w fun v48 w =>
 kV P (Instr.loadAt 22 v48) w fun v49 w =>
 kN P (callN (.func (.func 6) #[] #[]) #[v47, v49]) w fun v50 w =>
 kV P (Instr.extract v50 0) w fun v51 w =>
 kV P (Instr.extract v50 1) w fun v52 w =>
 kV P (Instr.alloc 24 true (.tuple #[])) w fun v13 w =>
 kU P (Instr.storeAt 24 v13 v51) w fun _ w =>
 kV P (Op.unary .not v52) w fun v54 w =>
 condK v54
 (kV P (Instr.loadAt 24 v3) w fun v55 w =>
 kN P (callN (.func (.func 87) #[] #[]) #[v55]) w fun v56 w =>
 kU P (Instr.storeAt 24 v6 v56) w fun _ w =>
 retV P 24 v6 w fun r2 =>
 K r2 w)
 (kV P (Instr.loadAt 121 v7) w fun v57 w =>
 kN P (callN (.func (.func 64) #[] #[]) #[v57]) w fun v58 w =>
 joinK (fun J3 : Value -> World -> Prop => gdK (yb v58) true (fun k => kV P (Instr.fieldAt 121 v7 1) w k) w fun v60 w =>
 gdK (yb v58) true (fun k => kV P (Instr.fieldAt 28 v60 0) w k) w fun v61 w =>
 gdK (yb v58) true (fun k => kV P (Instr.fieldAt 26 v61 0) w k) w fun v62 w =>
 gdK (yb v58) true (fun k => kV P (Instr.loadAt 22 v62) w k) w fun v63 w =>
 gdK (yb v58) true (fun k => kV P (Instr.fieldAt 26 v11 0) w k) w fun v64 w =>
 gdK (yb v58) true (fun k => kV P (Instr.loadAt 22 v64) w k) w fun v65 w =>
 gdK (yb v58) true (fun k => kV P (binV .leq 22 (.tmp 63) (.tmp 65) v63 v65) w k) w fun v66 w =>
 kN P (pickN v58 v66 (.bool false)) w fun v67_1 w =>
 J3 v67_1 w) fun v67 w =>
 joinK (fun J4 : Value -> World -> Prop => gdK (yb v67) true (fun k => kV P (Instr.fieldAt 26 v11 1) w k) w fun v69 w =>
 gdK (yb v67) true (fun k => kV P (Instr.loadAt 22 v69) w k) w fun v70 w =>
 gdK (yb v67) true (fun k => kV P (Instr.fieldAt 121 v7 1) w k) w fun v71 w =>
 gdK (yb v67) true (fun k => kV P (Instr.fieldAt 28 v71 0) w k) w fun v72 w =>
 gdK (yb v67) true (fun k => kV P (Instr.fieldAt 26 v72 1) w k) w fun v73 w =>
 gdK (yb v67) true (fun k => kV P (Instr.loadAt 22 v73) w k) w fun v74 w =>
 gdK (yb v67) true (fun k => kV P (binV .leq 22 (.tmp 70) (.tmp 74) v70 v74) w k) w fun v75 w =>
 kN P (pickN v67 v75 (.bool false)) w fun v76_1 w =>
 J4 v76_1 w) fun v76 w =>
 joinK (fun J5 : Value -> World -> Prop => gdK (yb v76) true (fun k => k t2 w) w fun v78 w =>
 gdK (yb v76) true (fun k => kV P (Op.unary .not v78) w k) w fun v79 w =>
 gdK (yb v76) true (fun k => k v79 w) w fun v80 w =>
 gdK (yb v80) false (fun k => kV P (Instr.loadAt 26 v11) w k) w fun v81 w =>
 gdK (yb v80) false (fun k => kV P (Instr.loadAt 26 v10) w k) w fun v82 w =>
 gdK (yb v80) false (fun k => kV P (binV .eql 26 (.tmp 81) (.tmp 82) v81 v82) w k) w fun v83 w =>
 gdK (yb v76) true (fun k => kN P (pickN v80 (.bool true) v83) w k) w fun v84 w =>
 kN P (pickN v76 v84 (.bool false)) w fun v85_1 w =>
 J5 v85_1 w) fun v85 w =>
 kV P (Instr.fieldAt 24 v13 0) w fun v86 w =>
 kU P (Instr.storeAt 4 v86 v85) w fun _ w =>
 kV P (Instr.loadAt 24 v13) w fun v87 w =>
 kU P (Instr.storeAt 24 v6 v87) w fun _ w =>
 retV P 24 v6 w fun r6 =>
 K r6 w))
theorem F103_eq (t0 t1 t2 : Value) : funE P ⟨[], [], []⟩ Tryz.f103 [t0, t1, t2] w K = F103 P w K t0 t1 t2 := by kernel_rfl
theorem F103_ok (t0 t1 t2 : Value) (h : F103 Tryz.prog w K t0 t1 t2) : callsK Tryz.prog 103 #[t0, t1, t2] w K := calls_of_eq mixedN Tryz.func103 (F103_eq _ w K t0 t1 t2) h
def F104 (t0 t1 : Value) : Prop :=
 kV P (Instr.box 24 t0) w fun v2 w =>
 kV P (Instr.box 24 t1) w fun v3 w =>
 kV P (Instr.alloc 24 true (.tuple #[])) w fun v4 w =>
 kV P (Instr.loadAt 24 v2) w fun v6 w =>
 kN P (callN (.func (.func 45) #[] #[]) #[v6]) w fun v7 w =>
 kV P (Instr.alloc 121 true (.tuple #[])) w fun v5 w =>
 kU P (Instr.storeAt 121 v5 v7) w fun _ w =>
 drewK (fun w =>
 relX fun R0 =>
 postX R0 (fun p0_8 => allX R0 w fun V0 w => True -> kV P (Instr.loadAt 121 v5) w (okX R0 w p0_8)) fun p0_8 =>
 postX R0 (fun p0_9 => allX R0 w fun V0 w => True -> kV P (Instr.loadAt 121 v5) w (okX R0 w p0_9)) fun p0_9 =>
 postX R0 (fun p0_10 => allX R0 w fun V0 w => p0_9 (V0 9) w /\ True -> kN P (callN (.func (.func 64) #[] #[]) #[(V0 9)]) w (okX R0 w p0_10)) fun p0_10 =>
 postX R0 (fun p0_11 => allX R0 w fun V0 w => p0_10 (V0 10) w /\ True -> (okX R0 w p0_11) (V0 10) w) fun p0_11 =>
 postX R0 (fun p0_12 => allX R0 w fun V0 w => p0_11 (V0 11) w /\ True -> gdK (yb (V0 11)) true (fun k => kV P (Instr.loadAt 24 v3) w k) w (okX R0 w p0_12)) fun p0_12 =>
 postX R0 (fun p0_13 => allX R0 w fun V0 w => p0_11 (V0 11) w /\ p0_12 (V0 12) w /\ True -> gdK (yb (V0 11)) true (fun k => kN P (callN (.func (.func 45) #[] #[]) #[(V0 12)]) w k) w (okX R0 w p0_13)) fun p0_13 =>
 postX R0 (fun p0_14 => allX R0 w fun V0 w => p0_11 (V0 11) w /\ p0_13 (V0 13) w /\ True -> gdK (yb (V0 11)) true (fun k => kN P (callN (.func (.func 115) #[] #[]) #[(V0 13), (.int .u64 32)]) w k) w (okX R0 w p0_14)) fun p0_14 =>
 postX R0 (fun p0_15 => allX R0 w fun V0 w => p0_11 (V0 11) w /\ p0_14 (V0 14) w /\ True -> kN P (pickN (V0 11) (V0 14) (.bool false)) w (okX R0 w p0_15)) fun p0_15 =>
 postX R0 (fun p0_16 => allX R0 w fun V0 w => p0_14 (V0 14) w /\ p0_15 (V0 15) w /\ True -> (okX R0 w p0_16) (V0 15) w) fun p0_16 =>
 postX R0 (fun p0_17 => allX R0 w fun V0 w => p0_16 (V0 16) w /\ True -> gdK (yb (V0 16)) true (fun k => kV P (Instr.fieldAt 24 v3 2) w k) w (okX R0 w p0_17)) fun p0_17 =>
 postX R0 (fun p0_18 => allX R0 w fun V0 w => p0_16 (V0 16) w /\ p0_17 (V0 17) w /\ True -> gdK (yb (V0 16)) true (fun k => kV P (Instr.loadAt 22 (V0 17)) w k) w (okX R0 w p0_18)) fun p0_18 =>
 postX R0 (fun p0_19 => allX R0 w fun V0 w => p0_16 (V0 16) w /\ p0_18 (V0 18) w /\ True -> gdK (yb (V0 16)) true (fun k => kV P (binV .geq 22 (.tmp 18) (.const (.int .u64 16)) (V0 18) (.int .u64 16)) w k) w (okX R0 w p0_19)) fun p0_19 =>
 postX R0 (fun p0_20 => allX R0 w fun V0 w => p0_16 (V0 16) w /\ p0_19 (V0 19) w /\ True -> kN P (pickN (V0 16) (V0 19) (.bool false)) w (okX R0 w p0_20)) fun p0_20 =>
 postX R0 (fun p0_21 => allX R0 w fun V0 w => p0_16 (V0 16) w /\ p0_20 (V0 20) w /\ True -> (okX R0 w p0_21) (V0 20) w) fun p0_21 =>
 postX R0 (fun p0_22 => allX R0 w fun V0 w => p0_21 (V0 21) w /\ True -> gdK (yb (V0 21)) true (fun k => kV P (Instr.fieldAt 24 v3 2) w k) w (okX R0 w p0_22)) fun p0_22 =>
 postX R0 (fun p0_23 => allX R0 w fun V0 w => p0_21 (V0 21) w /\ p0_22 (V0 22) w /\ True -> gdK (yb (V0 21)) true (fun k => kV P (Instr.loadAt 22 (V0 22)) w k) w (okX R0 w p0_23)) fun p0_23 =>
 postX R0 (fun p0_24 => allX R0 w fun V0 w => p0_21 (V0 21) w /\ p0_23 (V0 23) w /\ True -> gdK (yb (V0 21)) true (fun k => kV P (binV .leq 22 (.tmp 23) (.const (.int .u64 4095)) (V0 23) (.int .u64 4095)) w k) w (okX R0 w p0_24)) fun p0_24 =>
 postX R0 (fun p0_25 => allX R0 w fun V0 w => p0_21 (V0 21) w /\ p0_24 (V0 24) w /\ True -> kN P (pickN (V0 21) (V0 24) (.bool false)) w (okX R0 w p0_25)) fun p0_25 =>
 postX R0 (fun p0_26 => allX R0 w fun V0 w => True -> kV P (Instr.fieldAt 24 v3 2) w (okX R0 w p0_26)) fun p0_26 =>
 postX R0 (fun p0_27 => allX R0 w fun V0 w => p0_26 (V0 26) w /\ True -> kV P (Instr.loadAt 22 (V0 26)) w (okX R0 w p0_27)) fun p0_27 =>
 postX R0 (fun p0_28 => allX R0 w fun V0 w => p0_8 (V0 8) w /\ p0_21 (V0 21) w /\ p0_25 (V0 25) w /\ p0_27 (V0 27) w /\ True -> kN P (callN (.func (.func 46) #[] #[]) #[(V0 8), (V0 25), (V0 27)]) w (okX R0 w p0_28)) fun p0_28 =>
 allX R0 w fun V0 w => p0_8 (V0 8) w /\ p0_9 (V0 9) w /\ p0_10 (V0 10) w /\ p0_11 (V0 11) w /\ p0_12 (V0 12) w /\ p0_13 (V0 13) w /\ p0_14 (V0 14) w /\ p0_15 (V0 15) w /\ p0_16 (V0 16) w /\ p0_17 (V0 17) w /\ p0_18 (V0 18) w /\ p0_19 (V0 19) w /\ p0_20 (V0 20) w /\ p0_21 (V0 21) w /\ p0_22 (V0 22) w /\ p0_23 (V0 23) w /\ p0_24 (V0 24) w /\ p0_25 (V0 25) w /\ p0_26 (V0 26) w /\ p0_27 (V0 27) w /\ p0_28 (V0 28) w /\ True -> xDist V0 [] ->
 kU P (Instr.storeAt 24 v4 (V0 28)) w fun _ w =>
 retV P 24 v4 w fun r1 =>
 K r1 w) w
theorem F104_eq (t0 t1 : Value) : funE P ⟨[(2, 1021)], [], []⟩ Tryz.f104 [t0, t1] w K = F104 P w K t0 t1 := by kernel_rfl
theorem F104_ok (t0 t1 : Value) (h : F104 Tryz.prog w K t0 t1) : callsK Tryz.prog 104 #[t0, t1] w K := calls_of_eq mixedN Tryz.func104 (F104_eq _ w K t0 t1) h
def F105 (t0 t1 : Value) : Prop :=
 kV P (Instr.box 24 t0) w fun v2 w =>
 kV P (Instr.box 24 t1) w fun v3 w =>
 kV P (Instr.alloc 24 true (.tuple #[])) w fun v4 w =>
 kV P (Instr.loadAt 24 v2) w fun v6 w =>
 kN P (callN (.func (.func 45) #[] #[]) #[v6]) w fun v7 w =>
 kV P (Instr.alloc 121 true (.tuple #[])) w fun v5 w =>
 kU P (Instr.storeAt 121 v5 v7) w fun _ w =>
 drewK (fun w =>
 relX fun R0 =>
 postX R0 (fun p0_8 => allX R0 w fun V0 w => True -> kV P (Instr.loadAt 121 v5) w (okX R0 w p0_8)) fun p0_8 =>
 postX R0 (fun p0_9 => allX R0 w fun V0 w => True -> kV P (Instr.fieldAt 121 v5 2) w (okX R0 w p0_9)) fun p0_9 =>
 postX R0 (fun p0_10 => allX R0 w fun V0 w => p0_9 (V0 9) w /\ True -> kV P (Instr.loadAt 4 (V0 9)) w (okX R0 w p0_10)) fun p0_10 =>
 postX R0 (fun p0_11 => allX R0 w fun V0 w => p0_10 (V0 10) w /\ True -> (okX R0 w p0_11) (V0 10) w) fun p0_11 =>
 postX R0 (fun p0_12 => allX R0 w fun V0 w => p0_11 (V0 11) w /\ True -> gdK (yb (V0 11)) true (fun k => kV P (Instr.fieldAt 121 v5 1) w k) w (okX R0 w p0_12)) fun p0_12 =>
 postX R0 (fun p0_13 => allX R0 w fun V0 w => p0_11 (V0 11) w /\ p0_12 (V0 12) w /\ True -> gdK (yb (V0 11)) true (fun k => kV P (Instr.fieldAt 28 (V0 12) 2) w k) w (okX R0 w p0_13)) fun p0_13 =>
 postX R0 (fun p0_14 => allX R0 w fun V0 w => p0_11 (V0 11) w /\ p0_13 (V0 13) w /\ True -> gdK (yb (V0 11)) true (fun k => kV P (Instr.loadAt 22 (V0 13)) w k) w (okX R0 w p0_14)) fun p0_14 =>
 postX R0 (fun p0_15 => allX R0 w fun V0 w => p0_11 (V0 11) w /\ p0_14 (V0 14) w /\ True -> gdK (yb (V0 11)) true (fun k => kV P (binV .geq 22 (.tmp 14) (.const (.int .u64 16)) (V0 14) (.int .u64 16)) w k) w (okX R0 w p0_15)) fun p0_15 =>
 postX R0 (fun p0_16 => allX R0 w fun V0 w => p0_11 (V0 11) w /\ p0_15 (V0 15) w /\ True -> kN P (pickN (V0 11) (V0 15) (.bool false)) w (okX R0 w p0_16)) fun p0_16 =>
 postX R0 (fun p0_17 => allX R0 w fun V0 w => p0_11 (V0 11) w /\ p0_16 (V0 16) w /\ True -> (okX R0 w p0_17) (V0 16) w) fun p0_17 =>
 postX R0 (fun p0_18 => allX R0 w fun V0 w => p0_17 (V0 17) w /\ True -> gdK (yb (V0 17)) true (fun k => kV P (Instr.loadAt 24 v3) w k) w (okX R0 w p0_18)) fun p0_18 =>
 postX R0 (fun p0_19 => allX R0 w fun V0 w => p0_17 (V0 17) w /\ p0_18 (V0 18) w /\ True -> gdK (yb (V0 17)) true (fun k => kN P (callN (.func (.func 45) #[] #[]) #[(V0 18)]) w k) w (okX R0 w p0_19)) fun p0_19 =>
 postX R0 (fun p0_20 => allX R0 w fun V0 w => p0_17 (V0 17) w /\ p0_19 (V0 19) w /\ True -> gdK (yb (V0 17)) true (fun k => kN P (callN (.func (.func 115) #[] #[]) #[(V0 19), (.int .u64 64)]) w k) w (okX R0 w p0_20)) fun p0_20 =>
 postX R0 (fun p0_21 => allX R0 w fun V0 w => p0_17 (V0 17) w /\ p0_20 (V0 20) w /\ True -> kN P (pickN (V0 17) (V0 20) (.bool false)) w (okX R0 w p0_21)) fun p0_21 =>
 postX R0 (fun p0_22 => allX R0 w fun V0 w => p0_20 (V0 20) w /\ p0_21 (V0 21) w /\ True -> (okX R0 w p0_22) (V0 21) w) fun p0_22 =>
 postX R0 (fun p0_23 => allX R0 w fun V0 w => p0_22 (V0 22) w /\ True -> gdK (yb (V0 22)) true (fun k => kV P (Instr.fieldAt 24 v3 2) w k) w (okX R0 w p0_23)) fun p0_23 =>
 postX R0 (fun p0_24 => allX R0 w fun V0 w => p0_22 (V0 22) w /\ p0_23 (V0 23) w /\ True -> gdK (yb (V0 22)) true (fun k => kV P (Instr.loadAt 22 (V0 23)) w k) w (okX R0 w p0_24)) fun p0_24 =>
 postX R0 (fun p0_25 => allX R0 w fun V0 w => p0_22 (V0 22) w /\ True -> gdK (yb (V0 22)) true (fun k => kV P (Instr.fieldAt 121 v5 1) w k) w (okX R0 w p0_25)) fun p0_25 =>
 postX R0 (fun p0_26 => allX R0 w fun V0 w => p0_22 (V0 22) w /\ p0_25 (V0 25) w /\ True -> gdK (yb (V0 22)) true (fun k => kV P (Instr.fieldAt 28 (V0 25) 2) w k) w (okX R0 w p0_26)) fun p0_26 =>
 postX R0 (fun p0_27 => allX R0 w fun V0 w => p0_22 (V0 22) w /\ p0_26 (V0 26) w /\ True -> gdK (yb (V0 22)) true (fun k => kV P (Instr.loadAt 22 (V0 26)) w k) w (okX R0 w p0_27)) fun p0_27 =>
 postX R0 (fun p0_28 => allX R0 w fun V0 w => p0_22 (V0 22) w /\ p0_24 (V0 24) w /\ p0_27 (V0 27) w /\ True -> gdK (yb (V0 22)) true (fun k => kV P (binV .eql 22 (.tmp 24) (.tmp 27) (V0 24) (V0 27)) w k) w (okX R0 w p0_28)) fun p0_28 =>
 postX R0 (fun p0_29 => allX R0 w fun V0 w => p0_22 (V0 22) w /\ p0_28 (V0 28) w /\ True -> kN P (pickN (V0 22) (V0 28) (.bool false)) w (okX R0 w p0_29)) fun p0_29 =>
 postX R0 (fun p0_30 => allX R0 w fun V0 w => p0_8 (V0 8) w /\ p0_22 (V0 22) w /\ p0_29 (V0 29) w /\ True -> kN P (callN (.func (.func 46) #[] #[]) #[(V0 8), (V0 29), (.int .u64 0)]) w (okX R0 w p0_30)) fun p0_30 =>
 allX R0 w fun V0 w => p0_8 (V0 8) w /\ p0_9 (V0 9) w /\ p0_10 (V0 10) w /\ p0_11 (V0 11) w /\ p0_12 (V0 12) w /\ p0_13 (V0 13) w /\ p0_14 (V0 14) w /\ p0_15 (V0 15) w /\ p0_16 (V0 16) w /\ p0_17 (V0 17) w /\ p0_18 (V0 18) w /\ p0_19 (V0 19) w /\ p0_20 (V0 20) w /\ p0_21 (V0 21) w /\ p0_22 (V0 22) w /\ p0_23 (V0 23) w /\ p0_24 (V0 24) w /\ p0_25 (V0 25) w /\ p0_26 (V0 26) w /\ p0_27 (V0 27) w /\ p0_28 (V0 28) w /\ p0_29 (V0 29) w /\ p0_30 (V0 30) w /\ True -> xDist V0 [] ->
 kU P (Instr.storeAt 24 v4 (V0 30)) w fun _ w =>
 retV P 24 v4 w fun r1 =>
 K r1 w) w
theorem F105_eq (t0 t1 : Value) : funE P ⟨[(2, 1023)], [], []⟩ Tryz.f105 [t0, t1] w K = F105 P w K t0 t1 := by kernel_rfl
theorem F105_ok (t0 t1 : Value) (h : F105 Tryz.prog w K t0 t1) : callsK Tryz.prog 105 #[t0, t1] w K := calls_of_eq mixedN Tryz.func105 (F105_eq _ w K t0 t1) h
def F106 (t0 t1 : Value) : Prop :=
 kV P (Instr.box 24 t0) w fun v2 w =>
 kV P (Instr.alloc 24 true (.tuple #[])) w fun v4 w =>
 kV P (Instr.loadAt 24 v2) w fun v6 w =>
 kN P (callN (.func (.func 45) #[] #[]) #[v6]) w fun v7 w =>
 kV P (Instr.alloc 121 true (.tuple #[])) w fun v5 w =>
 kU P (Instr.storeAt 121 v5 v7) w fun _ w =>
 kV P (Instr.fieldAt 24 v2 1) w fun v8 w =>
 kV P (Instr.loadAt 22 v8) w fun v9 w =>
 kV P (Instr.fieldAt 121 v5 1) w fun v10 w =>
 kV P (Instr.fieldAt 28 v10 1) w fun v11 w =>
 kV P (Instr.loadAt 22 v11) w fun v12 w =>
 kV P (binV .andNot 22 (.tmp 12) (.tmp 13) v12 t1) w fun v14 w =>
 kV P (binV .shl 22 (.tmp 14) (.const (.int .u64 32)) v14 (.int .u64 32)) w fun v15 w =>
 kV P (binV .andNot 22 (.tmp 9) (.tmp 15) v9 v15) w fun v16 w =>
 kV P (Instr.fieldAt 24 v2 1) w fun v17 w =>
 kU P (Instr.storeAt 22 v17 v16) w fun _ w =>
 kV P (Instr.loadAt 121 v5) w fun v18 w =>
 kN P (callN (.func (.func 64) #[] #[]) #[v18]) w fun v19 w =>
 kV P (Instr.fieldAt 24 v2 0) w fun v20 w =>
 kU P (Instr.storeAt 4 v20 v19) w fun _ w =>
 kV P (Instr.loadAt 24 v2) w fun v21 w =>
 kU P (Instr.storeAt 24 v4 v21) w fun _ w =>
 retV P 24 v4 w fun r0 =>
 K r0 w
theorem F106_eq (t0 t1 : Value) : funE P ⟨[], [], []⟩ Tryz.f106 [t0, t1] w K = F106 P w K t0 t1 := by kernel_rfl
theorem F106_ok (t0 t1 : Value) (h : F106 Tryz.prog w K t0 t1) : callsK Tryz.prog 106 #[t0, t1] w K := calls_of_eq mixedN Tryz.func106 (F106_eq _ w K t0 t1) h
def F107 (t0 t1 : Value) : Prop :=
 kV P (Instr.box 24 t0) w fun v2 w =>
 kV P (Instr.box 24 t1) w fun v3 w =>
 kV P (Instr.alloc 24 true (.tuple #[])) w fun v4 w =>
 kV P (Instr.loadAt 24 v3) w fun v5 w =>
 kN P (callN (.func (.func 45) #[] #[]) #[v5]) w fun v6 w =>
 kN P (callN (.func (.func 64) #[] #[]) #[v6]) w fun v7 w =>
 joinK (fun J0 : Value -> World -> Prop => gdK (yb v7) true (fun k => kV P (Instr.loadAt 24 v2) w k) w fun v9 w =>
 gdK (yb v7) true (fun k => kV P (Instr.loadAt 24 v3) w k) w fun v10 w =>
 gdK (yb v7) true (fun k => kN P (callN (.func (.func 116) #[] #[]) #[v9, v10]) w k) w fun v11 w =>
 kN P (pickN v7 v11 (.bool false)) w fun v12_1 w =>
 J0 v12_1 w) fun v12 w =>
 joinK (fun J1 : Value -> World -> Prop => gdK (yb v12) true (fun k => kV P (Instr.loadAt 24 v2) w k) w fun v14 w =>
 gdK (yb v12) true (fun k => kN P (callN (.func (.func 45) #[] #[]) #[v14]) w k) w fun v15 w =>
 gdK (yb v12) true (fun k => kV P (Instr.field 121 v15 1) w k) w fun v16 w =>
 gdK (yb v12) true (fun k => kV P (Instr.field 28 v16 2) w k) w fun v17 w =>
 gdK (yb v12) true (fun k => kV P (binV .leq 22 (.tmp 17) (.const (.int .u64 1)) v17 (.int .u64 1)) w k) w fun v18 w =>
 kN P (pickN v12 v18 (.bool false)) w fun v19_1 w =>
 J1 v19_1 w) fun v19 w =>
 kV P (Instr.fieldAt 24 v2 0) w fun v20 w =>
 kU P (Instr.storeAt 4 v20 v19) w fun _ w =>
 kV P (Instr.loadAt 24 v2) w fun v21 w =>
 kU P (Instr.storeAt 24 v4 v21) w fun _ w =>
 retV P 24 v4 w fun r2 =>
 K r2 w
theorem F107_eq (t0 t1 : Value) : funE P ⟨[], [], []⟩ Tryz.f107 [t0, t1] w K = F107 P w K t0 t1 := by kernel_rfl
theorem F107_ok (t0 t1 : Value) (h : F107 Tryz.prog w K t0 t1) : callsK Tryz.prog 107 #[t0, t1] w K := calls_of_eq mixedN Tryz.func107 (F107_eq _ w K t0 t1) h
def F113 (t0 t1 t2 : Value) : Prop :=
 condK t0
 (kV P (Instr.loadAt 22 t1) w fun v6 w =>
 kV P (convert 22 2 v6) w fun v7 w =>
 kV P (Instr.loadAt 22 t2) w fun v8 w =>
 kV P (convert 22 2 v8) w fun v9 w =>
 kV P (binV .lss 2 (.tmp 7) (.tmp 9) v7 v9) w fun v10 w =>
 K v10 w)
 (kV P (Instr.loadAt 22 t1) w fun v11 w =>
 kV P (Instr.loadAt 22 t2) w fun v12 w =>
 kV P (binV .lss 22 (.tmp 11) (.tmp 12) v11 v12) w fun v13 w =>
 K v13 w)
theorem F113_eq (t0 t1 t2 : Value) : funE P ⟨[], [], []⟩ Tryz.f113 [t0, t1, t2] w K = F113 P w K t0 t1 t2 := by kernel_rfl
theorem F113_ok (t0 t1 t2 : Value) (h : F113 Tryz.prog w K t0 t1 t2) : callsK Tryz.prog 113 #[t0, t1, t2] w K := calls_of_eq mixedN Tryz.func113 (F113_eq _ w K t0 t1 t2) h
def F114 (t0 : Value) : Prop :=
 kV P (Instr.box 26 t0) w fun v1 w =>
 kV P (Instr.alloc 26 true (.tuple #[])) w fun v2 w =>
 kV P (Instr.loadAt 26 v1) w fun v6 w =>
 kN P (callN (.func (.func 47) #[] #[]) #[v6]) w fun v7 w =>
 kV P (Op.unary .not v7) w fun v8 w =>
 condK v8
 (kV P (Instr.build 26 #[]) w fun v9 w =>
 kU P (Instr.storeAt 26 v2 v9) w fun _ w =>
 retV P 26 v2 w fun r0 =>
 K (.tuple #[r0, (.bool false)]) w)
 (kV P (Instr.loadAt 26 v1) w fun v11 w =>
 kN P (callN (.func (.func 48) #[] #[]) #[v11]) w fun v12 w =>
 kV P (Instr.extract v12 0) w fun v13 w =>
 kV P (Instr.extract v12 1) w fun v14 w =>
 kV P (Instr.alloc 26 true (.tuple #[])) w fun v5 w =>
 kU P (Instr.storeAt 26 v5 v14) w fun _ w =>
 kV P (Instr.loadAt 26 v5) w fun v15 w =>
 kU P (Instr.storeAt 26 v2 v15) w fun _ w =>
 retV P 26 v2 w fun r1 =>
 K (.tuple #[r1, (.bool true)]) w)
theorem F114_eq (t0 : Value) : funE P ⟨[], [], []⟩ Tryz.f114 [t0] w K = F114 P w K t0 := by kernel_rfl
theorem F114_ok (t0 : Value) (h : F114 Tryz.prog w K t0) : callsK Tryz.prog 114 #[t0] w K := calls_of_eq mixedN Tryz.func114 (F114_eq _ w K t0) h
def F115 (t0 t1 : Value) : Prop :=
 kV P (Instr.box 121 t0) w fun v2 w =>
 kV P (Instr.loadAt 121 v2) w fun v5 w =>
 kN P (callN (.func (.func 64) #[] #[]) #[v5]) w fun v6 w =>
 joinK (fun J0 : Value -> World -> Prop => gdK (yb v6) true (fun k => k t1 w) w fun v8 w =>
 gdK (yb v6) true (fun k => kV P (Instr.fieldAt 121 v2 1) w k) w fun v9 w =>
 gdK (yb v6) true (fun k => kV P (Instr.fieldAt 28 v9 1) w k) w fun v10 w =>
 gdK (yb v6) true (fun k => kV P (Instr.loadAt 22 v10) w k) w fun v11 w =>
 gdK (yb v6) true (fun k => kN P (callN (.func (.func 65) #[] #[]) #[v8, v11]) w k) w fun v12 w =>
 kN P (pickN v6 v12 (.bool false)) w fun v13_1 w =>
 J0 v13_1 w) fun v13 w =>
 joinK (fun J1 : Value -> World -> Prop => gdK (yb v13) true (fun k => kV P (Instr.fieldAt 121 v2 1) w k) w fun v15 w =>
 gdK (yb v13) true (fun k => kV P (Instr.fieldAt 28 v15 0) w k) w fun v16 w =>
 gdK (yb v13) true (fun k => kV P (Instr.fieldAt 26 v16 0) w k) w fun v17 w =>
 gdK (yb v13) true (fun k => kV P (Instr.loadAt 22 v17) w k) w fun v18 w =>
 gdK (yb v13) true (fun k => kV P (Instr.fieldAt 121 v2 0) w k) w fun v19 w =>
 gdK (yb v13) true (fun k => kV P (Instr.fieldAt 24 v19 2) w k) w fun v20 w =>
 gdK (yb v13) true (fun k => kV P (Instr.loadAt 22 v20) w k) w fun v21 w =>
 gdK (yb v13) true (fun k => kV P (binV .leq 22 (.tmp 18) (.tmp 21) v18 v21) w k) w fun v22 w =>
 kN P (pickN v13 v22 (.bool false)) w fun v23_1 w =>
 J1 v23_1 w) fun v23 w =>
 joinK (fun J2 : Value -> World -> Prop => gdK (yb v23) true (fun k => kV P (Instr.fieldAt 121 v2 0) w k) w fun v25 w =>
 gdK (yb v23) true (fun k => kV P (Instr.fieldAt 24 v25 2) w k) w fun v26 w =>
 gdK (yb v23) true (fun k => kV P (Instr.loadAt 22 v26) w k) w fun v27 w =>
 gdK (yb v23) true (fun k => kV P (Instr.fieldAt 121 v2 1) w k) w fun v28 w =>
 gdK (yb v23) true (fun k => kV P (Instr.fieldAt 28 v28 0) w k) w fun v29 w =>
 gdK (yb v23) true (fun k => kV P (Instr.fieldAt 26 v29 1) w k) w fun v30 w =>
 gdK (yb v23) true (fun k => kV P (Instr.loadAt 22 v30) w k) w fun v31 w =>
 gdK (yb v23) true (fun k => kV P (binV .lss 22 (.tmp 27) (.tmp 31) v27 v31) w k) w fun v32 w =>
 kN P (pickN v23 v32 (.bool false)) w fun v33_1 w =>
 J2 v33_1 w) fun v33 w =>
 K v33 w
theorem F115_eq (t0 t1 : Value) : funE P ⟨[], [], []⟩ Tryz.f115 [t0, t1] w K = F115 P w K t0 t1 := by kernel_rfl
theorem F115_ok (t0 t1 : Value) (h : F115 Tryz.prog w K t0 t1) : callsK Tryz.prog 115 #[t0, t1] w K := calls_of_eq mixedN Tryz.func115 (F115_eq _ w K t0 t1) h
def F116 (t0 t1 : Value) : Prop :=
 kV P (Instr.box 24 t0) w fun v2 w =>
 kV P (Instr.box 24 t1) w fun v3 w =>
 kV P (Instr.loadAt 24 v2) w fun v10 w =>
 kN P (callN (.func (.func 15) #[] #[]) #[v10]) w fun v11 w =>
 kV P (Instr.extract v11 0) w fun v12 w =>
 kV P (Instr.extract v11 1) w fun v13 w =>
 kV P (Instr.alloc 28 true (.tuple #[])) w fun v5 w =>
 kU P (Instr.storeAt 28 v5 v12) w fun _ w =>
 kV P (Instr.loadAt 24 v3) w fun v15 w =>
 kN P (callN (.func (.func 15) #[] #[]) #[v15]) w fun v16 w =>
 kV P (Instr.extract v16 0) w fun v17 w =>
 kV P (Instr.extract v16 1) w fun v18 w =>
 kV P (Instr.alloc 28 true (.tuple #[])) w fun v7 w =>
 kU P (Instr.storeAt 28 v7 v17) w fun _ w =>
 kV P (Instr.loadAt 24 v2) w fun v19 w =>
 kN P (callN (.func (.func 86) #[] #[]) #[v19]) w fun v20 w =>
 joinK (fun J0 : Value -> World -> Prop => gdK (yb v20) true (fun k => kV P (Instr.loadAt 24 v3) w k) w fun v22 w =>
 gdK (yb v20) true (fun k => kN P (callN (.func (.func 86) #[] #[]) #[v22]) w k) w fun v23 w =>
 kN P (pickN v20 v23 (.bool false)) w fun v24_1 w =>
 J0 v24_1 w) fun v24 w =>
 joinK (fun J1 : Value -> World -> Prop => gdK (yb v24) true (fun k => kV P (Instr.fieldAt 28 v7 0) w k) w fun v26 w =>
 gdK (yb v24) true (fun k => kV P (Instr.fieldAt 26 v26 0) w k) w fun v27 w =>
 gdK (yb v24) true (fun k => kV P (Instr.loadAt 22 v27) w k) w fun v28 w =>
 gdK (yb v24) true (fun k => kV P (Instr.fieldAt 28 v5 0) w k) w fun v29 w =>
 gdK (yb v24) true (fun k => kV P (Instr.fieldAt 26 v29 0) w k) w fun v30 w =>
 gdK (yb v24) true (fun k => kV P (Instr.loadAt 22 v30) w k) w fun v31 w =>
 gdK (yb v24) true (fun k => kV P (binV .leq 22 (.tmp 28) (.tmp 31) v28 v31) w k) w fun v32 w =>
 kN P (pickN v24 v32 (.bool false)) w fun v33_1 w =>
 J1 v33_1 w) fun v33 w =>
 joinK (fun J2 : Value -> World -> Prop => gdK (yb v33) true (fun k => kV P (Instr.fieldAt 28 v5 0) w k) w fun v35 w =>
 gdK (yb v33) true (fun k => kV P (Instr.fieldAt 26 v35 1) w k) w fun v36 w =>
 gdK (yb v33) true (fun k => kV P (Instr.loadAt 22 v36) w k) w fun v37 w =>
 gdK (yb v33) true (fun k => kV P (Instr.fieldAt 28 v7 0) w k) w fun v38 w =>
 gdK (yb v33) true (fun k => kV P (Instr.fieldAt 26 v38 1) w k) w fun v39 w =>
 gdK (yb v33) true (fun k => kV P (Instr.loadAt 22 v39) w k) w fun v40 w =>
 gdK (yb v33) true (fun k => kV P (binV .leq 22 (.tmp 37) (.tmp 40) v37 v40) w k) w fun v41 w =>
 kN P (pickN v33 v41 (.bool false)) w fun v42_1 w =>
 J2 v42_1 w) fun v42 w =>
 joinK (fun J3 : Value -> World -> Prop => gdK (yb v42) true (fun k => kV P (Instr.fieldAt 28 v5 1) w k) w fun v44 w =>
 gdK (yb v42) true (fun k => kV P (Instr.loadAt 22 v44) w k) w fun v45 w =>
 gdK (yb v42) true (fun k => kV P (Instr.fieldAt 28 v7 1) w k) w fun v46 w =>
 gdK (yb v42) true (fun k => kV P (Instr.loadAt 22 v46) w k) w fun v47 w =>
 gdK (yb v42) true (fun k => kN P (callN (.func (.func 65) #[] #[]) #[v45, v47]) w k) w fun v48 w =>
 kN P (pickN v42 v48 (.bool false)) w fun v49_1 w =>
 J3 v49_1 w) fun v49 w =>
 K v49 w
theorem F116_eq (t0 t1 : Value) : funE P ⟨[], [], []⟩ Tryz.f116 [t0, t1] w K = F116 P w K t0 t1 := by kernel_rfl
theorem F116_ok (t0 t1 : Value) (h : F116 Tryz.prog w K t0 t1) : callsK Tryz.prog 116 #[t0, t1] w K := calls_of_eq mixedN Tryz.func116 (F116_eq _ w K t0 t1) h
def F117 (t0 t1 : Value) : Prop :=
 kV P (Instr.alloc 42 true (.tuple #[])) w fun v4 w =>
 kV P (Instr.alloc 51 true (.tuple #[])) w fun v5 w =>
 condK t1
 (kN P (callN (.func (.func 77) #[] #[]) #[t0, (.int .u64 1)]) w fun v8 w =>
 kV P (Instr.extract v8 0) w fun v9 w =>
 kV P (Instr.extract v8 1) w fun v10 w =>
 kU P (Instr.storeAt 42 v4 v9) w fun _ w =>
 kU P (Instr.storeAt 51 v5 v10) w fun _ w =>
 retV P 42 v4 w fun r0 =>
 retV P 51 v5 w fun r1 =>
 K (.tuple #[r0, r1]) w)
 (kN P (callN (.func (.func 77) #[] #[]) #[t0, (.int .u64 0)]) w fun v12 w =>
 kV P (Instr.extract v12 0) w fun v13 w =>
 kV P (Instr.extract v12 1) w fun v14 w =>
 kU P (Instr.storeAt 42 v4 v13) w fun _ w =>
 kU P (Instr.storeAt 51 v5 v14) w fun _ w =>
 retV P 42 v4 w fun r2 =>
 retV P 51 v5 w fun r3 =>
 K (.tuple #[r2, r3]) w)
theorem F117_eq (t0 t1 : Value) : funE P ⟨[], [], []⟩ Tryz.f117 [t0, t1] w K = F117 P w K t0 t1 := by kernel_rfl
theorem F117_ok (t0 t1 : Value) (h : F117 Tryz.prog w K t0 t1) : callsK Tryz.prog 117 #[t0, t1] w K := calls_of_eq mixedN Tryz.func117 (F117_eq _ w K t0 t1) h
def F118 (t0 t1 : Value) : Prop :=
 kV P (Instr.box 24 t0) w fun v2 w =>
 kV P (Instr.box 24 t1) w fun v3 w =>
 kV P (Instr.fieldAt 24 v2 0) w fun v5 w =>
 kV P (Instr.loadAt 4 v5) w fun v6 w =>
 kV P (Instr.fieldAt 24 v3 0) w fun v7 w =>
 kV P (Instr.loadAt 4 v7) w fun v8 w =>
 kV P (binV .eql 4 (.tmp 6) (.tmp 8) v6 v8) w fun v9 w =>
 joinK (fun J0 : Value -> World -> Prop => gdK (yb v9) true (fun k => kV P (Instr.loadAt 24 v2) w k) w fun v11 w =>
 gdK (yb v9) true (fun k => kV P (Instr.loadAt 24 v3) w k) w fun v12 w =>
 gdK (yb v9) true (fun k => kN P (callN (.func (.func 116) #[] #[]) #[v11, v12]) w k) w fun v13 w =>
 kN P (pickN v9 v13 (.bool false)) w fun v14_1 w =>
 J0 v14_1 w) fun v14 w =>
 K v14 w
theorem F118_eq (t0 t1 : Value) : funE P ⟨[], [], []⟩ Tryz.f118 [t0, t1] w K = F118 P w K t0 t1 := by kernel_rfl
theorem F118_ok (t0 t1 : Value) (h : F118 Tryz.prog w K t0 t1) : callsK Tryz.prog 118 #[t0, t1] w K := calls_of_eq mixedN Tryz.func118 (F118_eq _ w K t0 t1) h
def F119 (t0 : Value) : Prop :=
 kV P (Instr.box 24 t0) w fun v1 w =>
 kV P (Instr.loadAt 24 v1) w fun v3 w =>
 kN P (callN (.func (.func 125) #[] #[]) #[v3, (.func (.func 126) #[] #[])]) w fun v4 w =>
 K v4 w
theorem F119_eq (t0 : Value) : funE P ⟨[], [], []⟩ Tryz.f119 [t0] w K = F119 P w K t0 := by kernel_rfl
theorem F119_ok (t0 : Value) (h : F119 Tryz.prog w K t0) : callsK Tryz.prog 119 #[t0] w K := calls_of_eq mixedN Tryz.func119 (F119_eq _ w K t0) h
def F120 (t0 : Value) : Prop :=
 kV P (Instr.box 24 t0) w fun v1 w =>
 kV P (Instr.loadAt 24 v1) w fun v3 w =>
 kN P (callN (.func (.func 125) #[] #[]) #[v3, (.func (.func 127) #[] #[])]) w fun v4 w =>
 K v4 w
theorem F120_eq (t0 : Value) : funE P ⟨[], [], []⟩ Tryz.f120 [t0] w K = F120 P w K t0 := by kernel_rfl
theorem F120_ok (t0 : Value) (h : F120 Tryz.prog w K t0) : callsK Tryz.prog 120 #[t0] w K := calls_of_eq mixedN Tryz.func120 (F120_eq _ w K t0) h
def F121 (t0 : Value) : Prop :=
 kV P (Instr.box 24 t0) w fun v1 w =>
 drewK (fun w =>
 relX fun R0 =>
 postX R0 (fun p0_3 => allX R0 w fun V0 w => True -> kV P (Instr.fieldAt 24 v1 2) w (okX R0 w p0_3)) fun p0_3 =>
 postX R0 (fun p0_4 => allX R0 w fun V0 w => p0_3 (V0 3) w /\ True -> kV P (Instr.loadAt 22 (V0 3)) w (okX R0 w p0_4)) fun p0_4 =>
 postX R0 (fun p0_5 => allX R0 w fun V0 w => True -> kV P (Instr.loadAt 24 v1) w (okX R0 w p0_5)) fun p0_5 =>
 postX R0 (fun p0_6 => allX R0 w fun V0 w => p0_5 (V0 5) w /\ True -> kN P (callN (.func (.func 119) #[] #[]) #[(V0 5)]) w (okX R0 w p0_6)) fun p0_6 =>
 allX R0 w fun V0 w => p0_3 (V0 3) w /\ p0_4 (V0 4) w /\ p0_5 (V0 5) w /\ p0_6 (V0 6) w /\ True -> xDist V0 [] ->
 kV P (binV .sub 22 (.tmp 4) (.tmp 6) (V0 4) (V0 6)) w fun v7 w =>
 K v7 w) w
theorem F121_eq (t0 : Value) : funE P ⟨[(1, 1004)], [], []⟩ Tryz.f121 [t0] w K = F121 P w K t0 := by kernel_rfl
theorem F121_ok (t0 : Value) (h : F121 Tryz.prog w K t0) : callsK Tryz.prog 121 #[t0] w K := calls_of_eq mixedN Tryz.func121 (F121_eq _ w K t0) h
def F122 (t0 : Value) : Prop :=
 kV P (Instr.build 26 #[(1, t0)]) w fun v8 w =>
 kN P (callN (.func (.func 114) #[] #[]) #[v8]) w fun v9 w =>
 kV P (Instr.extract v9 0) w fun v10 w =>
 kV P (Instr.extract v9 1) w fun v11 w =>
 kV P (Instr.alloc 26 true (.tuple #[])) w fun v4 w =>
 kU P (Instr.storeAt 26 v4 v10) w fun _ w =>
 kV P (Instr.fieldAt 26 v4 1) w fun v12 w =>
 kV P (Instr.loadAt 22 v12) w fun v13 w =>
 K (.tuple #[v13, v11]) w
theorem F122_eq (t0 : Value) : funE P ⟨[], [], []⟩ Tryz.f122 [t0] w K = F122 P w K t0 := by kernel_rfl
theorem F122_ok (t0 : Value) (h : F122 Tryz.prog w K t0) : callsK Tryz.prog 122 #[t0] w K := calls_of_eq mixedN Tryz.func122 (F122_eq _ w K t0) h
def F123 (t0 : Value) : Prop :=
 kN P (callN (.func (.func 128) #[] #[]) #[t0]) w fun v7 w =>
 kV P (Instr.extract v7 0) w fun v8 w =>
 kV P (Instr.extract v7 1) w fun v9 w =>
 kV P (Op.unary .not v9) w fun v11 w =>
 condK v11
 (K (.int .u64 0) w)
 (kV P (binV .shl 22 (.const (.int .u64 18446744073709551615)) (.tmp 12) (.int .u64 18446744073709551615) v8) w fun v13 w =>
 K v13 w)
theorem F123_eq (t0 : Value) : funE P ⟨[], [], []⟩ Tryz.f123 [t0] w K = F123 P w K t0 := by kernel_rfl
theorem F123_ok (t0 : Value) (h : F123 Tryz.prog w K t0) : callsK Tryz.prog 123 #[t0] w K := calls_of_eq mixedN Tryz.func123 (F123_eq _ w K t0) h
def F125 (t0 t1 : Value) : Prop :=
 kV P (Instr.box 24 t0) w fun v2 w =>
 kV P (Instr.box 210 t1) w fun v3 w =>
 kV P (Instr.loadAt 24 v2) w fun v5 w =>
 kN P (callN (.func (.func 129) #[] #[]) #[v5, (.func (.func 130) #[] #[v3])]) w fun v7 w =>
 K v7 w
theorem F125_eq (t0 t1 : Value) : funE P ⟨[], [], []⟩ Tryz.f125 [t0, t1] w K = F125 P w K t0 t1 := by kernel_rfl
theorem F125_ok (t0 t1 : Value) (h : F125 Tryz.prog w K t0 t1) : callsK Tryz.prog 125 #[t0, t1] w K := calls_of_eq mixedN Tryz.func125 (F125_eq _ w K t0 t1) h
def F126 (t0 : Value) : Prop :=
 kV P (Instr.box 211 t0) w fun v1 w =>
 kV P (Instr.fieldAt 211 v1 0) w fun v3 w =>
 kV P (Instr.loadAt 22 v3) w fun v4 w =>
 K v4 w
theorem F126_eq (t0 : Value) : funE P ⟨[], [], []⟩ Tryz.f126 [t0] w K = F126 P w K t0 := by kernel_rfl
theorem F126_ok (t0 : Value) (h : F126 Tryz.prog w K t0) : callsK Tryz.prog 126 #[t0] w K := calls_of_eq mixedN Tryz.func126 (F126_eq _ w K t0) h
def F127 (t0 : Value) : Prop :=
 kV P (Instr.box 211 t0) w fun v1 w =>
 kV P (Instr.fieldAt 211 v1 1) w fun v3 w =>
 kV P (Instr.loadAt 22 v3) w fun v4 w =>
 kV P (Instr.fieldAt 211 v1 0) w fun v5 w =>
 kV P (Instr.loadAt 22 v5) w fun v6 w =>
 kV P (binV .sub 22 (.tmp 4) (.tmp 6) v4 v6) w fun v7 w =>
 K v7 w
theorem F127_eq (t0 : Value) : funE P ⟨[], [], []⟩ Tryz.f127 [t0] w K = F127 P w K t0 := by kernel_rfl
theorem F127_ok (t0 : Value) (h : F127 Tryz.prog w K t0) : callsK Tryz.prog 127 #[t0] w K := calls_of_eq mixedN Tryz.func127 (F127_eq _ w K t0) h
def F128 (t0 : Value) : Prop :=
 kV P (Instr.build 26 #[(1, t0)]) w fun v8 w =>
 kN P (callN (.func (.func 18) #[] #[]) #[v8]) w fun v9 w =>
 kV P (Instr.extract v9 0) w fun v10 w =>
 kV P (Instr.extract v9 1) w fun v11 w =>
 kV P (Instr.alloc 69 true (.tuple #[])) w fun v4 w =>
 kU P (Instr.storeAt 69 v4 v10) w fun _ w =>
 kV P (Instr.fieldAt 69 v4 2) w fun v12 w =>
 kV P (Instr.loadAt 22 v12) w fun v13 w =>
 kN P (callN (.func (.func 49) #[] #[]) #[v13]) w fun v14 w =>
 kV P (binV .leq 22 (.tmp 15) (.const (.int .u64 281474976710656)) t0 (.int .u64 281474976710656)) w fun v16 w =>
 K (.tuple #[v14, v16]) w
theorem F128_eq (t0 : Value) : funE P ⟨[], [], []⟩ Tryz.f128 [t0] w K = F128 P w K t0 := by kernel_rfl
theorem F128_ok (t0 : Value) (h : F128 Tryz.prog w K t0) : callsK Tryz.prog 128 #[t0] w K := calls_of_eq mixedN Tryz.func128 (F128_eq _ w K t0) h
def F129 (t0 t1 : Value) : Prop :=
 kV P (Instr.box 24 t0) w fun v2 w =>
 kV P (Instr.loadAt 24 v2) w fun v8 w =>
 kN P (callN (.func (.func 15) #[] #[]) #[v8]) w fun v9 w =>
 kV P (Instr.extract v9 0) w fun v10 w =>
 kV P (Instr.extract v9 1) w fun v11 w =>
 kV P (Instr.alloc 28 true (.tuple #[])) w fun v5 w =>
 kU P (Instr.storeAt 28 v5 v10) w fun _ w =>
 kV P (Instr.fieldAt 28 v5 0) w fun v13 w =>
 kV P (Instr.loadAt 26 v13) w fun v14 w =>
 kN P (callN t1 #[v14]) w fun v15 w =>
 K v15 w
theorem F129_eq (t0 t1 : Value) : funE P ⟨[], [], []⟩ Tryz.f129 [t0, t1] w K = F129 P w K t0 t1 := by kernel_rfl
theorem F129_ok (t0 t1 : Value) (h : F129 Tryz.prog w K t0 t1) : callsK Tryz.prog 129 #[t0, t1] w K := calls_of_eq mixedN Tryz.func129 (F129_eq _ w K t0 t1) h
def F130 (t0 t1 : Value) : Prop :=
 kV P (Instr.box 26 t0) w fun v2 w =>
 kV P (Instr.loadAt 210 t1) w fun v4 w =>
 kV P (Instr.loadAt 26 v2) w fun v5 w =>
 kN P (callN v4 #[v5]) w fun v6 w =>
 K v6 w
theorem F130_eq (t0 t1 : Value) : funE P ⟨[], [], []⟩ Tryz.f130 [t0, t1] w K = F130 P w K t0 t1 := by kernel_rfl
theorem F130_ok (t0 t1 : Value) (h : F130 Tryz.prog w K t0 t1) : callsK Tryz.prog 130 #[t0, t1] w K := calls_of_eq mixedN Tryz.func130 (F130_eq _ w K t0 t1) h
def F159 (t0 t1 t2 : Value) : Prop :=
 kV P (Instr.box 55 t0) w fun v3 w =>
 kV P (Instr.fieldAt 55 v3 0) w fun v11 w =>
 kV P (Instr.loadAt 31 v11) w fun v12 w =>
 kN P (callN (.func (.func 147) #[] #[]) #[v12, t1, t2]) w fun v15 w =>
 kV P (Instr.extract v15 0) w fun v16 w =>
 kV P (Instr.extract v15 1) w fun v17 w =>
 kN P (callN (.func (.func 163) #[] #[]) #[v17]) w fun v20 w =>
 K (.tuple #[v16, v20]) w
theorem F159_eq (t0 t1 t2 : Value) : funE P ⟨[], [], []⟩ Tryz.f159 [t0, t1, t2] w K = F159 P w K t0 t1 t2 := by kernel_rfl
theorem F159_ok (t0 t1 t2 : Value) (h : F159 Tryz.prog w K t0 t1 t2) : callsK Tryz.prog 159 #[t0, t1, t2] w K := calls_of_eq mixedN Tryz.func159 (F159_eq _ w K t0 t1 t2) h
def F161 (t0 t1 t2 t3 : Value) : Prop :=
 kV P (Instr.box 55 t0) w fun v4 w =>
 kV P (Instr.fieldAt 55 v4 0) w fun v9 w =>
 kV P (Instr.loadAt 31 v9) w fun v10 w =>
 kN P (callN (.func (.func 23) #[] #[]) #[v10, t1, t2, t3]) w fun v14 w =>
 kN P (callN (.func (.func 163) #[] #[]) #[v14]) w fun v15 w =>
 K v15 w
theorem F161_eq (t0 t1 t2 t3 : Value) : funE P ⟨[], [], []⟩ Tryz.f161 [t0, t1, t2, t3] w K = F161 P w K t0 t1 t2 t3 := by kernel_rfl
theorem F161_ok (t0 t1 t2 t3 : Value) (h : F161 Tryz.prog w K t0 t1 t2 t3) : callsK Tryz.prog 161 #[t0, t1, t2, t3] w K := calls_of_eq mixedN Tryz.func161 (F161_eq _ w K t0 t1 t2 t3) h
end
end Go.Proofs.YtplfniijbeinmaaGreat
