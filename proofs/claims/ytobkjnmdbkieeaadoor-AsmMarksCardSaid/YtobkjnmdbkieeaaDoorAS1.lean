/- Numbers' texts; conditions: those of each theorem. -/
import Derived.Test.YtobkjnmdbkieeaaDoorFA
import Derived.Test.YtobkjnmdbkieeaaDoorRA
import Derived.Test.YtobkjnmdbkieeaaDoorAI4
import Derived.Test.YtobkjnmdbkieeaaDoorShelf
import Derived.Laws.BytesArg
namespace Go.Proofs.YtobkjnmdbkieeaaDoor
open Go.Fx
set_option maxRecDepth 100000
set_option linter.unusedSimpArgs false
set_option linter.unusedVariables false
theorem ext_belowS {w0 w w' : World} (hx : Ext [] w0 w) (hb : RowKit.Below w0.heap.size w w') : Ext [] w0 w' := by
  obtain ⟨h1, h2, h3, h4, h5⟩ := hb
  exact ⟨h1.trans hx.os, h2.trans hx.tape, h3.trans hx.output, Nat.le_trans hx.size h4, fun k hk _ => (h5 k hk).trans (hx.kept k hk (by simp))⟩
/-- a text of bytes. -/
def sV (l : List UInt8) : Value := .string ⟨l.toArray⟩
theorem size_mk (l : List UInt8) : (⟨l.toArray⟩ : ByteArray).size = l.length := by simp [ByteArray.size]
theorem app_mk (a b : List UInt8) : (⟨a.toArray⟩ : ByteArray) ++ ⟨b.toArray⟩ = ⟨(a ++ b).toArray⟩ := by
  apply ByteArray.ext
  simp
theorem cut_mk (l : List UInt8) (a b : Nat) : (⟨l.toArray⟩ : ByteArray).extract a b = ⟨((l.drop a).take (b - a)).toArray⟩ := by
  apply ByteArray.ext
  simp
theorem addS {a b : List UInt8} (h : a.length + b.length ≤ 9223372036854775807) (x y : Operand) (w : World) : (binV .add 9 x y (.string ⟨a.toArray⟩) (.string ⟨b.toArray⟩)).run Tryd.prog w = .ok (.string ⟨(a ++ b).toArray⟩) w := by
  rw [run_addS (by rw [size_mk, size_mk]; exact h), app_mk]
theorem eqlS (a b : List UInt8) (x y : Operand) (w : World) : (binV .eql 9 x y (.string ⟨a.toArray⟩) (.string ⟨b.toArray⟩)).run Tryd.prog w = .ok (.bool (decide (a = b))) w := by
  rw [run_eqlS]
  have : ((⟨a.toArray⟩ : ByteArray).toList == (⟨b.toArray⟩ : ByteArray).toList) = decide (a = b) := by
    by_cases h : a = b
    · subst h
      rw [beq_self_eq_true, decide_eq_true rfl]
    · rw [decide_eq_false h, beq_eq_false_iff_ne]
      simpa using h
  rw [this]
theorem lenS (l : List UInt8) (w : World) : (Builtin.len_ #[9] 3 #[.string ⟨l.toArray⟩]).run Tryd.prog w = .ok (.int .i64 (l.length : Nat)) w := by
  rw [run_lenS Tryd.underlying9, size_mk]
theorem ixS {l : List UInt8} {k : Nat} {b : UInt8} (h : l[k]? = some b) (w : World) : (Instr.index 9 (.string ⟨l.toArray⟩) (.int .i64 (k : Nat))).run Tryd.prog w = .ok (.int .u8 (b.toNat : Nat)) w := by
  obtain ⟨hk, rfl⟩ := List.getElem?_eq_some_iff.1 h
  rw [run_index_string w 9 _ .i64 _ Tryd.underlying9, dif_pos ⟨by omega, by rw [size_mk]; omega⟩]
  simp only [Int.toNat_natCast]
  rfl
/-- a byte's cell. -/
def bC (b : UInt8) : List Value := [.int .u8 (b.toNat : Nat)]
theorem bC_all (l : List UInt8) : ∀ r ∈ l.map bC, r.all (fun v => v.oneCell') = true := by
  intro r hr
  obtain ⟨l, -, rfl⟩ := List.mem_map.1 hr
  rfl
theorem nums_mk (l : List UInt8) : strOfNums (l.map fun b => ((b.toNat : Nat) : Int)) = ⟨l.toArray⟩ := by
  have e : ((fun n : Int => UInt8.ofNat n.toNat) ∘ fun b : UInt8 => ((b.toNat : Nat) : Int)) = id := by
    funext b
    simp
  apply ByteArray.ext
  simp [strOfNums, e]
theorem text_of_bytes {w : World} {v : Value} {l : List UInt8} (h : RowsAt w v 1 (l.map bC)) (h0 : l ≠ []) : (convert 62 9 v).run Tryd.prog w = .ok (.string ⟨l.toArray⟩) w := by
  obtain ⟨a, cap, rfl, hc, hr⟩ := h
  rcases hr with hr | ⟨b, o, c, E, f, rfl, hb, hfit, hsub⟩
  · exact absurd (by simpa using hr) h0
  · rw [← nums_mk]
    refine run_convert_bytes_arg w 62 5 Tryd.underlying62 Tryd.underlying5 b o (l.map bC).length cap (l.map fun b => ((b.toNat : Nat) : Int)) (by simp) (fun i hi => ?_) 9 Tryd.underlying9
    simp only [List.length_map] at hi
    have h1 := hsub i (bC l[i]) (by simp [hi])
    rw [cell_of_block hb]
    have h2 : (Go.Fx.sub c (o + i * 1) 1)[0]? = some (.int .u8 (l[i].toNat : Nat)) := by rw [h1]; rfl
    unfold Go.Fx.sub at h2
    rw [List.getElem?_take_of_lt (by omega), List.getElem?_drop] at h2
    rw [Nat.mul_one, Nat.add_zero] at h2
    rw [h2]
    simp [hi]
/-- a number's digits. -/
def decF : Nat → Nat → List UInt8
  | 0, _ => []
  | f + 1, n => if n < 10 then [UInt8.ofNat (48 + n)] else decF f (n / 10) ++ [UInt8.ofNat (48 + n % 10)]
def decN (n : Nat) : List UInt8 := decF 20 n
theorem decF_small {f n : Nat} (h : n < 10) : decF (f + 1) n = [UInt8.ofNat (48 + n)] := by rw [decF, if_pos h]
theorem decF_big {f n : Nat} (h : ¬ n < 10) : decF (f + 1) n = decF f (n / 10) ++ [UInt8.ofNat (48 + n % 10)] := by rw [decF, if_neg h]
theorem decF_len : ∀ f n, (decF f n).length ≤ f
  | 0, n => Nat.le_refl _
  | f + 1, n => by
    by_cases h : n < 10
    · rw [decF_small h]; simp
    · rw [decF_big h]
      have := decF_len f (n / 10)
      simp
      omega
theorem decF_lenk : ∀ k f n, n < 10 ^ k → 0 < k → (decF f n).length ≤ k
  | 0, f, n, _, h => absurd h (by omega)
  | k + 1, 0, n, _, _ => Nat.zero_le _
  | k + 1, f + 1, n, hn, _ => by
    by_cases h : n < 10
    · rw [decF_small h]; simp
    · rw [decF_big h]
      have hk : 0 < k := by
        rcases Nat.eq_zero_or_pos k with rfl | h1
        · simp at hn; omega
        · exact h1
      have := decF_lenk k f (n / 10) (by rw [Nat.div_lt_iff_lt_mul (by omega), ← Nat.pow_succ]; exact hn) hk
      simp
      omega
/-- a number's text. -/
def dec (n : Int) : List UInt8 := if n < 0 then 45 :: decN n.natAbs else decN n.natAbs
theorem u8_dig {d : Nat} (h : d < 10) : ((UInt8.ofNat (48 + d)).toNat : Int) = 48 + (d : Int) := by
  rw [UInt8.toNat_ofNat']
  omega
theorem app38 {base : Nat} {v x : Value} {rows rows2 : List (List Value)} {w : World} {K : Value → World → Prop} (hown : OwnR w base 5 1 v rows) (hx : RowsAt w x 1 rows2) (h1 : ∀ r ∈ rows2, r.all (fun v => v.oneCell') = true)
    (hl : rows.length + rows2.length ≤ 1000000) (hbase : base ≤ w.heap.size) (hK : ∀ v' w', OwnR w' base 5 1 v' (rows ++ rows2) → App base v w w' → K v' w') : resV K ((Builtin.append_ #[62, 62] 62 #[v, x]).run Tryd.prog w) :=
  kV_appR Tryd.underlying62 (by kernel_rfl) (by omega) (bytes := 1) hown hx h1 (by simp only [maxLen]; omega) (by omega) hbase hK
theorem digits_spec {w : World} {n : Int} (hn : in64 n) {K : Value → World → Prop} (hK : ∀ w', Ext [] w w' → K (.string ⟨(dec n).toArray⟩) w') : callsK Tryd.prog 21 #[.int .i64 n] w K := by
  obtain ⟨hn1, hn2⟩ := hn
  apply F21_ok
  unfold F21
  have hw := wrap_un n
  have key : ∀ (u : Nat) (J : List Value → World → Prop), u = n.natAbs → J [.int .u64 (u : Nat)] w → J [.int .u64 (n.natAbs : Nat)] w := fun u J h hj => h ▸ hj
  simp (disch := first | assumption | omega | (simp only [szR] <;> omega) | rfl | decide) only [gen0, gen1, gen2, rulesC, rulesX, rulesA, litR, bolR, Nat.reduceAdd, Nat.reduceLeDiff, numR, memR, valR, heapR, updR, intR, decR, extR, slR, segR, thenR, pnR, Int.reduceToNat, Int.reduceAdd, Int.reduceSub, Int.reduceLT, Int.reduceLE, Nat.reduceSub, Nat.reduceMul, Nat.reduceEqDiff, hw]
  refine joinL.intro fun J0 hJ0 => ?_
  have hgo : J0 [.int .u64 (n.natAbs : Nat)] w := by
    apply hJ0
    intro _
    have hN : n.natAbs < 18446744073709551616 := by omega
    obtain ⟨N, hNe⟩ : ∃ N, N = n.natAbs := ⟨_, rfl⟩
    rw [← hNe] at hN ⊢
    simp (disch := first | assumption | omega | (simp only [szR] <;> omega) | rfl | decide) only [gen0, gen1, gen2, rulesC, rulesX, rulesA, litR, bolR, Nat.reduceAdd, Nat.reduceLeDiff, numR, memR, valR, heapR, updR, intR, decR, extR, slR, segR, thenR, pnR, Int.reduceToNat, Int.reduceAdd, Int.reduceSub, Int.reduceLT, Int.reduceLE, Nat.reduceSub, Nat.reduceMul, Nat.reduceEqDiff, List.getD_cons_zero]
    refine loopT.intro (fun st w' => ∃ (v : Value) (m f : Nat) (z : Int) (acc : List UInt8), st = [v, .int .u64 z] ∧ z = m ∧ m ≤ N ∧ m < 10 ^ f ∧ 0 < f ∧ RowsAt w' v 1 (acc.map bC) ∧ decN N = decF f m ++ acc ∧ Ext [] w w')
      (fun st _ => match st with
        | [_, .int _ z] => z.toNat
        | _ => 0) ⟨_, N, 20, N, [], rfl, rfl, Nat.le_refl _, by omega, by omega, OwnR.nil.rows (base := 0) (e := 5), by simp [decN], Ext.refl⟩ ?_
    rintro st w' ⟨v, m, f, z, acc, rfl, rfl, hm, hmf, hf0, hrows, hdec, hx⟩ _
    have hd : (m : Int) % 10 = ((m % 10 : Nat) : Int) := by omega
    have hq : (m : Int) / 10 = ((m / 10 : Nat) : Int) := by omega
    have hlen := congrArg List.length hdec
    have hle := decF_len 20 N
    rw [decN] at hlen
    simp only [List.length_append] at hlen
    have hdg := u8_dig (d := m % 10) (by omega)
    have hx1 : Ext [] w' (w'.alloc (.cells [.int .u8 (48 + ((m % 10 : Nat) : Int))].toArray 5)) := by (repeat first | assumption | exact Ext.refl | apply Ext.alloc | apply Ext.drew | (refine Ext.updN ?_ ?_; (focus first | omega | (simp only [szR] <;> omega))) | (refine Ext.updI ?_ ?_; (focus (simp; done))))
    have hbe : bC (UInt8.ofNat (48 + m % 10)) = [.int .u8 (48 + ((m % 10 : Nat) : Int))] := by
      unfold bC
      rw [show (((UInt8.ofNat (48 + m % 10)).toNat : Nat) : Int) = 48 + ((m % 10 : Nat) : Int) from hdg]
    simp (disch := first | assumption | omega | (simp only [szR] <;> omega) | rfl | decide) only [gen0, gen1, gen2, rulesC, rulesX, rulesA, litR, bolR, Nat.reduceAdd, Nat.reduceLeDiff, numR, memR, valR, heapR, updR, intR, decR, extR, slR, segR, thenR, pnR, Int.reduceToNat, Int.reduceAdd, Int.reduceSub, Int.reduceLT, Int.reduceLE, Nat.reduceSub, Nat.reduceMul, Nat.reduceEqDiff, hd, hq, List.getD_cons_zero, List.getD_cons_succ]
    refine app38 (rows := [bC (UInt8.ofNat (48 + m % 10))]) (base := w'.heap.size) (by rw [hbe]; exact OwnR.fresh rfl rfl (Nat.le_refl _)) (hrows.ext hx1 (by simp)) (bC_all acc) (by simp; omega) hx1.size fun v10 w2 ho ha => ?_
    have hx2 := ha.ext w' [] (Nat.le_refl _) hx1
    have hr2 : RowsAt w2 v10 1 ((UInt8.ofNat (48 + m % 10) :: acc).map bC) := ho.rows
    have hxw := hx.trans hx2 (by simp)
    obtain ⟨f, rfl⟩ : ∃ f', f = f' + 1 := ⟨f - 1, by omega⟩
    by_cases h10 : m < 10
    · have htxt := text_of_bytes hr2 (by simp)
      rw [decF_small h10] at hdec
      have e : decN N = UInt8.ofNat (48 + m % 10) :: acc := by rw [hdec, show m % 10 = m by omega]; rfl
      rw [← e] at htxt
      by_cases hneg : n < 0
      · have hadd := addS (a := [45]) (b := decN N) (by simp [decN]; omega)
        have ed : dec n = [45] ++ decN N := by rw [dec, if_pos hneg, ← hNe]; rfl
        rw [ed] at hK
        simp (disch := first | assumption | omega | (simp only [szR] <;> omega) | rfl | decide) only [gen0, gen1, gen2, rulesC, rulesX, rulesA, litR, bolR, Nat.reduceAdd, Nat.reduceLeDiff, numR, memR, valR, heapR, updR, intR, decR, extR, slR, segR, thenR, pnR, Int.reduceToNat, Int.reduceAdd, Int.reduceSub, Int.reduceLT, Int.reduceLE, Nat.reduceSub, Nat.reduceMul, Nat.reduceEqDiff, htxt, hadd, List.getD_cons_zero, List.getD_cons_succ]
        exact hK _ hxw
      · have ed : dec n = decN N := by rw [dec, if_neg hneg, ← hNe]
        rw [ed] at hK
        simp (disch := first | assumption | omega | (simp only [szR] <;> omega) | rfl | decide) only [gen0, gen1, gen2, rulesC, rulesX, rulesA, litR, bolR, Nat.reduceAdd, Nat.reduceLeDiff, numR, memR, valR, heapR, updR, intR, decR, extR, slR, segR, thenR, pnR, Int.reduceToNat, Int.reduceAdd, Int.reduceSub, Int.reduceLT, Int.reduceLE, Nat.reduceSub, Nat.reduceMul, Nat.reduceEqDiff, htxt, List.getD_cons_zero, List.getD_cons_succ]
        exact hK _ hxw
    · simp (disch := first | assumption | omega | (simp only [szR] <;> omega) | rfl | decide) only [gen0, gen1, gen2, rulesC, rulesX, rulesA, litR, bolR, Nat.reduceAdd, Nat.reduceLeDiff, numR, memR, valR, heapR, updR, intR, decR, extR, slR, segR, thenR, pnR, Int.reduceToNat, Int.reduceAdd, Int.reduceSub, Int.reduceLT, Int.reduceLE, Nat.reduceSub, Nat.reduceMul, Nat.reduceEqDiff, List.getD_cons_zero, List.getD_cons_succ]
      refine ⟨⟨v10, m / 10, f, _, UInt8.ofNat (48 + m % 10) :: acc, rfl, rfl, by omega, ?_, ?_, hr2, ?_, hxw⟩, by omega⟩
      · rw [Nat.div_lt_iff_lt_mul (by omega), ← Nat.pow_succ]; exact hmf
      · rcases Nat.eq_zero_or_pos f with rfl | h1
        · simp at hmf; omega
        · exact h1
      · rw [hdec, decF_big h10]
        simp
  clear hK
  by_cases hneg : n < 0
  · have hu := un_neg (x := n) ⟨by omega, hneg⟩
    have hw2 : IntKind.u64.wrap (0 - ((un n : Nat) : Int)) = ((n.natAbs : Nat) : Int) := by
      rw [wrap_un]
      unfold un
      unfold un at hu
      omega
    simp (disch := first | assumption | omega | (simp only [szR] <;> omega) | rfl | decide) only [gen0, gen1, gen2, rulesC, rulesX, rulesA, litR, bolR, Nat.reduceAdd, Nat.reduceLeDiff, numR, memR, valR, heapR, updR, intR, decR, extR, slR, segR, thenR, pnR, Int.reduceToNat, Int.reduceAdd, Int.reduceSub, Int.reduceLT, Int.reduceLE, Nat.reduceSub, Nat.reduceMul, Nat.reduceEqDiff, hw2]
    exact hgo
  · have hu := un_nn (x := n) ⟨by omega, by omega⟩
    have e : un n = n.natAbs := by omega
    rw [← e] at hgo
    simp (disch := first | assumption | omega | (simp only [szR] <;> omega) | rfl | decide) only [gen0, gen1, gen2, rulesC, rulesX, rulesA, litR, bolR, Nat.reduceAdd, Nat.reduceLeDiff, numR, memR, valR, heapR, updR, intR, decR, extR, slR, segR, thenR, pnR, Int.reduceToNat, Int.reduceAdd, Int.reduceSub, Int.reduceLT, Int.reduceLE, Nat.reduceSub, Nat.reduceMul, Nat.reduceEqDiff]
    exact hgo
end Go.Proofs.YtobkjnmdbkieeaaDoor
