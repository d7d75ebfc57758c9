/- What a unit tells, keeps and lays, plainly, by the document's lines; conditions: those of each theorem. -/
import Derived.Test.YtbigiabcgplkgaaTrans12
import Derived.Test.YtbigiabcgplkgaaFlush
namespace Go.Proofs.Ytbigiabcgplkgaa
open Go.Fx
set_option maxRecDepth 100000
set_option linter.unusedSimpArgs false
set_option linter.unusedVariables false
theorem Clear_spec {w : World} {b : Nat} {S : Nat → List Ln} {T : List Value} (hS : At w b S T) (h2 : Two S) {K : Value → World → Prop}
    (hK : ∀ w', At w' b (fun _ => []) T → Ext [b] w w' → K (.tuple #[]) w') : callsK Try.prog 40 #[.pointer (some ⟨b, 0, none⟩)] w K := by
  apply F40_ok
  unfold F40
  simp (disch := first | assumption | omega | (simp only [szR, entC_len, entC_all, un_len, lnC_len2, lnC_one2] <;> omega) | rfl | decide) only [gen0, gen1, gen2, rulesM, rulesU, litR, bolR, Nat.reduceAdd, Nat.reduceLeDiff, numR, memR, valR, heapR, updR, intR, decR, extR, slR, segR, thenR, pnR, Int.reduceToNat, Int.reduceAdd, Int.reduceSub, Int.reduceLT, Int.reduceLE, Nat.reduceSub, Nat.reduceMul, Nat.reduceEqDiff]
  refine every_spec (p := fun _ => true) hS h2 ?_ fun w2 hS2 hx2 => ?_
  · intro l w' K hx hK
    simp (disch := first | assumption | omega | (simp only [szR, entC_len, entC_all, un_len, lnC_len2, lnC_one2] <;> omega) | rfl | decide) only [gen0, gen1, gen2, rulesM, rulesU, litR, bolR, Nat.reduceAdd, Nat.reduceLeDiff, numR, memR, valR, heapR, updR, intR, decR, extR, slR, segR, thenR, pnR, Int.reduceToNat, Int.reduceAdd, Int.reduceSub, Int.reduceLT, Int.reduceLE, Nat.reduceSub, Nat.reduceMul, Nat.reduceEqDiff]
    exact clear1_spec hK
  · have e : (fun j => (S j).filter (fun l => !((fun _ => true) l))) = fun _ => [] := funext fun j => by simp
    exact hK _ (e ▸ hS2) hx2
/-- what is kept without the line of a place. -/
def evictS (S : Nat → List Ln) (place : Int) : Nat → List Ln :=
  match (upto S 4)[gone (upto S 4).length place]? with
  | some x => put4 S (x.n % 4).toNat ((S (x.n % 4).toNat).filter (fun l => !(l.a == x.a && l.n == x.n)))
  | none => S
theorem Evict_spec {w : World} {b : Nat} {S : Nat → List Ln} {T : List Value} {place : Int} (hS : At w b S T) (hg : Two S) (hn : ∀ x ∈ upto S 4, 0 ≤ x.n ∧ x.n < 18446744073709551616) {K : Value → World → Prop}
    (hK : ∀ w', At w' b (evictS S place) T → Ext [b] w w' → K (.tuple #[]) w') : callsK Try.prog 41 #[.pointer (some ⟨b, 0, none⟩), .int .i64 place] w K := by
  apply F41_ok
  unfold F41
  simp (disch := first | assumption | omega | (simp only [szR, entC_len, entC_all, un_len, lnC_len2, lnC_one2] <;> omega) | rfl | decide) only [gen0, gen1, gen2, rulesM, rulesU, litR, bolR, Nat.reduceAdd, Nat.reduceLeDiff, numR, memR, valR, heapR, updR, intR, decR, extR, slR, segR, thenR, pnR, Int.reduceToNat, Int.reduceAdd, Int.reduceSub, Int.reduceLT, Int.reduceLE, Nat.reduceSub, Nat.reduceMul, Nat.reduceEqDiff]
  refine Lines_spec hS hg fun v7 w1 hown hx => ?_
  have hS1 := hS.ext hx (by simp)
  have hrows : RowsAt w1 v7 16 ((upto S 4).map lnC) := Own.rows (by rw [List.length_map]; exact hown) rfl (by simp [lnC_len])
  have hl := hrows.lenR (ty := 3) Try.underlying105
  rw [List.length_map] at hl
  have hlen : ((upto S 4).map lnC).length = (upto S 4).length := List.length_map ..
  by_cases h0 : (upto S 4).length = 0
  · simp (disch := first | assumption | omega | (simp only [szR, entC_len, entC_all, un_len, lnC_len2, lnC_one2] <;> omega) | rfl | decide) only [gen0, gen1, gen2, rulesM, rulesU, litR, bolR, Nat.reduceAdd, Nat.reduceLeDiff, numR, memR, valR, heapR, updR, intR, decR, extR, slR, segR, thenR, pnR, Int.reduceToNat, Int.reduceAdd, Int.reduceSub, Int.reduceLT, Int.reduceLE, Nat.reduceSub, Nat.reduceMul, Nat.reduceEqDiff, hl]
    refine hK _ ?_ (hx.mono (by simp))
    unfold evictS
    rw [List.eq_nil_of_length_eq_zero h0]
    exact hS1
  · obtain ⟨hz, hq1, hq2⟩ := gone_eq (n := (upto S 4).length) (by omega) place
    have hgl := gone_lt (n := (upto S 4).length) (by omega) place
    have hle := upto_le hg 4
    unfold evictS at hK
    have hn := hn _ (List.getElem_mem hgl)
    rw [List.getElem?_eq_getElem hgl] at hK
    obtain ⟨g, o, cap, L, E, f, he, hgb, hfit, hsub, -⟩ := hrows.row (k := gone (upto S 4).length place) (r := lnC (upto S 4)[gone (upto S 4).length place]) (by simp [hgl])
    generalize hxe : (upto S 4)[gone (upto S 4).length place] = x at hn hK hsub
    generalize gone (upto S 4).length place = j at hz hgl hsub hfit
    have hix : ∀ w, (Instr.indexAt 105 v7 (.int .i64 j)).run Try.prog w = .ok (.pointer (some ⟨g, o + j * 16, none⟩)) w := by
      rw [he]
      intro w
      simp (disch := first | assumption | omega | (simp only [szR, entC_len, entC_all, un_len, lnC_len2, lnC_one2] <;> omega) | rfl | decide) only [gen0, gen1, gen2, rulesM, rulesU, litR, bolR, Nat.reduceAdd, Nat.reduceLeDiff, numR, memR, valR, heapR, updR, intR, decR, extR, slR, segR, thenR, pnR, Int.reduceToNat, Int.reduceAdd, Int.reduceSub, Int.reduceLT, Int.reduceLE, Nat.reduceSub, Nat.reduceMul, Nat.reduceEqDiff, hlen]
    have hS2 := hS1.ext (Ext.alloc (S := []) Ext.refl (lnC x).toArray 66) (by simp)
    simp only [lnC] at hsub hS2
    simp (disch := first | assumption | omega | (simp only [szR, entC_len, entC_all, un_len, lnC_len2, lnC_one2] <;> omega) | rfl | decide) only [gen0, gen1, gen2, rulesM, rulesU, litR, bolR, Nat.reduceAdd, Nat.reduceLeDiff, numR, memR, valR, heapR, updR, intR, decR, extR, slR, segR, thenR, pnR, Int.reduceToNat, Int.reduceAdd, Int.reduceSub, Int.reduceLT, Int.reduceLE, Nat.reduceSub, Nat.reduceMul, Nat.reduceEqDiff, hl, hz, hix, hgb, hsub]
    refine Drop_spec hS2 hg hn fun w3 hS3 hx3 => ?_
    refine hK _ hS3 (((hx.mono (by simp)).alloc _ _).trans hx3 (by simp))
theorem lnS_evict (D : List Dn) (G : Nat → List Rn) (place : Int) : evictS (lnS D G) place = lnS D (evR G place) := by
  unfold evictS evR
  rw [upto_lnS, List.length_map, List.getElem?_map]
  cases (upt G 4)[gone (upt G 4).length place]? with
  | none => rfl
  | some x =>
    simp only [Option.map_some]
    exact lnS_drop D G (x.n % 4).toNat x.a x.n
theorem lnS_num {D : List Dn} {G : Nat → List Rn} (h : GoodR G) : ∀ x ∈ upto (lnS D G) 4, 0 ≤ x.n ∧ x.n < 18446744073709551616 := by
  intro x hx
  rw [upto_lnS] at hx
  obtain ⟨r, hr, rfl⟩ := List.mem_map.1 hx
  exact ⟨(upt_num h 4 r hr).1, upt_top h 4 r hr⟩
structure Out12 where
  a : Nat
  s : Bool
  bad : Int
  D : List Dn
  G : Nat → List Rn
  m : Nat → Int
def hitO (R : List Rn) (D : List Dn) (a va : Nat) (k : Int) (t g : Bool) : Option (Nat × Bool × Int) :=
  match R.find? (fun l => l.a == (a : Int) && l.n == ((va / 4096 : Nat) : Int)) with
  | some l => if checkA (D.getD l.x.toNat Dn.zero).f k t g = 0 then (if eqE (markA (D.getD l.x.toNat Dn.zero).f k t) (D.getD l.x.toNat Dn.zero).m (D.getD l.x.toNat Dn.zero).f (D.getD l.x.toNat Dn.zero).m = true then some ((D.getD l.x.toNat Dn.zero).m * 4096 + va % 4096, (decide (k = 3) && !(D.getD l.x.toNat Dn.zero).f 9), 0) else none) else some (0, false, checkA (D.getD l.x.toNat Dn.zero).f k t g)
  | none => none
theorem hitD_hitO (R : List Rn) (D : List Dn) (a va : Nat) (k : Int) (t g : Bool) : hitD R D a va k t g = (hitO R D a va k t g).map fun p => (plC p.1 p.2.1, p.2.2) := by
  unfold hitD hitO
  cases R.find? (fun l => l.a == (a : Int) && l.n == ((va / 4096 : Nat) : Int)) with
  | none => rfl
  | some l =>
    simp only
    split
    · split <;> rfl
    · rfl
def out12 (D : List Dn) (G : Nat → List Rn) (m : Nat → Int) (ai va : Nat) (k : Int) (t g : Bool) : Out12 :=
  if va < 274877906944 then
    match hitO (upt G 4) D ai va k t g with
    | some p => ⟨p.1, p.2.1, p.2.2, D, G, m⟩
    | none => match walkA (fun a => leN m a 8) 8 0 va with
      | none => ⟨0, false, 1, D, pt4 G (((va / 4096 : Nat) : Int) % 4).toNat ((G (((va / 4096 : Nat) : Int) % 4).toNat).filter (fun l => !(l.a == (ai : Int) && l.n == ((va / 4096 : Nat) : Int)))), m⟩
      | some p => if checkA (fl p.1) k t g = 0 then ⟨fr p.1 * 4096 + va % 4096, (decide (k = 3) && !(markA (fl p.1) k t 9)), 0, D ++ [⟨markA (fl p.1) k t, fr p.1, p.2⟩], ptS G ⟨ai, (va / 4096 : Nat), D.length⟩, if eqE (markA (fl p.1) k t) (fr p.1) (fl p.1) (fr p.1) = true then m else stored m p.2 8 (wd (markA (fl p.1) k t) (fr p.1) : Nat)⟩ else ⟨0, false, checkA (fl p.1) k t g, D, G, m⟩
  else ⟨0, false, 1, D, G, m⟩
structure Ok12 (D : List Dn) (G : Nat → List Rn) : Prop where
  good : GoodR G
  idx : Idx D.length G
  fr : ∀ d ∈ D, d.m < 17592186044416
theorem out0 {D G m ai va k t g} (hv : ¬ va < 274877906944) : out12 D G m ai va k t g = ⟨0, false, 1, D, G, m⟩ := if_neg hv
theorem out1 {D G m ai va k t g p} (hv : va < 274877906944) (h : hitO (upt G 4) D ai va k t g = some p) : out12 D G m ai va k t g = ⟨p.1, p.2.1, p.2.2, D, G, m⟩ := by
  unfold out12
  rw [if_pos hv, h]
theorem out2 {D G m ai va k t g} (hv : va < 274877906944) (h : hitO (upt G 4) D ai va k t g = none) (hw : walkA (fun a => leN m a 8) 8 0 va = none) : out12 D G m ai va k t g = ⟨0, false, 1, D, pt4 G (((va / 4096 : Nat) : Int) % 4).toNat ((G (((va / 4096 : Nat) : Int) % 4).toNat).filter (fun l => !(l.a == (ai : Int) && l.n == ((va / 4096 : Nat) : Int)))), m⟩ := by
  unfold out12
  rw [if_pos hv, h]
  simp only [hw]
theorem out3 {D G m ai va k t g x a} (hv : va < 274877906944) (h : hitO (upt G 4) D ai va k t g = none) (hw : walkA (fun a => leN m a 8) 8 0 va = some (x, a)) (hc : checkA (fl x) k t g ≠ 0) : out12 D G m ai va k t g = ⟨0, false, checkA (fl x) k t g, D, G, m⟩ := by
  unfold out12
  rw [if_pos hv, h]
  simp only [hw]
  rw [if_neg hc]
theorem out4 {D G m ai va k t g x a} (hv : va < 274877906944) (h : hitO (upt G 4) D ai va k t g = none) (hw : walkA (fun a => leN m a 8) 8 0 va = some (x, a)) (hc : checkA (fl x) k t g = 0) : out12 D G m ai va k t g = ⟨fr x * 4096 + va % 4096, (decide (k = 3) && !(markA (fl x) k t 9)), 0, D ++ [⟨markA (fl x) k t, fr x, a⟩], ptS G ⟨ai, (va / 4096 : Nat), D.length⟩, if eqE (markA (fl x) k t) (fr x) (fl x) (fr x) = true then m else stored m a 8 (wd (markA (fl x) k t) (fr x) : Nat)⟩ := by
  unfold out12
  rw [if_pos hv, h]
  simp only [hw]
  rw [if_pos hc]
theorem out12_ok {D G m ai va k t g} (h : Ok12 D G) (hva : va < 18446744073709551616) : Ok12 (out12 D G m ai va k t g).D (out12 D G m ai va k t g).G ∧ (out12 D G m ai va k t g).D.length ≤ D.length + 1 := by
  by_cases hv : va < 274877906944
  · cases hh : hitO (upt G 4) D ai va k t g with
    | some p => rw [out1 hv hh]; exact ⟨h, by simp⟩
    | none =>
      cases hw : walkA (fun a => leN m a 8) 8 0 va with
      | none => rw [out2 hv hh hw]; exact ⟨⟨h.good.drop _ _, h.idx.drop _ _, h.fr⟩, by simp⟩
      | some p =>
        obtain ⟨x, a⟩ := p
        by_cases hc : checkA (fl x) k t g = 0
        · rw [out4 hv hh hw hc]
          refine ⟨⟨h.good.ptS ⟨by show (0 : Int) ≤ ((va / 4096 : Nat) : Int); omega, by show ((va / 4096 : Nat) : Int) < 18446744073709551616; omega⟩, ?_, fun d hd => ?_⟩, by simp⟩
          · have := h.idx.put ai ((va / 4096 : Nat) : Int)
            simpa using this
          · rcases List.mem_append.1 hd with hd | hd
            · exact h.fr d hd
            · rw [List.mem_singleton.1 hd]
              exact fr_lt x
        · rw [out3 hv hh hw hc]; exact ⟨h, by simp⟩
  · rw [out0 hv]; exact ⟨h, by simp⟩
theorem TransU {w : World} {b r q ai va : Nat} {D : List Dn} {G : Nat → List Rn} {g : Bool} {m g0 : Nat → Int} {k : Int} {t : Bool} (h : Ok12 D G) (hS : At w b (lnS D G) (uT 0 ai g)) (hm : Mem w r q 8 m g0) (hbr : b ≠ r) (hbq : b ≠ q) (hva : va < 18446744073709551616) {K : Value → World → Prop}
    (hK : ∀ w' g', At w' b (lnS (out12 D G m ai va k t g).D (out12 D G m ai va k t g).G) (uT 0 ai g) → Mem w' r q 8 (out12 D G m ai va k t g).m g' → Ext [b, q] w w' → K (.tuple #[.agg (plC (out12 D G m ai va k t g).a (out12 D G m ai va k t g).s).toArray, .int .i64 (out12 D G m ai va k t g).bad]) w') :
    callsK Try.prog 28 #[.pointer (some ⟨b, 0, none⟩), .pointer (some ⟨r, 0, none⟩), .int .u64 va, .int .i64 k, .bool t] w K := by
  have hno : hitA (lnS D G) ai va k t g = none → hitO (upt G 4) D ai va k t g = none := fun hh => by
    rw [hit_law h.good, hitD_hitO, Option.map_map] at hh
    exact Option.map_eq_none_iff.1 hh
  refine Translate_spec2 hS (lnS_two h.good.two) (lnS_fit G h.fr) hm hbr hbq (by omega) hva ?_ ?_ ?_ ?_ ?_
  · intro hv w' hx
    rw [out0 hv] at hK
    exact hK w' g0 (hS.ext hx (by simp)) (hm.ext hx (by simp) (by simp)) (hx.mono (by simp))
  · intro v hv hh w' hx
    rw [hit_law h.good, hitD_hitO, Option.map_map] at hh
    obtain ⟨p, hp, rfl⟩ := Option.map_eq_some_iff.1 hh
    rw [out1 hv hp] at hK
    exact hK w' g0 (hS.ext hx (by simp)) (hm.ext hx (by simp) (by simp)) (hx.mono (by simp))
  · intro hv hh hw w' hS' hx
    rw [out2 hv (hno hh) hw] at hK
    rw [lnS_drop] at hS'
    exact hK w' g0 hS' (hm.ext hx (by simp; omega) (by simp; omega)) (hx.mono (by simp))
  · intro x a hv hh hw hc w' hx
    rw [out3 hv (hno hh) hw hc] at hK
    exact hK w' g0 (hS.ext hx (by simp)) (hm.ext hx (by simp) (by simp)) (hx.mono (by simp))
  · intro x a hv hh hw hc w' m' g' hS' hm' hcase hx
    rw [out4 hv (hno hh) hw hc] at hK
    have e := lnS_put (D := D) (G := G) ⟨markA (fl x) k t, fr x, a⟩ h.idx ai ((va / 4096 : Nat) : Int)
    simp only at e
    rw [e] at hS'
    refine hK w' g' hS' ?_ hx
    rcases hcase with ⟨rfl, hq⟩ | ⟨rfl, hq⟩
    · simp only [hq, if_true]; exact hm'
    · simp only [hq]; exact hm'
theorem TransR {w : World} {base c ai va : Nat} {vl ve : Value} {D : List Dn} {G : Nat → List Rn} {g t : Bool} {L : List Value} {m : Nat → Int} {P : List (Nat × Int)} {xa xb : Value} {k : Int}
    (ho : Ok12 D G) (h : RMem w base L 8 m c P xa xb) (hbase : base ≤ w.heap.size) (hm : Byte m) (hc : c ≤ 10000) (hl : RowsAt w vl 3 ((upt G 4).map rfC)) (he : RowsAt w ve 13 (D.map deC)) (hD : D.length ≤ 100)
    {T : List Nat} (hT : ∀ k ∈ T, k < w.heap.size) (hxT : P ≠ [] → ∀ b, blockOf xa = some b ∨ blockOf xb = some b → b ∉ T) (hai : ai < 18446744073709551616) (hva : va < 18446744073709551616) {K : Value → World → Prop}
    (hK : ∀ vl' ve' L' c' P' xa' xb' w', RowsAt w' vl' 3 ((upt (out12 D G m ai va k t g).G 4).map rfC) → (vl' = vl ∨ ∀ b, blockOf vl' = some b → w.heap.size ≤ b) → RowsAt w' ve' 13 ((out12 D G m ai va k t g).D.map deC) → (ve' = ve ∨ ∀ b, blockOf ve' = some b → w.heap.size ≤ b) →
      RMem w' base L' 8 (out12 D G m ai va k t g).m c' P' xa' xb' → (P' ≠ [] → ∀ b, blockOf xa' = some b ∨ blockOf xb' = some b → b ∉ T) → c' ≤ c + 8 → Ext [] w w' →
      K (.tuple #[.agg (ruC vl' ve' 0 ai g).toArray, .agg L'.toArray, .agg (plC (out12 D G m ai va k t g).a (out12 D G m ai va k t g).s).toArray, .int .i64 (out12 D G m ai va k t g).bad]) w') :
    callsK Try.prog 32 #[.agg (ruC vl ve 0 ai g).toArray, .agg L.toArray, .int .u64 va, .int .i64 k, .bool t] w K := by
  have hno : hitD (upt G 4) D ai va k t g = none → hitO (upt G 4) D ai va k t g = none := fun hh => by
    rw [hitD_hitO] at hh
    exact Option.map_eq_none_iff.1 hh
  have hn0 : (0 : Int) ≤ ((va / 4096 : Nat) : Int) := by omega
  obtain ⟨A, B, p1, p2, p3, p4, p5⟩ := put_lawR ho.good (l := ⟨ai, (va / 4096 : Nat), D.length⟩) hn0
  have hle := upt_le ho.good.two 4
  refine rTranslate_spec h hbase hm hc hl (by omega) (fun x hx => (upt_num ho.good 4 x hx).1) (upt_idx ho.idx 4) he hD ho.fr hT hxT p1 p2 p3 p4 (by omega) hai hva ?_ ?_ ?_ ?_ ?_
  · intro hv w' hx
    rw [out0 hv] at hK
    exact hK vl ve L c P xa xb w' (hl.ext hx (by simp)) (.inl rfl) (he.ext hx (by simp)) (.inl rfl) (h.ext hx (by simp)) hxT (by omega) hx
  · intro p hv hh w' hx
    rw [hitD_hitO] at hh
    obtain ⟨p, hp, rfl⟩ := Option.map_eq_some_iff.1 hh
    rw [out1 hv hp] at hK
    exact hK vl ve L c P xa xb w' (hl.ext hx (by simp)) (.inl rfl) (he.ext hx (by simp)) (.inl rfl) (h.ext hx (by simp)) hxT (by omega) hx
  · intro hv hh hw vl' w' hl' hb' hx
    rw [out2 hv (hno hh) hw] at hK
    rw [← drop_lawR ho.good hn0] at hl'
    exact hK vl' ve L c P xa xb w' hl' (.inr hb') (he.ext hx (by simp)) (.inl rfl) (h.ext hx (by simp)) hxT (by omega) hx
  · intro x a hv hh hw hc w' hx
    rw [out3 hv (hno hh) hw hc] at hK
    exact hK vl ve L c P xa xb w' (hl.ext hx (by simp)) (.inl rfl) (he.ext hx (by simp)) (.inl rfl) (h.ext hx (by simp)) hxT (by omega) hx
  · intro x a hv hh hw hc vl' ve' L' m' c' P' xa' xb' w' hl' hlb' he' heb' hr' hxT' hc' hcase hx
    rw [out4 hv (hno hh) hw hc] at hK
    rw [p5] at hl'
    refine hK vl' ve' L' c' P' xa' xb' w' hl' (.inr hlb') he' (.inr heb') ?_ hxT' hc' hx
    rcases hcase with ⟨rfl, hq⟩ | ⟨rfl, hq⟩
    · simp only [hq, if_true]; exact hr'
    · simp only [hq]; exact hr'
end Go.Proofs.Ytbigiabcgplkgaa
