/- What is translated marks the entry, in memory: one step; conditions: those of each theorem. -/
import Derived.Test.YtbigiabcgplkgaaOne12b
namespace Go.Proofs.Ytbigiabcgplkgaa
open Go.Fx
set_option maxRecDepth 100000
set_option linter.unusedSimpArgs false
set_option linter.unusedVariables false
theorem walkO {M : Nat → Nat} {k off : Nat} (h0 : M 0 = wd fV 1) (h1 : M 4096 = wd fV 2) (hk : k < 512) (ho : off < 4096) : walkA M 8 0 (k * 4096 + off) = if bad (M (8192 + k * 8)) 0 8 = true then none else some (M (8192 + k * 8), 8192 + k * 8) := by
  have e0 : idx (k * 4096 + off) 0 = k := by unfold idx; simp only [Nat.reduceMul, Nat.reduceAdd, Nat.reducePow]; omega
  have e1 : idx (k * 4096 + off) 1 = 0 := by unfold idx; simp only [Nat.reduceMul, Nat.reduceAdd, Nat.reducePow]; omega
  have e2 : idx (k * 4096 + off) 2 = 0 := by unfold idx; simp only [Nat.reduceMul, Nat.reduceAdd, Nat.reducePow]; omega
  obtain ⟨v1, v2, v3, v4⟩ := V1
  unfold walkA
  rw [if_pos (by omega), wk_go (k := 2) (x := wd fV 1) (by omega) (by rw [e2]; exact h0) v1 (by omega), v2, wk_go (k := 1) (x := wd fV 2) (by omega) (by rw [e1]; exact h1) v3 (by omega), v4]
  cases hb : bad (M (8192 + k * 8)) 0 8
  · rw [wk_end (x := M (8192 + k * 8)) (by omega) (by rw [e0]) hb, if_neg (by simp), e0]
  · rw [wk_bad (k := 0) (x := M (8192 + k * 8)) (by omega) (by rw [e0]) hb, if_pos rfl]
/-- lines of page 3 alone, of one entry. -/
structure LI (S : Nat → List Ln) (n : Nat) (xf : Nat → Bool) : Prop where
  two : Two S
  other : ∀ i, i ≠ 3 → S i = []
  here : ∀ l ∈ S 3, l.a = 0 ∧ l.n = 3 ∧ l.m = (n : Int) ∧ ∀ j, j < 12 → l.f j = xf j
theorem LI.fit {S : Nat → List Ln} {n : Nat} {xf : Nat → Bool} (h : LI S n xf) (hn : n < 17592186044416) : Fit S := by
  intro i l hl
  by_cases hi : i = 3
  · subst hi
    exact ⟨n, (h.here l hl).2.2.1, hn⟩
  · rw [h.other i hi] at hl
    cases hl
/-- the tables, and the entry of page 3. -/
structure MI (m : Nat → Int) (X n : Nat) (xf : Nat → Bool) : Prop where
  a : leN m 0 8 = wd fV 1
  b : leN m 4096 8 = wd fV 2
  c : leN m 8216 8 = X
  f : ∀ j, j < 12 → fl X j = xf j
  n : fr X = n
theorem markA_cong {f g : Nat → Bool} {k : Int} {t : Bool} (h : ∀ j, j < 12 → f j = g j) : ∀ j, j < 12 → markA f k t j = markA g k t j := by
  intro j hj
  unfold markA
  rw [h 7 (by omega), h 10 (by omega), h j hj]
theorem mark_cells {f : Nat → Bool} {k : Int} {t b1 b2 : Bool} {n : Nat} (h1 : b1 = (f 7 || decide (k = 2 ∨ k = 4))) (h2 : b2 = (f 10 || (decide (k = 4) && t))) : entC (upd1 (upd1 (upd1 f 6 true) 7 b1) 10 b2) n = entC (markA f k t) n := by
  refine entC_congr fun j hj => ?_
  subst h1 h2
  unfold upd1 markA
  by_cases h6 : j = 6
  · subst h6; simp
  by_cases h7 : j = 7
  · subst h7; simp
  by_cases h10 : j = 10
  · subst h10; simp
  simp [h6, h7, h10]
def nextF (xf : Nat → Bool) (k : Int) (t : Bool) (e : Int) : Nat → Bool := if e = 0 then markA xf k t else xf
theorem mstep_spec {w : World} {b r q n X : Nat} {S : Nat → List Ln} {g : Bool} {m g0 : Nat → Int} {k : Int} {t : Bool} {xf : Nat → Bool} (hS : At w b S (uT 0 0 g)) (hL : LI S n xf) (h : Mem w r q 8 m g0) (hM : MI m X n xf) (hn : n < 17592186044416) (hbr : b ≠ r) (hbq : b ≠ q) {K : Value → World → Prop}
    (hK : ∀ w' S' m' g' X' e p s, At w' b S' (uT 0 0 g) → LI S' n (nextF xf k t e) → Mem w' r q 8 m' g' → MI m' X' n (nextF xf k t e) → Ext [b, q] w w' → K (.tuple #[.agg (plC p s).toArray, .int .i64 e]) w') :
    callsK Try.prog 28 #[.pointer (some ⟨b, 0, none⟩), .pointer (some ⟨r, 0, none⟩), .int .u64 12304, .int .i64 k, .bool t] w K := by
  have hw : walkA (fun a => leN m a 8) 8 0 12304 = if bad X 0 8 = true then none else some (X, 8216) := by
    have := walkO (M := fun a => leN m a 8) (k := 3) (off := 16) hM.a hM.b (by omega) (by omega)
    simp only [Nat.reduceMul, Nat.reduceAdd, hM.c] at this
    exact this
  have hne0 : ∀ e : Int, e ≠ 0 → nextF xf k t e = xf := fun e he => if_neg he
  have hz0 : nextF xf k t 0 = markA xf k t := if_pos rfl
  have same : ∀ e w', e ≠ 0 → Ext [] w w' → ∀ p s, K (.tuple #[.agg (plC p s).toArray, .int .i64 e]) w' := fun e w' he hx p s =>
    hK w' S m g0 X e p s (hS.ext hx (by simp)) (by rw [hne0 e he]; exact hL) (h.ext hx (by simp) (by simp)) (by rw [hne0 e he]; exact hM) (hx.mono (by simp))
  refine Translate_spec (va := 12304) (ro := 0) (ai := 0) hS hL.two (hL.fit hn) h hbr hbq (by omega) (by omega) (fun hc => absurd (by omega) hc) (fun v _ hh w' hx => ?_) (fun _ hh hwn w' hS' hx => ?_) (fun x a _ hh hws hc w' hx => same _ w' hc hx _ _) (fun x a _ hh hws hc w' m' g' hS' hm' hcase hx => ?_)
  · unfold hitA at hh
    split at hh
    · rename_i l hl
      have hmem := look_mem hl
      have hmem3 : l ∈ S 3 := hmem
      obtain ⟨ha, hnn, hm, hf⟩ := hL.here l hmem3
      split at hh
      · rename_i hc
        split at hh
        · rename_i he
          simp only [Option.some.injEq] at hh
          subst hh
          have hfe := (eqE_iff.1 he).1
          have hxx : ∀ j, j < 12 → xf j = markA xf k t j := fun j hj => by rw [← markA_cong hf j hj, hfe j hj, hf j hj]
          refine hK w' S m g0 X 0 _ _ (hS.ext hx (by simp)) ?_ (h.ext hx (by simp) (by simp)) ?_ (hx.mono (by simp))
          · rw [hz0]
            refine ⟨hL.two, hL.other, fun l' hl' => ?_⟩
            obtain ⟨a1, a2, a3, a4⟩ := hL.here l' hl'
            exact ⟨a1, a2, a3, fun j hj => (a4 j hj).trans (hxx j hj)⟩
          · rw [hz0]
            exact ⟨hM.a, hM.b, hM.c, fun j hj => (hM.f j hj).trans (hxx j hj), hM.n⟩
        · cases hh
      · rename_i hc
        simp only [Option.some.injEq] at hh
        subst hh
        exact same _ w' hc hx _ _
    · cases hh
  · refine hK w' _ m g0 X 1 _ _ hS' ?_ (h.ext hx (by simp <;> omega) (by simp <;> omega)) (by rw [hne0 1 (by omega)]; exact hM) (hx.mono (by simp))
    rw [hne0 1 (by omega)]
    refine ⟨hL.two.put4 (Nat.le_trans (List.length_filter_le _ _) (hL.two _)), fun i hi => ?_, fun l hl => ?_⟩
    · unfold put4
      rw [if_neg (fun hc => hi (hc.trans rfl))]
      exact hL.other i hi
    · unfold put4 at hl
      rw [if_pos (by decide)] at hl
      exact hL.here l (List.mem_filter.1 hl).1
  · rw [hw] at hws
    split at hws
    · cases hws
    · simp only [Option.some.injEq, Prod.mk.injEq] at hws
      obtain ⟨rfl, rfl⟩ := hws
      have hmk : ∀ j, j < 12 → markA (fl X) k t j = markA xf k t j := markA_cong hM.f
      refine hK w' _ m' g' (leN m' 8216 8) 0 _ _ hS' ?_ hm' ?_ hx
      · rw [hz0]
        refine ⟨hL.two.putS _, fun i hi => ?_, fun l hl => ?_⟩
        · unfold putS put4
          rw [if_neg (fun hc => hi (hc.trans rfl))]
          exact hL.other i hi
        · unfold putS put4 at hl
          rw [if_pos (by rfl)] at hl
          have he : (S (((3 : Nat) : Int) % 4).toNat).filter (fun r => !(r.a == ((0 : Nat) : Int) && r.n == ((3 : Nat) : Int))) = [] := by
            rw [List.filter_eq_nil_iff]
            intro l' hl'
            obtain ⟨a1, a2, -, -⟩ := hL.here l' hl'
            simp [a1, a2]
          have hl2 : l ∈ put2 ((S (((3 : Nat) : Int) % 4).toNat).filter (fun r => !(r.a == ((0 : Nat) : Int) && r.n == ((3 : Nat) : Int)))) ⟨(0 : Nat), (3 : Nat), markA (fl X) k t, fr X, (8216 : Nat)⟩ := hl
          rw [he] at hl2
          simp [put2] at hl2
          subst hl2
          exact ⟨rfl, rfl, by rw [hM.n], hmk⟩
      · rw [hz0]
        rcases hcase with ⟨rfl, he⟩ | rfl
        · have hfe := (eqE_iff.1 he).1
          exact ⟨hM.a, hM.b, rfl, fun j hj => by rw [hM.c, ← hfe j hj, hmk j hj], by rw [hM.c]; exact hM.n⟩
        · have hwl := wd_lt (markA (fl X) k t) (fr X)
          have hfr := fr_lt X
          have hst := fun b hb => leN_set (m := m) (a := 8216) (b := b) (v := wd (markA (fl X) k t) (fr X)) (by omega) hb (by omega)
          have h8 : leN (stored m 8216 8 (wd (markA (fl X) k t) (fr X) : Nat)) 8216 8 = wd (markA (fl X) k t) (fr X) := by rw [hst 8216 (by omega)]; rfl
          refine ⟨by rw [hst 0 (by omega)]; exact hM.a, by rw [hst 4096 (by omega)]; exact hM.b, rfl, fun j hj => ?_, ?_⟩
          · rw [h8, fl_wd _ _ _ hj]
            exact hmk j hj
          · rw [h8, fr_wd, Nat.mod_eq_of_lt hfr]
            exact hM.n
end Go.Proofs.Ytbigiabcgplkgaa
