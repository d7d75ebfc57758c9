/-
  Maps, by what they tell of each key: make, look up, update, delete; conditions: those of each theorem.
-/
import Derived.Test.YtobkjnmdbkieeaaDoorSlices
import Derived.MapKept
namespace Go.Fx
open Go.Instr Go.MapKept
set_option linter.unusedSimpArgs false
variable {κ ν : Type}
def World.setM (w : World) (r : Nat) (o : Obj) : World := { w with heap := w.heap.setIfInBounds r o }
theorem setM_size (w : World) (r : Nat) (o : Obj) : (World.setM w r o).heap.size = w.heap.size := by simp [World.setM]
theorem setM_at {w : World} {r : Nat} {o o' : Obj} (h : w.heap[r]? = some o') : (World.setM w r o).heap[r]? = some o := by
  have := lt_of_at h
  simp [World.setM, Array.getElem?_setIfInBounds, this]
theorem setM_ne {w : World} {r k : Nat} {o : Obj} (h : k ≠ r) : (World.setM w r o).heap[k]? = w.heap[k]? := by
  simp only [World.setM, Array.getElem?_setIfInBounds]
  rw [if_neg (Ne.symm h)]
theorem Ext.setM {S : List Nat} {w w' : World} {r c : Nat} {es : Array MapEntry} {o : Obj} (h : Ext S w w') (hb : w'.heap[r]? = some (.map es c)) (hr : r ∈ S ∨ w.heap.size ≤ r) : Ext S w (World.setM w' r o) := by
  refine ⟨h.os, h.tape, h.output, by rw [setM_size]; exact h.size, fun k hk hn => ?_⟩
  rw [setM_ne]
  · exact h.kept k hk hn
  · rintro rfl
    rcases hr with hr | hr
    · exact hn hr
    · omega
theorem Ext.allocM {S : List Nat} {w w' : World} {es : Array MapEntry} {c : Nat} (h : Ext S w w') : Ext S w (w'.alloc (.map es c)) :=
  ⟨h.os, h.tape, h.output, by have := h.size; show w.heap.size ≤ (w'.heap.push _).size; simp; omega, fun k hk hn => by have := h.size; rw [alloc_ne (by omega)]; exact h.kept k hk hn⟩
/-- where a key is first. -/
def firstOf [DecidableEq κ] (a : κ) : List (κ × ν) → Nat → Option (Nat × ν)
  | [], _ => none
  | (k, v) :: l, i => if a = k then some (i, v) else firstOf a l (i + 1)
/-- keys that can be held against each other. -/
structure KeyOk [DecidableEq κ] (P : Program) (kt : TypeId) (kf : κ → Value) : Prop where
  now : (∃ d, P.underlying kt = some d ∧ ∀ a b, sameNow d (kf a) (kf b) = some (decide (a = b))) ∨
    (∃ d, P.underlying kt = some d ∧ (∀ a b, sameNow d (kf a) (kf b) = none) ∧ ∀ a b w, (Op.equal kt (kf a) (kf b)).run P w = .ok (decide (a = b)) w)
  check : ∀ e a w, (checkKey e 10000 kt (kf a)).run P w = .ok () w
  bits : ∀ a, sameBits 10000 (kf a) (kf a) = true
theorem findNow_some [DecidableEq κ] {kf : κ → Value} {vf : ν → Value} {d : TypeDesc} (h : ∀ a b, sameNow d (kf a) (kf b) = some (decide (a = b))) (a : κ) : ∀ (l : List (κ × ν)) (es : List MapEntry) (i : Nat), es.map (fun e => (e.key, e.val)) = l.map (fun p => (kf p.1, vf p.2)) →
    findNow d (kf a) es i = some ((firstOf a l i).map fun x => (x.1, vf x.2))
  | [], [], i, _ => rfl
  | [], e :: es, i, he => by simp at he
  | p :: l, [], i, he => by simp at he
  | (k, v) :: l, e :: es, i, he => by
    simp only [List.map_cons, List.cons.injEq, Prod.mk.injEq] at he
    unfold findNow firstOf
    rw [he.1.1, h a k]
    by_cases hk : a = k
    · simp [hk, he.1.2]
    · simp only [hk, decide_false, if_false]
      exact findNow_some h a l es (i + 1) he.2
theorem findNow_none [DecidableEq κ] {kf : κ → Value} {vf : ν → Value} {d : TypeDesc} (h : ∀ a b, sameNow d (kf a) (kf b) = none) (a : κ) : ∀ (l : List (κ × ν)) (es : List MapEntry) (i : Nat), es.map (fun e => (e.key, e.val)) = l.map (fun p => (kf p.1, vf p.2)) → l ≠ [] →
    findNow d (kf a) es i = none
  | [], _, i, _, h0 => absurd rfl h0
  | p :: l, [], i, he, _ => by simp at he
  | (k, v) :: l, e :: es, i, he, _ => by
    simp only [List.map_cons, List.cons.injEq, Prod.mk.injEq] at he
    unfold findNow
    rw [he.1.1, h a k]
theorem findAsk [DecidableEq κ] {P : Program} {kt : TypeId} {kf : κ → Value} {vf : ν → Value} (h : ∀ a b w, (Op.equal kt (kf a) (kf b)).run P w = .ok (decide (a = b)) w) (a : κ) (w : World) : ∀ (l : List (κ × ν)) (es : List MapEntry) (i : Nat), es.map (fun e => (e.key, e.val)) = l.map (fun p => (kf p.1, vf p.2)) →
    (findAsking kt (kf a) es i).run P w = .ok ((firstOf a l i).map fun x => (x.1, vf x.2)) w
  | [], [], i, _ => rfl
  | [], e :: es, i, he => by simp at he
  | p :: l, [], i, he => by simp at he
  | (k, v) :: l, e :: es, i, he => by
    simp only [List.map_cons, List.cons.injEq, Prod.mk.injEq] at he
    unfold findAsking firstOf
    rw [he.1.1, Sem.run_bind, h a k]
    simp only [Result.andThen_ok]
    by_cases hk : a = k
    · simp [hk, he.1.2]
    · simp only [hk, decide_false, if_false, Bool.false_eq_true]
      exact findAsk h a w l es (i + 1) he.2
theorem find_run [DecidableEq κ] {P : Program} {kt : TypeId} {kf : κ → Value} {vf : ν → Value} (h : KeyOk P kt kf) (a : κ) (w : World) {l : List (κ × ν)} {es : List MapEntry} (he : es.map (fun e => (e.key, e.val)) = l.map (fun p => (kf p.1, vf p.2))) :
    (findKey kt (kf a) es).run P w = .ok ((firstOf a l 0).map fun x => (x.1, vf x.2)) w := by
  unfold findKey
  rcases h.now with ⟨d, hd, hn⟩ | ⟨d, hd, hn, hq⟩
  · rw [Sem.run_bind, run_underlying hd]
    simp only [Result.andThen_ok]
    rw [findNow_some hn a l es 0 he]
    rfl
  · rw [Sem.run_bind, run_underlying hd]
    simp only [Result.andThen_ok]
    by_cases h0 : l = []
    · subst h0
      obtain rfl : es = [] := by simpa using he
      rfl
    · rw [findNow_none hn a l es 0 he h0]
      exact findAsk hq a w l es 0 he
/-- the entries' stamps: below the map's clock, and no two alike. -/
def BornOk (es : Array MapEntry) (clock : Nat) : Prop := (∀ x ∈ es.toList, x.born < clock) ∧ (es.toList.map (·.born)).Nodup
theorem BornOk.push {es : Array MapEntry} {clock : Nat} (h : BornOk es clock) {key val : Value} : BornOk (es.push { key, val, born := clock }) (clock + 1) := by
  refine ⟨fun x hx => ?_, ?_⟩
  · simp only [Array.toList_push, List.mem_append, List.mem_singleton] at hx
    rcases hx with hx | rfl
    · exact Nat.lt_succ_of_lt (h.1 x hx)
    · exact Nat.lt_succ_self _
  · simp only [Array.toList_push, List.map_append, List.map_cons, List.map_nil]
    refine List.nodup_append.2 ⟨h.2, by simp, ?_⟩
    intro a ha b hb
    simp only [List.mem_singleton] at hb
    subst hb
    obtain ⟨x, hx, rfl⟩ := List.mem_map.1 ha
    exact Nat.ne_of_lt (h.1 x hx)
theorem BornOk.modify {es : Array MapEntry} {clock : Nat} (h : BornOk es clock) (i : Nat) (f : MapEntry → MapEntry) (hb : ∀ e, (f e).born = e.born) : BornOk (es.modify i f) clock := by
  have hborn : (es.modify i f).toList.map (·.born) = es.toList.map (·.born) := by
    apply List.ext_getElem?
    intro j
    simp only [List.getElem?_map, Array.getElem?_toList, Array.getElem?_modify]
    by_cases hij : i = j
    · subst hij
      cases he : es[i]? with
      | none => simp
      | some e => simp [hb e]
    · simp [hij]
  refine ⟨fun x hx => ?_, hborn ▸ h.2⟩
  have : x.born ∈ (es.modify i f).toList.map (·.born) := List.mem_map.2 ⟨x, hx, rfl⟩
  rw [hborn] at this
  obtain ⟨y, hy, e⟩ := List.mem_map.1 this
  rw [← e]; exact h.1 y hy
theorem BornOk.erase {es : Array MapEntry} {clock : Nat} (h : BornOk es clock) (i : Nat) : BornOk (es.eraseIdxIfInBounds i) clock := by
  have hs : (es.eraseIdxIfInBounds i).toList.Sublist es.toList := by
    unfold Array.eraseIdxIfInBounds
    split
    · simp only [Array.toList_eraseIdx]; exact List.eraseIdx_sublist _ _
    · exact List.Sublist.refl _
  exact ⟨fun x hx => h.1 x (hs.subset hx), (hs.map _).nodup h.2⟩
/-- a map's list, and what it tells of each key. -/
structure MapL [DecidableEq κ] (w : World) (r : Nat) (kf : κ → Value) (vf : ν → Value) (l : List (κ × ν)) : Prop where
  at' : ∃ es clock, w.heap[r]? = some (.map es clock) ∧ es.toList.map (fun e => (e.key, e.val)) = l.map (fun p => (kf p.1, vf p.2)) ∧ BornOk es clock
  nodup : (l.map (·.1)).Nodup
def getM [DecidableEq κ] (l : List (κ × ν)) (a : κ) : Option ν := (firstOf a l 0).map (·.2)
def MapF [DecidableEq κ] (w : World) (r : Nat) (kf : κ → Value) (vf : ν → Value) (f : κ → Option ν) : Prop := ∃ l, MapL w r kf vf l ∧ ∀ a, getM l a = f a
theorem firstOf_shift [DecidableEq κ] (a : κ) : ∀ (l : List (κ × ν)) (i : Nat), firstOf a l (i + 1) = (firstOf a l i).map fun x => (x.1 + 1, x.2)
  | [], i => rfl
  | (k, v) :: l, i => by
    unfold firstOf
    split
    · rfl
    · exact firstOf_shift a l (i + 1)
theorem getM_cons [DecidableEq κ] (a k : κ) (v : ν) (l : List (κ × ν)) : getM ((k, v) :: l) a = if a = k then some v else getM l a := by
  unfold getM
  rw [firstOf]
  split
  · rfl
  · rw [firstOf_shift]
    cases firstOf a l 0 <;> rfl
theorem getM_none [DecidableEq κ] {a : κ} : ∀ {l : List (κ × ν)}, getM l a = none ↔ a ∉ l.map (·.1)
  | [] => by simp [getM, firstOf]
  | (k, v) :: l => by
    rw [getM_cons]
    by_cases h : a = k
    · simp [h]
    · rw [if_neg h, getM_none (l := l)]
      simp [h]
theorem first_get [DecidableEq κ] {a : κ} : ∀ {l : List (κ × ν)} {i : Nat} {v : ν}, firstOf a l 0 = some (i, v) → l[i]? = some (a, v)
  | [], i, v, h => by simp [firstOf] at h
  | (k, u) :: l, i, v, h => by
    rw [firstOf] at h
    split at h
    · rename_i hk
      simp at h
      obtain ⟨rfl, rfl⟩ := h
      simp [hk]
    · rw [firstOf_shift] at h
      obtain ⟨x, hx, hy⟩ := Option.map_eq_some_iff.1 h
      obtain ⟨j, u'⟩ := x
      simp only [Prod.mk.injEq] at hy
      obtain ⟨rfl, rfl⟩ := hy
      simpa using first_get hx
theorem getM_append [DecidableEq κ] (a b : κ) (v : ν) : ∀ (l : List (κ × ν)), a ∉ l.map (·.1) → getM (l ++ [(a, v)]) b = if b = a then some v else getM l b
  | [], _ => by simp [getM_cons, getM, firstOf]
  | (k, u) :: l, h => by
    simp only [List.map_cons, List.mem_cons, not_or] at h
    rw [List.cons_append, getM_cons, getM_cons, getM_append a b v l h.2]
    by_cases h1 : b = k
    · rw [if_pos h1, if_pos h1, if_neg (by rw [h1]; exact fun e => h.1 e.symm)]
    · rw [if_neg h1, if_neg h1]
theorem getM_set [DecidableEq κ] (a b : κ) (v : ν) : ∀ (l : List (κ × ν)) (i : Nat), (∃ u, firstOf a l 0 = some (i, u)) → getM (l.set i (a, v)) b = if b = a then some v else getM l b
  | [], i, ⟨u, h⟩ => by simp [firstOf] at h
  | (k, u') :: l, i, ⟨u, h⟩ => by
    rw [firstOf] at h
    split at h
    · rename_i hk
      simp at h
      obtain ⟨rfl, rfl⟩ := h
      subst hk
      rw [List.set_cons_zero, getM_cons, getM_cons]
      split <;> rfl
    · rename_i hk
      rw [firstOf_shift] at h
      obtain ⟨x, hx, hy⟩ := Option.map_eq_some_iff.1 h
      obtain ⟨j, u2⟩ := x
      simp only [Prod.mk.injEq] at hy
      obtain ⟨rfl, rfl⟩ := hy
      rw [List.set_cons_succ, getM_cons, getM_cons, getM_set a b v l j ⟨_, hx⟩]
      by_cases h1 : b = k
      · rw [if_pos h1, if_pos h1, if_neg (by rw [h1]; exact fun e => hk e.symm)]
      · rw [if_neg h1, if_neg h1]
theorem getM_erase [DecidableEq κ] (a b : κ) : ∀ (l : List (κ × ν)) (i : Nat), (l.map (·.1)).Nodup → (∃ u, firstOf a l 0 = some (i, u)) → getM (l.eraseIdx i) b = if b = a then none else getM l b
  | [], i, _, ⟨u, h⟩ => by simp [firstOf] at h
  | (k, u') :: l, i, hn, ⟨u, h⟩ => by
    simp only [List.map_cons, List.nodup_cons] at hn
    rw [firstOf] at h
    split at h
    · rename_i hk
      simp at h
      obtain ⟨rfl, rfl⟩ := h
      subst hk
      rw [List.eraseIdx_cons_zero, getM_cons]
      by_cases h1 : b = a
      · subst h1
        rw [if_pos rfl]
        exact getM_none.2 hn.1
      · rw [if_neg h1, if_neg h1]
    · rename_i hk
      rw [firstOf_shift] at h
      obtain ⟨x, hx, hy⟩ := Option.map_eq_some_iff.1 h
      obtain ⟨j, u2⟩ := x
      simp only [Prod.mk.injEq] at hy
      obtain ⟨rfl, rfl⟩ := hy
      rw [List.eraseIdx_cons_succ, getM_cons, getM_cons, getM_erase a b l j hn.2 ⟨_, hx⟩]
      by_cases h1 : b = k
      · rw [if_pos h1, if_pos h1, if_neg (by rw [h1]; exact fun e => hk e.symm)]
      · rw [if_neg h1, if_neg h1]
theorem MapF.make [DecidableEq κ] {w : World} {kf : κ → Value} {vf : ν → Value} : MapF (w.alloc (.map #[] 0)) w.heap.size kf vf (fun _ => none) :=
  ⟨[], ⟨⟨#[], 0, alloc_at rfl, rfl, by simp [BornOk]⟩, by simp⟩, fun _ => rfl⟩
theorem MapF.ext [DecidableEq κ] {w w' : World} {r : Nat} {kf : κ → Value} {vf : ν → Value} {f : κ → Option ν} {S : List Nat} (h : MapF w r kf vf f) (hx : Ext S w w') (hr : r ∉ S) : MapF w' r kf vf f := by
  obtain ⟨l, ⟨⟨es, c, h1, h2⟩, h3⟩, h4⟩ := h
  exact ⟨l, ⟨⟨es, c, hx.at h1 hr, h2⟩, h3⟩, h4⟩
theorem MapF.lt [DecidableEq κ] {w : World} {r : Nat} {kf : κ → Value} {vf : ν → Value} {f : κ → Option ν} (h : MapF w r kf vf f) : r < w.heap.size := by
  obtain ⟨l, ⟨⟨es, c, h1, h2⟩, h3⟩, h4⟩ := h
  exact lt_of_at h1
theorem getO {P : Program} {w : World} {r : Nat} {es : Array MapEntry} {clock : Nat} (hb : w.heap[r]? = some (.map es clock)) : (getObj r).run P w = .ok (.map es clock) w := by simp [getObj, Sem.run, hb]
theorem run_mkM {P : Program} (t : TypeId) (w : World) : (makeMap t none).run P w = .ok (.map (some w.heap.size)) (w.alloc (.map #[] 0)) := rfl
theorem run_lookM [DecidableEq κ] {P : Program} {t kt et : TypeId} {kf : κ → Value} {vf : ν → Value} (ht : P.underlying t = some (.map kt et)) (hk : KeyOk P kt kf) {z : Value} (hz : ∀ w, (zeroValue et).run P w = .ok z w) {w : World} {r : Nat} {f : κ → Option ν} (h : MapF w r kf vf f) (a : κ) (c : Bool) :
    (lookup t (.map (some r)) (kf a) c).run P w = .ok (if c then .tuple #[((f a).map vf).getD z, .bool (f a).isSome] else ((f a).map vf).getD z) w := by
  obtain ⟨l, ⟨⟨es, cl, h1, h2, hbn⟩, h3⟩, h4⟩ := h
  have hf := find_run hk a w h2
  have hg : (firstOf a l 0).map (·.2) = f a := h4 a
  unfold lookup
  rw [Sem.run_bind, run_underlying ht]
  simp only [Result.andThen_ok, Sem.run_bind, getO h1, Sem.run_pure, hk.check, hf]
  rw [← hg]
  cases firstOf a l 0 with
  | none => cases c <;> simp [hz]
  | some x => cases c <;> simp
theorem run_lookN [DecidableEq κ] {P : Program} {t kt et : TypeId} {kf : κ → Value} (ht : P.underlying t = some (.map kt et)) (hk : KeyOk P kt kf) {z : Value} (hz : ∀ w, (zeroValue et).run P w = .ok z w) (a : κ) (c : Bool) (w : World) :
    (lookup t (.map none) (kf a) c).run P w = .ok (if c then .tuple #[z, .bool false] else z) w := by
  have hf := find_run (ν := Unit) (vf := fun _ => undef) hk a w (l := []) (es := []) rfl
  unfold lookup
  rw [Sem.run_bind, run_underlying ht]
  simp only [Result.andThen_ok, Sem.run_bind, Sem.run_pure, hk.check]
  rw [hf]
  cases c <;> simp [firstOf, hz]
theorem run_setObjM {P : Program} {w : World} {r : Nat} {es : Array MapEntry} {clock : Nat} (o : Obj) (hb : w.heap[r]? = some (.map es clock)) : (setObj r o).run P w = .ok () (World.setM w r o) := by simp [setObj, Sem.run, hb, World.setM]
theorem run_updM [DecidableEq κ] {P : Program} {t kt et : TypeId} {kf : κ → Value} {vf : ν → Value} (ht : P.underlying t = some (.map kt et)) (hk : KeyOk P kt kf) {w : World} {r : Nat} {f : κ → Option ν} (h : MapF w r kf vf f) (a : κ) (v : ν) {K : Unit → World → Prop}
    (hK : ∀ w', MapF w' r kf vf (fun b => if b = a then some v else f b) → Ext [r] w w' → K () w') : resV K ((mapUpdate t (.map (some r)) (kf a) (vf v)).run P w) := by
  obtain ⟨l, ⟨⟨es, cl, h1, h2, hbn⟩, h3⟩, h4⟩ := h
  have hf := find_run hk a w h2
  have hl : es.toList.length = l.length := by simpa using congrArg List.length h2
  unfold mapUpdate
  simp only [Sem.run_bind, run_underlying ht, Result.andThen_ok, getO h1, hk.check, hf]
  cases hx : firstOf a l 0 with
  | none =>
    simp only [Option.map_none, run_setObjM _ h1]
    refine hK _ ⟨l ++ [(a, v)], ⟨⟨_, _, setM_at h1, ?_, hbn.push⟩, ?_⟩, fun b => ?_⟩ (Ext.refl.setM h1 (.inl (by simp)))
    · simp [h2]
    · have hn : a ∉ l.map (·.1) := getM_none.1 (by unfold getM; rw [hx]; rfl)
      rw [List.map_append, List.nodup_append]
      refine ⟨h3, by simp, fun x hx' y hy => ?_⟩
      simp at hy
      subst hy
      rintro rfl
      exact hn hx'
    · rw [getM_append a b v l (getM_none.1 (by unfold getM; rw [hx]; rfl)), h4]
  | some x =>
    obtain ⟨i, u⟩ := x
    have hget := first_get hx
    obtain ⟨hi, -⟩ := List.getElem?_eq_some_iff.1 hget
    have hes : es.toList[i]? = some es.toList[i] := List.getElem?_eq_getElem (by omega)
    have hkey : es.toList[i].key = kf a := by
      have := congrArg (fun x => x[i]?) h2
      simp only [List.getElem?_map, hes, hget, Option.map_some, Option.some.injEq, Prod.mk.injEq] at this
      exact this.1
    have hes2 : es[i]? = some es.toList[i] := by rw [← hes]; simp
    have hkeep : (keyThatStays (((es[i]?).map (·.key)).getD (kf a)) (kf a)).run P w = .ok (kf a) w := by
      rw [hes2]
      simp only [Option.map_some, Option.getD_some, hkey]
      unfold keyThatStays
      rw [if_pos (hk.bits a)]
      rfl
    simp only [Option.map_some, Sem.run_bind, hkeep, Result.andThen_ok, run_setObjM _ h1]
    refine hK _ ⟨l.set i (a, v), ⟨⟨_, _, setM_at h1, ?_, hbn.modify _ _ fun _ => rfl⟩, ?_⟩, fun b => ?_⟩ (Ext.refl.setM h1 (.inl (by simp)))
    · apply List.ext_getElem?
      intro j
      have hj := congrArg (fun x => x[j]?) h2
      simp only [List.getElem?_map] at hj
      simp only [List.getElem?_map, Array.toList_modify, List.getElem?_modify, List.getElem?_set]
      by_cases hij : i = j
      · subst hij
        simp [hes2, hi]
      · simp [hij, hj]
        simpa using hj
    · have : (l.set i (a, v)).map (·.1) = l.map (·.1) := by
        rw [List.map_set]
        apply List.ext_getElem?
        intro j
        rw [List.getElem?_set]
        split
        · rename_i hij
          subst hij
          have hget2 := List.getElem?_eq_getElem hi
          rw [hget] at hget2
          simp only [Option.some.injEq] at hget2
          simp [hi, ← hget2]
        · rfl
      rw [this]; exact h3
    · rw [getM_set a b v l i ⟨u, hx⟩, h4]
theorem run_delM [DecidableEq κ] {P : Program} {t kt et ty : TypeId} {kf : κ → Value} {vf : ν → Value} (ht : P.underlying t = some (.map kt et)) (hk : KeyOk P kt kf) {w : World} {r : Nat} {f : κ → Option ν} (h : MapF w r kf vf f) (a : κ) {K : Value → World → Prop}
    (hK : ∀ w', MapF w' r kf vf (fun b => if b = a then none else f b) → Ext [r] w w' → K (.tuple #[]) w') : resV K ((Builtin.delete_ #[t, kt] ty #[.map (some r), kf a]).run P w) := by
  obtain ⟨l, ⟨⟨es, cl, h1, h2, hbn⟩, h3⟩, h4⟩ := h
  have hf := find_run hk a w h2
  have hl : es.toList.length = l.length := by simpa using congrArg List.length h2
  unfold Builtin.delete_
  simp only [List.getElem?_toArray, List.getElem?_cons_zero, List.getElem?_cons_succ, Sem.run_bind, run_underlying ht, Result.andThen_ok, getO h1, hk.check, hf]
  cases hx : firstOf a l 0 with
  | none =>
    simp only [Option.map_none, Sem.run_bind, run_setObjM _ h1, Result.andThen_ok, Sem.run_pure]
    refine hK _ ⟨l, ⟨⟨_, _, setM_at h1, h2, hbn⟩, h3⟩, fun b => ?_⟩ (Ext.refl.setM h1 (.inl (by simp)))
    show getM l b = if b = a then none else f b
    by_cases hb : b = a
    · rw [if_pos hb, hb]
      unfold getM; rw [hx]; rfl
    · rw [if_neg hb, h4]
  | some x =>
    obtain ⟨i, u⟩ := x
    have hget := first_get hx
    obtain ⟨hi, -⟩ := List.getElem?_eq_some_iff.1 hget
    simp only [Option.map_some, Sem.run_bind, run_setObjM _ h1, Result.andThen_ok, Sem.run_pure]
    refine hK _ ⟨l.eraseIdx i, ⟨⟨_, _, setM_at h1, ?_, hbn.erase i⟩, ?_⟩, fun b => ?_⟩ (Ext.refl.setM h1 (.inl (by simp)))
    · have he : (es.eraseIdxIfInBounds i).toList = es.toList.eraseIdx i := by
        unfold Array.eraseIdxIfInBounds
        rw [dif_pos (by simpa using (by omega : i < es.toList.length))]
        simp
      rw [he]
      apply List.ext_getElem?
      intro j
      have hj : ∀ j : Nat, (es.toList.map (fun e => (e.key, e.val)))[j]? = (l.map (fun p => (kf p.1, vf p.2)))[j]? := fun j => by rw [h2]
      simp only [List.getElem?_map] at hj
      simp only [List.getElem?_map, List.getElem?_eraseIdx]
      split
      · exact hj j
      · exact hj (j + 1)
    · exact h3.sublist ((List.eraseIdx_sublist l i).map _)
    · rw [getM_erase a b l i h3 ⟨u, hx⟩, h4]
end Go.Fx
