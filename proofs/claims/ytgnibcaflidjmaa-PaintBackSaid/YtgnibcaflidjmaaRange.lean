/-
  Going over a map, in any order: Instr.range, Instr.next, Instr.entry; a map's copy; conditions: those of each theorem.
-/
import Derived.Test.YtgnibcaflidjmaaMaps
import GoSem.Extern.MapsClone
namespace Go.Fx
open Go.Instr
set_option linter.unusedSimpArgs false
variable {κ ν : Type}
/-- what is left of a map that is gone over, and what came last. -/
def IterF [DecidableEq κ] (w : World) (it m : Nat) (kf : κ → Value) (vf : ν → Value) (cur : Option (κ × ν)) (rest : List (κ × ν)) : Prop :=
  ∃ es clock seen, w.heap[m]? = some (.map es clock) ∧ BornOk es clock ∧ w.heap[it]? = some (.mapIter (some m) clock seen clock) ∧
    (es.toList.filter fun e => !seen.contains e.born).map (fun e => (e.key, e.val)) = rest.map (fun p => (kf p.1, vf p.2)) ∧
    ∀ p, cur = some p → ∃ stamp e, seen.back? = some stamp ∧ es.find? (fun x => x.born == stamp) = some e ∧ e.key = kf p.1 ∧ e.val = vf p.2
theorem IterF.ext [DecidableEq κ] {w w' : World} {it m : Nat} {kf : κ → Value} {vf : ν → Value} {cur : Option (κ × ν)} {rest : List (κ × ν)} {S : List Nat} (h : IterF w it m kf vf cur rest) (hx : Ext S w w') (h1 : it ∉ S) (h2 : m ∉ S) : IterF w' it m kf vf cur rest := by
  obtain ⟨es, clock, seen, a, b, c, d⟩ := h
  exact ⟨es, clock, seen, hx.at a h2, b, hx.at c h1, d⟩
theorem IterF.lt [DecidableEq κ] {w : World} {it m : Nat} {kf : κ → Value} {vf : ν → Value} {cur : Option (κ × ν)} {rest : List (κ × ν)} (h : IterF w it m kf vf cur rest) : it < w.heap.size ∧ m < w.heap.size := by
  obtain ⟨es, clock, seen, a, b, c, d⟩ := h
  exact ⟨lt_of_at c, lt_of_at a⟩
theorem Ext.allocI {S : List Nat} {w w' : World} {o : Obj} (h : Ext S w w') : Ext S w (w'.alloc o) :=
  ⟨h.os, h.tape, h.output, by have := h.size; show w.heap.size ≤ (w'.heap.push _).size; simp; omega, fun k hk hn => by have := h.size; rw [alloc_ne (by omega)]; exact h.kept k hk hn⟩
theorem Ext.setI {S : List Nat} {w w' : World} {r : Nat} {o : Obj} (h : Ext S w w') (hr : r ∈ S ∨ w.heap.size ≤ r) : Ext S w (World.setM w' r o) := by
  refine ⟨h.os, h.tape, h.output, by rw [setM_size]; exact h.size, fun k hk hn => ?_⟩
  rw [setM_ne]
  · exact h.kept k hk hn
  · rintro rfl
    rcases hr with hr | hr
    · exact hn hr
    · omega
theorem run_rangeM [DecidableEq κ] {P : Program} {t kt et : TypeId} {kf : κ → Value} {vf : ν → Value} (ht : P.underlying t = some (.map kt et)) {w : World} {m : Nat} {f : κ → Option ν} (h : MapF w m kf vf f) {K : Value → World → Prop}
    (hK : ∀ l w', (l.map (·.1)).Nodup → (∀ a, getM l a = f a) → IterF w' w.heap.size m kf vf none l → Ext [] w w' → K (.pointer (some ⟨w.heap.size, 0, none⟩)) w') : resV K ((range t (.map (some m))).run P w) := by
  obtain ⟨l, ⟨⟨es, cl, h1, h2, hbn⟩, h3⟩, h4⟩ := h
  unfold range
  simp only [Sem.run_bind, run_underlying ht, Result.andThen_ok, getO h1, Sem.run_pure]
  have hm := lt_of_at h1
  refine hK l (w.alloc (.mapIter (some m) cl #[] cl)) h3 h4 ⟨es, cl, #[], (alloc_ne (by omega)).trans h1, hbn, alloc_at rfl, ?_, nofun⟩ Ext.refl.allocI
  rw [← h2]
  congr 1
  exact List.filter_eq_self.2 fun e _ => by simp
theorem run_rangeN {P : Program} {t kt et : TypeId} (ht : P.underlying t = some (.map kt et)) (w : World) : (range t (.map none)).run P w = .ok (.pointer (some ⟨w.heap.size, 0, none⟩)) (w.alloc (.mapIter none 0 #[] 0)) := by
  unfold range
  simp only [Sem.run_bind, run_underlying ht, Result.andThen_ok, Sem.run_pure]
  rfl
theorem getI {P : Program} {w : World} {r : Nat} {m : Option Nat} {a b : Nat} {s : Array Nat} (hb : w.heap[r]? = some (.mapIter m a s b)) : (getObj r).run P w = .ok (.mapIter m a s b) w := by simp [getObj, Sem.run, hb]
theorem setAny {P : Program} {w : World} {r : Nat} {m : Option Nat} {a b : Nat} {s : Array Nat} (o : Obj) (hb : w.heap[r]? = some (.mapIter m a s b)) : (setObj r o).run P w = .ok () (World.setM w r o) := by simp [setObj, Sem.run, hb, World.setM]
theorem run_nextN {P : Program} {ty : TypeId} {w : World} {it : Nat} (h : w.heap[it]? = some (.mapIter none 0 #[] 0)) : (next (.pointer (some ⟨it, 0, none⟩)) false ty).run P w = .ok (.tuple #[.bool false]) w := by
  unfold next
  simp only [Sem.run_bind, getI h, Result.andThen_ok, Sem.run_pure]
theorem choose_next {P : Program} (n : Nat) (hn : 0 < n) (w : World) : ∃ i w', i < n ∧ Ext [] w w' ∧ w'.heap = w.heap ∧ (choose (.mapNext n)).run P w = .ok i w' := by
  rw [run_choose]
  split
  · exact ⟨0, w, hn, Ext.refl, rfl, rfl⟩
  · exact ⟨_, w.drew, Nat.mod_lt _ hn, Ext.refl.drew, rfl, rfl⟩
theorem find_born {l : List MapEntry} (hn : (l.map (·.born)).Nodup) {e : MapEntry} (he : e ∈ l) : l.find? (fun x => x.born == e.born) = some e := by
  induction l with
  | nil => cases he
  | cons x l ih =>
    simp only [List.map_cons, List.nodup_cons] at hn
    rw [List.find?_cons]
    rcases List.mem_cons.1 he with rfl | he
    · simp
    · have hne : x.born ≠ e.born := fun h => hn.1 (h ▸ List.mem_map.2 ⟨e, he, rfl⟩)
      have hb : (x.born == e.born) = false := by simpa using hne
      rw [hb]
      exact ih hn.2 he
theorem filter_less {l : List MapEntry} {p : MapEntry → Bool} (hn : (l.map (·.born)).Nodup) {A B : List MapEntry} {e : MapEntry} (h : l.filter p = A ++ e :: B) : l.filter (fun x => p x && !(x.born == e.born)) = A ++ B := by
  have h2 : l.filter (fun x => p x && !(x.born == e.born)) = (l.filter p).filter fun x => !(x.born == e.born) := by
    rw [List.filter_filter]
    congr 1
    funext x
    exact Bool.and_comm _ _
  rw [h2, h]
  have hs : ((l.filter p).map (·.born)).Nodup := (List.filter_sublist.map _).nodup hn
  rw [h, List.map_append, List.map_cons, List.nodup_append] at hs
  obtain ⟨ha, hb, hab⟩ := hs
  rw [List.nodup_cons] at hb
  rw [List.filter_append, List.filter_cons]
  have e1 : A.filter (fun x => !(x.born == e.born)) = A := List.filter_eq_self.2 fun x hx => by
    have := hab x.born (List.mem_map.2 ⟨x, hx, rfl⟩) e.born (List.mem_cons_self ..)
    simpa using this
  have e2 : B.filter (fun x => !(x.born == e.born)) = B := List.filter_eq_self.2 fun x hx => by
    have : x.born ≠ e.born := fun h => hb.1 (h ▸ List.mem_map.2 ⟨x, hx, rfl⟩)
    simpa using this
  rw [e1, e2]
  simp
theorem run_nextM [DecidableEq κ] {P : Program} {ty : TypeId} {kf : κ → Value} {vf : ν → Value} {w : World} {it m : Nat} {cur : Option (κ × ν)} {rest : List (κ × ν)} (h : IterF w it m kf vf cur rest) {K : Value → World → Prop}
    (h0 : rest = [] → ∀ w', Ext [] w w' → K (.tuple #[.bool false]) w')
    (h1 : ∀ A p B w', rest = A ++ p :: B → IterF w' it m kf vf (some p) (A ++ B) → Ext [it] w w' → K (.tuple #[.bool true, kf p.1, vf p.2]) w') :
    resV K ((next (.pointer (some ⟨it, 0, none⟩)) false ty).run P w) := by
  obtain ⟨es, clock, seen, a, b, c, d, -⟩ := h
  have him : it ≠ m := by rintro rfl; rw [a] at c; cases c
  unfold next
  simp only [Sem.run_bind, getI c, getO a, Result.andThen_ok, Sem.run_pure]
  have hall : (!seen.isEmpty && !es.isEmpty && es.all fun x => decide (x.born ≥ clock)) = false := by
    cases hes : es.toList with
    | nil =>
      have : es = #[] := by simpa using congrArg List.toArray hes
      subst this
      simp
    | cons x l =>
      have hx := b.1 x (by rw [hes]; exact List.mem_cons_self ..)
      have : (es.all fun x => decide (x.born ≥ clock)) = false := by
        rw [← Array.all_toList, hes, List.all_cons, decide_eq_false (by omega), Bool.false_and]
      rw [this, Bool.and_false]
  rw [hall]
  simp only [Bool.false_eq_true, if_false]
  have hold : ((es.filter fun e => !seen.contains e.born).filter fun e => decide (e.born < clock)) = es.filter fun e => !seen.contains e.born := by
    apply Array.ext'
    rw [Array.toList_filter, Array.toList_filter]
    refine List.filter_eq_self.2 fun x hx => ?_
    have := b.1 x (List.mem_filter.1 hx).1
    simpa using this
  have hnew : ((es.filter fun e => !seen.contains e.born).filter fun e => decide (e.born ≥ clock)) = #[] := by
    apply Array.ext'
    rw [Array.toList_filter, Array.toList_filter]
    refine List.filter_eq_nil_iff.2 fun x hx => ?_
    have := b.1 x (List.mem_filter.1 hx).1
    simpa using this
  rw [hold, hnew]
  simp only [Array.append_empty]
  obtain ⟨F, hF⟩ : ∃ F, F = es.toList.filter fun e => !seen.contains e.born := ⟨_, rfl⟩
  have hFA : (es.filter fun e => !seen.contains e.born) = F.toArray := by
    apply Array.ext'
    rw [Array.toList_filter, ← hF]
  rw [hFA]
  rw [← hF] at d
  cases F with
  | nil =>
    have hr : rest = [] := by simpa using d.symm
    obtain ⟨i, w', hi, hx, hh, hc⟩ := choose_next (P := P) 1 (by omega) w
    have : i = 0 := by omega
    subst this
    simp only [List.isEmpty_toArray, List.isEmpty_nil, if_true, List.map_toArray, List.map_nil, Array.append_empty, List.size_toArray, List.length_cons, List.length_nil, Nat.zero_add, Sem.run_bind, hc, Result.andThen_ok]
    exact h0 hr w' hx
  | cons x F' =>
    obtain ⟨G, hG⟩ : ∃ G, G = x :: F' := ⟨_, rfl⟩
    have hne : (x :: F').toArray.isEmpty = false := rfl
    rw [hne]
    simp only [Bool.false_eq_true, if_false, Array.empty_append, List.map_toArray, List.size_toArray, List.length_map]
    rw [← hG] at hF d ⊢
    obtain ⟨i, w', hi, hx, hh, hc⟩ := choose_next (P := P) G.length (by rw [hG]; simp) w
    simp only [Sem.run_bind, hc, Result.andThen_ok]
    obtain ⟨e, he⟩ : ∃ e, G[i]? = some e := ⟨_, List.getElem?_eq_getElem hi⟩
    have hpe : (List.map some G).toArray[i]? = some (some e) := by simp [he]
    rw [hpe]
    have c' : w'.heap[it]? = some (.mapIter (some m) clock seen clock) := by rw [hh]; exact c
    simp only [Sem.run_bind, setAny _ c', Result.andThen_ok, Sem.run_pure]
    have hsp : G = G.take i ++ e :: G.drop (i + 1) := by
      have := List.getElem?_eq_some_iff.1 he
      obtain ⟨h1, h2⟩ := this
      rw [← h2, ← List.drop_eq_getElem_cons h1, List.take_append_drop]
    have hlen : rest.length = G.length := by simpa using (congrArg List.length d).symm
    obtain ⟨p, hp⟩ : ∃ p, rest[i]? = some p := ⟨_, List.getElem?_eq_getElem (by omega)⟩
    have hspr : rest = rest.take i ++ p :: rest.drop (i + 1) := by
      have := List.getElem?_eq_some_iff.1 hp
      obtain ⟨h1, h2⟩ := this
      rw [← h2, ← List.drop_eq_getElem_cons h1, List.take_append_drop]
    have hkv : (e.key, e.val) = (kf p.1, vf p.2) := by
      have := congrArg (fun l => l[i]?) d
      simpa [he, hp] using this
    simp only [Prod.mk.injEq] at hkv
    rw [hkv.1, hkv.2]
    refine h1 _ p _ _ hspr ⟨es, clock, seen.push e.born, ?_, b, setM_at c', ?_, ?_⟩ ?_
    · rw [setM_ne (Ne.symm him), hh]; exact a
    · have := filter_less (p := fun e => !seen.contains e.born) b.2 (hF.symm.trans hsp)
      have h3 : (es.toList.filter fun x => !(seen.push e.born).contains x.born) = es.toList.filter fun x => (!seen.contains x.born) && !(x.born == e.born) := by
        congr 1
        funext y
        rw [Array.contains_push, Bool.not_or]
      rw [h3, this, List.map_append, List.map_append, List.map_take, List.map_drop, d, List.map_take, List.map_drop]
    · rintro q hq
      simp only [Option.some.injEq] at hq
      subst hq
      refine ⟨e.born, e, by simp, ?_, hkv.1, hkv.2⟩
      have hmem : e ∈ es.toList := by
        have : e ∈ G := List.mem_of_getElem? he
        rw [hF] at this
        exact (List.mem_filter.1 this).1
      rw [← Array.find?_toList]
      exact find_born b.2 hmem
    · exact (hx.mono nofun).setI (.inl (by simp))
theorem kV_nextM [DecidableEq κ] {P : Program} {ty : TypeId} {kf : κ → Value} {vf : ν → Value} {w : World} {it m : Nat} {cur : Option (κ × ν)} {rest : List (κ × ν)} (h : IterF w it m kf vf cur rest) {K : Value → World → Prop}
    (h0 : rest = [] → ∀ w', Ext [] w w' → K (.tuple #[.bool false]) w')
    (h1 : ∀ A p B w', rest = A ++ p :: B → IterF w' it m kf vf (some p) (A ++ B) → Ext [it] w w' → K (.tuple #[.bool true, kf p.1, vf p.2]) w') :
    kV P (next (.pointer (some ⟨it, 0, none⟩)) false ty) w K := by
  rw [kV_eq]
  exact run_nextM h h0 h1
/-- how many entries are left. -/
def leftIt (w : World) (it : Nat) : Nat := match w.heap[it]? with
  | some (.mapIter (some m) _ seen _) => match w.heap[m]? with
    | some (.map es _) => (es.toList.filter fun e => !seen.contains e.born).length
    | _ => 0
  | _ => 0
theorem IterF.left [DecidableEq κ] {w : World} {it m : Nat} {kf : κ → Value} {vf : ν → Value} {cur : Option (κ × ν)} {rest : List (κ × ν)} (h : IterF w it m kf vf cur rest) : leftIt w it = rest.length := by
  obtain ⟨es, clock, seen, a, b, c, d, -⟩ := h
  unfold leftIt
  rw [c]
  dsimp only
  rw [a]
  dsimp only
  simpa using congrArg List.length d
theorem run_entryM [DecidableEq κ] {P : Program} {kf : κ → Value} {vf : ν → Value} {w : World} {it m : Nat} {p : κ × ν} {rest : List (κ × ν)} (h : IterF w it m kf vf (some p) rest) : (entry (.pointer (some ⟨it, 0, none⟩))).run P w = .ok (.tuple #[kf p.1, vf p.2]) w := by
  obtain ⟨es, clock, seen, a, b, c, d, e⟩ := h
  obtain ⟨stamp, x, h1, h2, h3, h4⟩ := e p rfl
  unfold entry
  simp only [Sem.run_bind, getI c, Result.andThen_ok, h1, getO a, bne_self_eq_false, Bool.false_eq_true, if_false, h2, h3, h4, Sem.run_pure]
theorem run_cloneM [DecidableEq κ] {P : Program} {t : TypeId} {kf : κ → Value} {vf : ν → Value} {w : World} {m : Nat} {f : κ → Option ν} (h : MapF w m kf vf f) {K : Value → World → Prop}
    (hK : ∀ w', MapF w' w.heap.size kf vf f → Ext [] w w' → K (.iface t (.map (some w.heap.size))) w') : resV K ((Extern.MapsClone.clone #[.iface t (.map (some m))]).run P w) := by
  obtain ⟨l, ⟨⟨es, cl, h1, h2⟩, h3⟩, h4⟩ := h
  have e : Extern.MapsClone.clone #[.iface t (.map (some m))] = (getObj m >>= fun o => match o with
      | .map entries clock => (newObj (.map entries clock) >>= fun n => pure (.iface t (.map (some n))))
      | _ => stuck "maps.clone: a map expected") := rfl
  rw [e]
  simp only [Sem.run_bind, getO h1, Result.andThen_ok, Sem.run_pure]
  exact hK _ ⟨l, ⟨⟨es, cl, alloc_at rfl, h2⟩, h3⟩, h4⟩ Ext.refl.allocM
end Go.Fx
