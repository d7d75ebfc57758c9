/-
  A law's arguments that lie in memory: a slice of structs, opened to its block and its rows; conditions: those of each theorem.
-/
import Derived.Test.YtobkjnmdbkieeaaDoorOps
import Derived.Deep.Slices
import Derived.Carry
import Derived.OpenShut
namespace Go.Fx
open Go.ChangeShapes Go.WideShapes

theorem Ext.below {w w' : World} (h : Ext [] w w') : RowKit.Below w.heap.size w w' := ⟨h.os, h.tape, h.output, h.size, fun k hk => h.kept k hk (by simp)⟩
theorem callsK.law2 {P : Program} {f : FuncId} {args : Array Value} {w : World} (h : callsK P f args w fun v w' => v = .bool true ∧ Ext [] w w') :
    Calls P f args w fun e w' => e = .returned (.bool true) ∧ w.keptBut w' (fun _ => False) ∧ RowKit.Below w.heap.size w w' := by
  refine Calls.mono h ?_
  rintro e w' ⟨v, rfl, rfl, hx⟩
  exact ⟨rfl, hx.keptBut, hx.below⟩
theorem addr_add {a : Addr} {i : Nat} {w : World} {v : Value} (h : w.cell? (a.add i) = some v) : a.add i = ⟨a.block, a.off + i, none⟩ := by
  have hs : (a.add i).spot = none := by
    unfold World.cell? at h
    split at h
    · split at h
      · cases h
      · rename_i hn; simpa using hn
    · cases h
  unfold Addr.add at hs ⊢
  split at hs
  · rename_i h0
    subst h0
    rw [if_pos rfl]
    obtain ⟨b, o, s⟩ := a
    simp at hs
    subst hs; rfl
  · rename_i h0
    rw [if_neg h0]
theorem cell_block {w : World} {b o : Nat} {v : Value} (h : w.cell? ⟨b, o, none⟩ = some v) : ∃ (l : List Value) (E : TypeId) (f : Nat × Nat), w.heap[b]? = some (.cells l.toArray E f) ∧ l[o]? = some v := by
  unfold World.cell? at h
  split at h
  · rename_i c E f hb
    refine ⟨c.toList, E, f, by simpa using hb, ?_⟩
    simpa using h
  · cases h
/-- n cells read in a row lie in one block. -/
theorem block_of_cells {w : World} {base n : Nat} {a : Addr} {cs : List Value} (hn : 0 < n) (h : w.cells? base a n = some cs) :
    cs.length = n ∧ ∃ (l : List Value) (E : TypeId) (f : Nat × Nat), w.heap[a.block]? = some (.cells l.toArray E f) ∧ a.spot = none ∧ sub l a.off n = cs ∧ a.off + n ≤ l.length := by
  obtain ⟨hb, hl, hc⟩ := World.cells?_some h
  refine ⟨hl, ?_⟩
  have hget : ∀ i (hi : i < n), w.cell? ⟨a.block, a.off + i, none⟩ = cs[i]? := fun i hi => by
    have h1 := hc i hi
    have h2 : cs[i]? = some (cs[i]'(by omega)) := List.getElem?_eq_getElem (by omega)
    rw [h2] at h1 ⊢
    rw [← addr_add h1]; exact h1
  have h0 := hget 0 hn
  have h2 : cs[0]? = some (cs[0]'(by omega)) := List.getElem?_eq_getElem (by omega)
  rw [h2] at h0
  obtain ⟨l, E, f, hlb, hl0⟩ := cell_block h0
  have hall : ∀ i, i < n → l[a.off + i]? = cs[i]? := fun i hi => by rw [← hget i hi, cell_of_block hlb]
  have hlen : a.off + n ≤ l.length := by
    have h3 := hall (n - 1) (by omega)
    have h4 : cs[n - 1]? = some (cs[n - 1]'(by omega)) := List.getElem?_eq_getElem (by omega)
    rw [h4] at h3
    have := (List.getElem?_eq_some_iff.1 h3).1
    omega
  refine ⟨l, E, f, hlb, ?_, ?_, hlen⟩
  · have h1 := hc 0 hn
    rw [h2] at h1
    have h5 := addr_add h1
    have h6 : a.add 0 = a := by simp [Addr.add]
    rw [h6] at h5
    rw [h5]
  · apply List.ext_getElem?
    intro i
    unfold sub
    rw [List.getElem?_take]
    split
    · rename_i hi; rw [List.getElem?_drop]; exact hall i hi
    · rw [List.getElem?_eq_none (by omega)]
/-- a slice's rows: each n cells, and as the list says. -/
def RowsAt (w : World) (v : Value) (n : Nat) (rows : List (List Value)) : Prop :=
  ∃ (a : Option Addr) (cap : Nat), v = .slice a rows.length cap ∧ (rows.length ≤ cap ∧ cap ≤ maxLen) ∧ (rows = [] ∨ ∃ (b o : Nat) (l : List Value) (E : TypeId) (f : Nat × Nat), a = some ⟨b, o, none⟩ ∧ w.heap[b]? = some (.cells l.toArray E f) ∧ o + rows.length * n ≤ l.length ∧
    ∀ i r, rows[i]? = some r → sub l (o + i * n) n = r)
theorem RowsAt.ext {w w' : World} {v : Value} {n : Nat} {rows : List (List Value)} {S : List Nat} (h : RowsAt w v n rows) (hx : Ext S w w') (hs : ∀ k ∈ S, w.heap.size ≤ k) : RowsAt w' v n rows := by
  obtain ⟨a, cap, rfl, hm, h⟩ := h
  refine ⟨a, cap, rfl, hm, h.imp id ?_⟩
  rintro ⟨b, o, l, E, f, rfl, hb, h2, h3⟩
  refine ⟨b, o, l, E, f, rfl, hx.at hb (fun hc => ?_), h2, h3⟩
  have := hs b hc
  have := lt_of_at hb
  omega
/-- a row, where it lies. -/
theorem RowsAt.row {w : World} {v : Value} {n k : Nat} {rows : List (List Value)} {r : List Value} (h : RowsAt w v n rows) (hk : rows[k]? = some r) :
    ∃ (b o cap : Nat) (l : List Value) (E : TypeId) (f : Nat × Nat), v = .slice (some ⟨b, o, none⟩) rows.length cap ∧ w.heap[b]? = some (.cells l.toArray E f) ∧ o + k * n + n ≤ l.length ∧ (∀ p, p = o + k * n → sub l p n = r) ∧
      (∀ p, o + k * n ≤ p → p < o + k * n + n → l[p]? = r[p - (o + k * n)]?) := by
  obtain ⟨a, cap, rfl, hm, h⟩ := h
  obtain ⟨hk1, hk2⟩ := List.getElem?_eq_some_iff.1 hk
  rcases h with rfl | ⟨b, o, l, E, f, rfl, hb, h2, h3⟩
  · simp at hk
  · have h4 := h3 k r hk
    have h5 : k * n + n ≤ rows.length * n := by rw [← Nat.succ_mul]; exact Nat.mul_le_mul_right _ hk1
    refine ⟨b, o, cap, l, E, f, rfl, hb, by omega, fun p hp => by rw [hp]; exact h4, fun p h6 h7 => ?_⟩
    rw [← h4]
    unfold sub
    rw [List.getElem?_take_of_lt (by omega), List.getElem?_drop]
    congr 1
    omega
/-- a slice that was made by appending, row by row. -/
theorem Own.rows {w : World} {base : Nat} {e : TypeId} {size : Nat} {v : Value} {rows : List (List Value)} {xs : List Value} (h : Own w base e size v rows.length xs) (hx : xs = rows.flatten) (hs : ∀ r ∈ rows, r.length = size) : RowsAt w v size rows := by
  obtain ⟨hl, h⟩ := h
  have hrow : ∀ (rows : List (List Value)), (∀ r ∈ rows, r.length = size) → ∀ (i : Nat) (r : List Value), rows[i]? = some r → sub rows.flatten (i * size) size = r := by
    intro rows
    induction rows with
    | nil => intro _ i r h; simp at h
    | cons x rows ih =>
      intro hs i r h
      have hx := hs x (List.mem_cons_self ..)
      unfold sub
      cases i with
      | zero =>
        simp only [List.getElem?_cons_zero, Option.some.injEq] at h
        rw [Nat.zero_mul, List.drop_zero, List.flatten_cons, ← hx, List.take_left, h]
      | succ i =>
        simp only [List.getElem?_cons_succ] at h
        have := ih (fun r hr => hs r (List.mem_cons_of_mem _ hr)) i r h
        unfold sub at this
        rw [List.flatten_cons, Nat.succ_mul, Nat.add_comm, ← hx, ← List.drop_drop, List.drop_left, hx]
        exact this
  rcases h with ⟨rfl, h0⟩ | ⟨g, cap, cur, rfl, -, hg, hn, hcm, hcl, ht⟩
  · exact ⟨none, 0, by rw [h0], by simp only [maxLen]; omega, .inl (List.eq_nil_of_length_eq_zero h0)⟩
  · refine ⟨_, cap, rfl, ⟨hn, hcm⟩, .inr ⟨g, 0, cur, e, (0, 0), rfl, hg, ?_, ?_⟩⟩
    · rw [hcl, Nat.zero_add]; exact Nat.mul_le_mul_right _ hn
    · intro i r hi
      have h1 := hrow rows hs i r hi
      rw [← hx, ← ht] at h1
      rw [Nat.zero_add]
      obtain ⟨hi1, -⟩ := List.getElem?_eq_some_iff.1 hi
      have h5 : i * size + size ≤ rows.length * size := by rw [← Nat.succ_mul]; exact Nat.mul_le_mul_right _ hi1
      rw [← h1]
      unfold sub
      rw [List.drop_take, List.take_take, Nat.min_eq_left (by omega)]
theorem RowsAt.at {w w' : World} {v : Value} {n : Nat} {rows : List (List Value)} {S : List Nat} (h : RowsAt w v n rows) (hx : Ext S w w') (hs : ∀ b, blockOf v = some b → b ∉ S) : RowsAt w' v n rows := by
  obtain ⟨a, cap, rfl, hm, h⟩ := h
  refine ⟨a, cap, rfl, hm, h.imp id ?_⟩
  rintro ⟨b, o, l, E, f, rfl, hb, h2, h3⟩
  exact ⟨b, o, l, E, f, rfl, hx.at hb (hs b rfl), h2, h3⟩
theorem Own.block {w : World} {base : Nat} {e : TypeId} {size : Nat} {v : Value} {n : Nat} {xs : List Value} (h : Own w base e size v n xs) : ∀ b, blockOf v = some b → base ≤ b := by
  intro b hb
  rcases h.2 with ⟨rfl, -⟩ | ⟨g, cap, cur, rfl, hg, -⟩
  · cases hb
  · cases hb; exact hg
section
variable {H : Type} {enc : TypeId × Value → H} {P : Program} {w : World} {base : Nat} {spare : Nat → Bool} {held : Bool}
theorem open_rows {t e : TypeId} {n fuel : Nat} {cs : List Value} {x : DataW H × List MemPlace} (ht : P.underlying t = some (.slice e)) (hn : P.cellsOf e = n) (hpos : 0 < n) (h : DataW.trod enc P w base spare held fuel t cs = some x) :
    ∃ v rows, cs = [v] ∧ RowsAt w v n rows ∧ ∀ r ∈ rows, ∃ m y, DataW.trod enc P w base spare held m e r = some y := by
  rcases Deep.open_slice ht h with ⟨rfl, rfl⟩ | ⟨a, len, cap, m, k, D, Pl, rfl, hb, hl, hm, hmm, rfl, hx⟩
  · exact ⟨_, [], rfl, ⟨none, 0, rfl, ⟨Nat.zero_le _, Nat.zero_le _⟩, .inl rfl⟩, by simp⟩
  · rw [hn] at hx
    have hlm : len ≤ m := by rw [hmm]; split <;> omega
    obtain ⟨R, hR⟩ := Deep.choose_lt (n := len) (p := fun i cs' => w.cells? base (a.add (i * n)) n = some cs' ∧ DataW.trod enc P w base spare held k e cs' = some (D i, Pl i)) (fun i hi => hx i (by omega))
    refine ⟨_, (List.range len).map R, rfl, ⟨some a, cap, by simp, ⟨by simp; omega, hm⟩, ?_⟩, ?_⟩
    · by_cases h0 : len = 0
      · left; subst h0; rfl
      · right
        obtain ⟨_, l, E, f, hlb, hsp, _, _⟩ := block_of_cells hpos (hR 0 (by omega)).1
        have ha0 : a.add (0 * n) = a := by simp [Addr.add]
        rw [ha0] at hlb hsp
        have ha : a = ⟨a.block, a.off, none⟩ := by rw [← hsp]
        have hrow : ∀ i, i < len → sub l (a.off + i * n) n = R i ∧ a.off + i * n + n ≤ l.length := by
          intro i hi
          obtain ⟨_, l', E', f', hlb', _, h6, h7⟩ := block_of_cells hpos (hR i hi).1
          have e1 : a.add (i * n) = ⟨a.block, a.off + i * n, none⟩ := by rw [ha]; exact add_off _ _ _
          rw [e1] at hlb' h6 h7
          simp only at hlb' h6 h7
          rw [hlb] at hlb'
          simp only [Option.some.injEq, Obj.cells.injEq] at hlb'
          have : l = l' := by simpa using congrArg Array.toList hlb'.1
          subst this
          exact ⟨h6, h7⟩
        refine ⟨a.block, a.off, l, E, f, by rw [← ha], hlb, ?_, ?_⟩
        · have := (hrow (len - 1) (by omega)).2
          have e2 : len * n = (len - 1) * n + n := by rw [← Nat.succ_mul]; congr 1; omega
          simp only [List.length_map, List.length_range]
          omega
        · intro i r hr
          simp only [List.getElem?_map, Option.map_eq_some_iff] at hr
          obtain ⟨j, hj, rfl⟩ := hr
          obtain ⟨hj1, rfl⟩ := List.getElem?_eq_some_iff.1 hj
          simp only [List.length_range] at hj1
          simp only [List.getElem_range]
          exact (hrow i hj1).1
    · intro r hr
      simp only [List.mem_map, List.mem_range] at hr
      obtain ⟨i, hi, rfl⟩ := hr
      exact ⟨_, _, (hR i hi).2⟩
/-- a struct's fields, each read by itself. -/
theorem fields_of {t : TypeId} {fs : Array Field} {fuel : Nat} {cs : List Value} {x : DataW H × List MemPlace} (ht : P.underlying t = some (.struct fs)) (h : DataW.trod enc P w base spare held fuel t cs = some x) :
    cs.length = P.cellsOf t ∧ ∀ (i : Nat) (f : Field), fs[i]? = some f → ∃ m y, DataW.trod enc P w base spare held m f.type ((cs.drop f.offset).take (P.cellsOf f.type)) = some y := by
  obtain ⟨xs, n, _, _, hl, hlen, hf⟩ := DataW.trod_struct ht h
  refine ⟨hl, fun i f hi => ?_⟩
  have h1 := hf i f hi
  have h2 : i < fs.size := (Array.getElem?_eq_some_iff.1 hi).1
  rw [List.getElem?_eq_getElem (by omega)] at h1
  exact ⟨n, _, h1⟩
theorem field_int {t ft : TypeId} {fs : Array Field} {fuel : Nat} {cs : List Value} {x : DataW H × List MemPlace} {k : IntKind} (ht : P.underlying t = some (.struct fs)) (h : DataW.trod enc P w base spare held fuel t cs = some x) (i o : Nat)
    (hf : (fs[i]?).map (fun f => (f.offset, f.type)) = some (o, ft)) (hk : P.underlying ft = some (.int k)) (hc : P.cellsOf ft = 1) : ∃ n, cs[o]? = some (.int k n) ∧ (Lit.int k n).wf = true := by
  obtain ⟨f, h1, h2⟩ := Option.map_eq_some_iff.1 hf
  simp only [Prod.mk.injEq] at h2
  obtain ⟨rfl, rfl⟩ := h2
  obtain ⟨m, y, hy⟩ := (fields_of ht h).2 i f h1
  obtain ⟨n, h3, _, h4⟩ := DataW.trod_int hk hy
  rw [hc] at h3
  refine ⟨n, ?_, h4⟩
  have : ((cs.drop f.offset).take 1)[0]? = some (.int k n) := by rw [h3]; rfl
  rw [List.getElem?_take_of_lt (by omega), List.getElem?_drop, Nat.add_zero] at this
  exact this
theorem field_bool {t ft : TypeId} {fs : Array Field} {fuel : Nat} {cs : List Value} {x : DataW H × List MemPlace} (ht : P.underlying t = some (.struct fs)) (h : DataW.trod enc P w base spare held fuel t cs = some x) (i o : Nat)
    (hf : (fs[i]?).map (fun f => (f.offset, f.type)) = some (o, ft)) (hk : P.underlying ft = some .bool) (hc : P.cellsOf ft = 1) : ∃ b, cs[o]? = some (.bool b) := by
  obtain ⟨f, h1, h2⟩ := Option.map_eq_some_iff.1 hf
  simp only [Prod.mk.injEq] at h2
  obtain ⟨rfl, rfl⟩ := h2
  obtain ⟨m, y, hy⟩ := (fields_of ht h).2 i f h1
  obtain ⟨b, h3, _⟩ := DataW.trod_bool hk hy
  rw [hc] at h3
  refine ⟨b, ?_⟩
  have : ((cs.drop f.offset).take 1)[0]? = some (.bool b) := by rw [h3]; rfl
  rw [List.getElem?_take_of_lt (by omega), List.getElem?_drop, Nat.add_zero] at this
  exact this
end
/-! ### a law's frame -/
section
variable {H : Type} {enc : TypeId × Value → H} {P : Program}
/-- the law's end: the world may have new blocks, frozen or not. -/
theorem post_own {f : Func} {s : ChangeSpec} {apart fresh handsOn : Bool} {W W' : World} {args : Array Value} {v : Value} {ds gs : List (DataW H)} {before pa pv : List MemPlace} (hW : DataW.Whole enc P f.params.toList s.vars apart W args.toList ds gs before)
    (hres : ∀ (b : Nat) (sp : Nat → Bool) (hd : Bool), DataW.TrodAll enc P W' b sp hd f.resultTypes.toList (v.resultList f.resultTypes.size) (s.fn H (ds ++ gs)).results [])
    (hargs : ∀ sp : Nat → Bool, (∀ p ∈ before, sp p.block = true) → DataW.TrodAll enc P W' 0 sp true f.params.toList args.toList (s.fn H (ds ++ gs)).args pa)
    (hvars : ∀ sp : Nat → Bool, (∀ p ∈ before, sp p.block = true) → DataW.TrodVars enc P W' sp s.vars (s.fn H (ds ++ gs)).vars pv) (hk : W.keptBut W' (fun _ => False)) :
    s.post enc P f apart fresh handsOn false W args v W' := by
  have hold : ∀ p ∈ before, (fun b => decide (b < W.heap.size)) p.block = true := fun p hp => by simpa using hW.lt p hp
  exact ⟨ds, gs, before, [], pa, pv, hW, hres _ _ _, hargs _ hold, hvars _ hold, World.keptBut_mono (fun _ f => f.elim) hk, fun h => by cases h⟩
/-- the arguments read as they did. -/
theorem stayAll (hl : laidOutB P = true) {W W' : World} {sp : Nat → Bool} (hb : RowKit.Below W.heap.size W W') : ∀ {ts : List TypeId} {vs : List Value} {ds : List (DataW H)} {ps : List MemPlace}, (∀ t ∈ ts, P.readableRec t = true ∧ t < P.types.size) →
    DataW.TrodAll enc P W 0 (fun _ => true) true ts vs ds ps → (∀ x ∈ ps, x.block < W.heap.size) → (∀ x ∈ ps, sp x.block = true) → DataW.TrodAll enc P W' 0 sp true ts vs ds ps
  | [], vs, ds, ps, _, h, _, _ => by
    obtain ⟨rfl, rfl, rfl⟩ := trodAll_nil h
    exact trodAll_mk0
  | t :: ts, vs, ds, ps, hr, h, hlt, hsp => by
    obtain ⟨v, vs, d, ds, p, q, rfl, rfl, rfl, h1, h2⟩ := trodAll_cons h
    obtain ⟨r1, r2⟩ := hr t (List.mem_cons_self ..)
    refine trodAll_cons_mk (WideElems.Trod_stays hl r1 r2 h1 (fun x hx => hb.same (hlt x (List.mem_append_left _ hx))) (fun x hx => hsp x (List.mem_append_left _ hx))) ?_
    exact stayAll hl hb (fun t ht => hr t (List.mem_cons_of_mem _ ht)) h2 (fun x hx => hlt x (List.mem_append_right _ hx)) (fun x hx => hsp x (List.mem_append_right _ hx))
theorem slice_trod {w : World} {base b0 : Nat} {spare : Nat → Bool} {held : Bool} {r : Reach} {t e : TypeId} {v : Value} {d : DataW H} {ps : List MemPlace} (ht : P.underlying t = some (.slice e)) (hval : Value.okWide P w r b0 t v) (h : DataW.Trod enc P w base spare held t v d ps) :
    ∃ fuel x, DataW.trod enc P w base spare held fuel t [v] = some x := by
  obtain ⟨a, n, c, rfl⟩ := okWide_slice ht hval
  obtain ⟨fuel, hf⟩ := h
  exact ⟨fuel, _, by simpa [Value.cells] using hf⟩
theorem agg_trod {w : World} {base : Nat} {spare : Nat → Bool} {held : Bool} {t : TypeId} {v : Value} {d : DataW H} {ps : List MemPlace} (h : DataW.Trod enc P w base spare held t v d ps) :
    ∃ fuel x, DataW.trod enc P w base spare held fuel t v.cells.toList = some x := by
  obtain ⟨fuel, hf⟩ := h
  exact ⟨fuel, _, hf⟩
end
end Go.Fx
