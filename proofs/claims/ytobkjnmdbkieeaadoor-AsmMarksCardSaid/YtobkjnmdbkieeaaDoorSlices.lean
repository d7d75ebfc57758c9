/-
  Slices that are made by appending, row by row: literals, appending, cutting; conditions: those of each theorem.
-/
import Derived.Test.YtobkjnmdbkieeaaDoorArgs
namespace Go.Fx
open Go.Builtin
set_option linter.unusedSimpArgs false

/-- v is a slice of these rows, alone in its block (from base on), or nil. -/
structure OwnR (w : World) (base : Nat) (e : TypeId) (size : Nat) (v : Value) (rows : List (List Value)) : Prop where
  own : Own w base e size v rows.length rows.flatten
  size : ∀ r ∈ rows, r.length = size
  one : ∀ r ∈ rows, r.all (fun v => v.oneCell') = true
theorem OwnR.nil {w : World} {base : Nat} {e : TypeId} {size : Nat} : OwnR w base e size (.slice none 0 0) [] := ⟨Own.nil, by simp, by simp⟩
theorem OwnR.rows {w : World} {base : Nat} {e : TypeId} {size : Nat} {v : Value} {rows : List (List Value)} (h : OwnR w base e size v rows) : RowsAt w v size rows := h.own.rows rfl h.size
theorem OwnR.block {w : World} {base : Nat} {e : TypeId} {size : Nat} {v : Value} {rows : List (List Value)} (h : OwnR w base e size v rows) : ∀ b, blockOf v = some b → base ≤ b := h.own.block
theorem Own.ext {w w' : World} {base : Nat} {e : TypeId} {size n : Nat} {v : Value} {xs : List Value} {S : List Nat} (h : Own w base e size v n xs) (hx : Ext S w w') (hs : ∀ b, blockOf v = some b → b ∉ S) : Own w' base e size v n xs := by
  refine ⟨h.1, h.2.imp id ?_⟩
  rintro ⟨g, cap, cur, rfl, h1, h2, h3⟩
  exact ⟨g, cap, cur, rfl, h1, hx.at h2 (hs g rfl), h3⟩
theorem OwnR.ext {w w' : World} {base : Nat} {e : TypeId} {size : Nat} {v : Value} {rows : List (List Value)} {S : List Nat} (h : OwnR w base e size v rows) (hx : Ext S w w') (hs : ∀ b, blockOf v = some b → b ∉ S) : OwnR w' base e size v rows :=
  ⟨h.own.ext hx hs, h.size, h.one⟩
theorem Own.low {w : World} {b1 b2 : Nat} {e : TypeId} {size n : Nat} {v : Value} {xs : List Value} (h : Own w b1 e size v n xs) (hb : b2 ≤ b1) : Own w b2 e size v n xs := by
  refine ⟨h.1, h.2.imp id ?_⟩
  rintro ⟨g, cap, cur, rfl, h1, h2⟩
  exact ⟨g, cap, cur, rfl, by omega, h2⟩
theorem OwnR.low {w : World} {b1 b2 : Nat} {e : TypeId} {size : Nat} {v : Value} {rows : List (List Value)} (h : OwnR w b1 e size v rows) (hb : b2 ≤ b1) : OwnR w b2 e size v rows := ⟨h.own.low hb, h.size, h.one⟩
theorem RowsAt.len {w : World} {v : Value} {n : Nat} {rows : List (List Value)} (h : RowsAt w v n rows) : ∃ (a : Option Addr) (cap : Nat), v = .slice a rows.length cap := ⟨h.choose, h.choose_spec.choose, h.choose_spec.choose_spec.1⟩
theorem flatten_all {rows : List (List Value)} {f : Value → Bool} (h : ∀ r ∈ rows, r.all f = true) : rows.flatten.all f = true := by
  rw [List.all_eq_true]
  intro x hx
  obtain ⟨r, hr, hxr⟩ := List.mem_flatten.1 hx
  exact List.all_eq_true.1 (h r hr) x hxr
theorem rows_sub {l : List Value} {size : Nat} : ∀ {rows : List (List Value)} {o : Nat}, o + rows.length * size ≤ l.length → (∀ i r, rows[i]? = some r → sub l (o + i * size) size = r) → sub l o (rows.length * size) = rows.flatten
  | [], o, _, _ => by simp [sub]
  | r :: rows, o, hl, h => by
    have h0 := h 0 r rfl
    rw [Nat.zero_mul, Nat.add_zero] at h0
    have hm : (r :: rows).length * size = size + rows.length * size := by simp [Nat.succ_mul, Nat.add_comm]
    have ih := rows_sub (size := size) (rows := rows) (o := o + size) (l := l) (by omega) (fun i r hi => by
      have := h (i + 1) r hi
      rw [show o + size + i * size = o + (i + 1) * size by rw [Nat.succ_mul]; omega]
      exact this)
    rw [hm, List.flatten_cons, ← ih, ← h0]
    unfold sub
    rw [List.take_add, List.drop_drop]
theorem run_append_none {P : Program} {t ty e : TypeId} {size : Nat} (ht : P.underlying t = some (.slice e)) (hs : ∀ w, (sizeOf e).run P w = .ok size w) (base a : Option Addr) (n cap c : Nat) (hn : n ≤ cap) (w : World) :
    (append_ #[t, t] ty #[.slice base n cap, .slice a 0 c]).run P w = .ok (.slice base n cap) w := by
  cases base <;> cases a <;> simp [append_, run_underlying ht, hs, lenOf, firstCells, loadCells, loadCellsFrom, hn, storeCells]
theorem RowsAt.rowlen {w : World} {v : Value} {n : Nat} {rows : List (List Value)} (h : RowsAt w v n rows) : ∀ r ∈ rows, r.length = n := by
  intro r hr
  obtain ⟨k, hk, rfl⟩ := List.getElem_of_mem hr
  obtain ⟨b, o, cap, l, E, f, rfl, hb, hfit, hsub, -⟩ := h.row (k := k) (r := rows[k]) (by simp)
  rw [← hsub _ rfl]
  unfold sub
  simp
  omega
theorem kV_appR {P : Program} {t ty e : TypeId} {size bytes : Nat} (ht : P.underlying t = some (.slice e)) (hi : (P.info? e).map (fun i => (i.size, i.bytes, i.zero.map (fun z => z.cells.size))) = some (size, bytes, some size)) (hsz : 0 < size)
    {base : Nat} {v x : Value} {rows rows2 : List (List Value)} {w : World} {K : Value → World → Prop} (hown : OwnR w base e size v rows) (hx : RowsAt w x size rows2) (h1 : ∀ r ∈ rows2, r.all (fun v => v.oneCell') = true)
    (h63 : rows.length + rows2.length ≤ maxLen) (hbytes : (rows.length + rows2.length) * bytes ≤ 140737488355328) (hbase : base ≤ w.heap.size)
    (hK : ∀ v' w', OwnR w' base e size v' (rows ++ rows2) → App base v w w' → K v' w') : resV K ((append_ #[t, t] ty #[v, x]).run P w) := by
  have hrl := hx.rowlen
  obtain ⟨a, c, rfl, hc, h⟩ := hx
  rcases h with rfl | ⟨b, o, l, E, f, rfl, hb, hfit, hsub⟩
  · have hs : ∀ w, (sizeOf e).run P w = .ok size w := by
      obtain ⟨i, h2, h3⟩ := Option.map_eq_some_iff.1 hi
      simp only [Prod.mk.injEq] at h3
      intro w
      simp [sizeOf, typeInfo, h2, h3.1]
    have : ∃ a n c, v = .slice a n c ∧ n ≤ c := by
      rcases hown.own.2 with ⟨rfl, -⟩ | ⟨g, cap, cur, rfl, -, -, h, -⟩
      · exact ⟨_, _, _, rfl, Nat.le_refl _⟩
      · exact ⟨_, _, _, rfl, h⟩
    obtain ⟨a', n', c', rfl, hn⟩ := this
    rw [show ([] : List (List Value)).length = 0 from rfl, run_append_none ht hs _ _ _ _ _ hn]
    exact hK _ _ (by simpa using hown) App.refl
  · have hrs := rows_sub hfit hsub
    refine kV_appendO ht hi hsz hown.own hb hfit (by rw [hrs]; exact flatten_all h1) h63 hbytes hbase fun v' w' ho ha => hK v' w' ⟨?_, ?_, ?_⟩ ha
    · rw [List.length_append, List.flatten_append, ← hrs]; exact ho
    · intro r hr
      rcases List.mem_append.1 hr with h | h
      · exact hown.size r h
      · exact hrl r h
    · intro r hr
      rcases List.mem_append.1 hr with h | h
      · exact hown.one r h
      · exact h1 r h
/-! ### literals -/
theorem fill_set : ∀ (vs : List Value) (k off : Nat) (cells : Array Value), off + k + vs.length ≤ cells.size → ((vs.zipIdx k).foldl (fun (cs : Array Value) (x : Value × Nat) => cs.setIfInBounds (off + x.2) x.1) cells).toList = splice cells.toList (off + k) vs
  | [], k, off, cells, h => by simp [splice]
  | c :: vs, k, off, cells, h => by
    simp only [List.length_cons] at h
    rw [List.zipIdx_cons, List.foldl_cons, fill_set vs (k + 1) off _ (by simp; omega)]
    apply List.ext_getElem?
    intro i
    rw [splice_get (by simp; omega), splice_get (by simp; omega)]
    simp only [Array.toList_setIfInBounds, List.getElem?_set, List.length_cons]
    by_cases h1 : i < off + k
    · simp only [h1, show i < off + (k + 1) by omega, if_true, show ¬ off + k = i by omega, if_false]
    · by_cases h2 : i = off + k
      · subst h2
        simp only [show off + k < off + (k + 1) by omega, if_true, show ¬ off + k < off + k by omega, if_false, show off + k < off + k + (vs.length + 1) by omega, Nat.sub_self, List.getElem?_cons_zero]
        simp; omega
      · by_cases h3 : i < off + (k + 1) + vs.length
        · simp only [show ¬ i < off + (k + 1) by omega, if_false, h3, if_true, h1, show i < off + k + (vs.length + 1) by omega, show i - (off + k) = (i - (off + (k + 1))) + 1 by omega, List.getElem?_cons_succ]
        · simp only [show ¬ i < off + (k + 1) by omega, if_false, h3, h1, show ¬ i < off + k + (vs.length + 1) by omega, show ¬ off + k = i by omega]
def partsFrom : Nat → List Value → List (Nat × Value)
  | _, [] => []
  | k, v :: vs => (k, v) :: partsFrom (k + 1) vs
theorem splice_app {v B : List Value} {l : List Value} {o : Nat} (h : o + v.length + B.length ≤ l.length) : splice (splice l o v) (o + v.length) B = splice l o (v ++ B) := by
  apply List.ext_getElem?
  intro i
  have e1 : (splice l o v).length = l.length := splice_length (by omega)
  rw [splice_get (by omega), splice_get (by omega), splice_get (by simp; omega), List.length_append]
  by_cases h1 : i < o
  · simp only [h1, show i < o + v.length by omega, if_true]
  · by_cases h2 : i < o + v.length
    · simp only [h1, h2, if_true, if_false, show i < o + (v.length + B.length) by omega]
      rw [List.getElem?_append_left (by omega)]
    · by_cases h3 : i < o + v.length + B.length
      · simp only [h1, h2, h3, if_true, if_false, show i < o + (v.length + B.length) by omega]
        rw [List.getElem?_append_right (by omega)]
        congr 1; omega
      · simp only [h1, h2, h3, if_false, show ¬ i < o + (v.length + B.length) by omega]
theorem fill_parts {size : Nat} : ∀ (vs : List Value) (k : Nat) (cells : Array Value), (∀ v ∈ vs, v.cells.size = size) → k * size + vs.length * size ≤ cells.size →
    ∃ c, Instr.fill (fun i => some (i * size, size)) cells (partsFrom k vs) = some c ∧ c.toList = splice cells.toList (k * size) (vs.flatMap fun v => v.cells.toList)
  | [], k, cells, _, _ => ⟨cells, rfl, by simp [splice]⟩
  | v :: vs, k, cells, hv, hk => by
    have h0 := hv v (List.mem_cons_self ..)
    have hm : (v :: vs).length * size = size + vs.length * size := by simp [Nat.succ_mul, Nat.add_comm]
    have hfs := fill_set v.cells.toList 0 (k * size) cells (by simp; omega)
    have hlen : ∀ vs : List Value, (∀ v ∈ vs, v.cells.size = size) → (vs.flatMap fun v => v.cells.toList).length = vs.length * size := by
      intro vs hv
      induction vs with
      | nil => simp
      | cons x vs ih =>
        rw [List.flatMap_cons, List.length_append, ih fun v h => hv v (List.mem_cons_of_mem _ h)]
        have := hv x (List.mem_cons_self ..)
        simp [Nat.succ_mul, this]; omega
    have hsz : ∀ c : Array Value, c.toList = splice cells.toList (k * size + 0) v.cells.toList → c.size = cells.size := by
      intro c hc
      have := congrArg List.length hc
      rw [splice_length (by simp; omega)] at this
      simpa using this
    obtain ⟨c, h1, h2⟩ := fill_parts (size := size) vs (k + 1) _ (fun v h => hv v (List.mem_cons_of_mem _ h)) (by rw [hsz _ hfs, Nat.succ_mul]; omega)
    refine ⟨c, ?_, ?_⟩
    · unfold partsFrom Instr.fill
      simp only
      rw [if_neg (by simp; omega)]
      rw [← h1]
      congr 1
      rw [← Array.foldl_toList]
      simp
    · rw [h2, hfs, List.flatMap_cons, ← splice_app (by rw [hlen vs fun v h => hv v (List.mem_cons_of_mem _ h)]; simp; omega)]
      congr 1
      simp [Nat.succ_mul, h0]
theorem run_bs {P : Program} {t e : TypeId} {size : Nat} (ht : P.underlying t = some (.slice e)) (hi : (P.info? e).map (fun i => (i.size, i.zero.isSome)) = some (size, true)) (vs : List Value) (hv : ∀ v ∈ vs, v.cells.size = size) (hsm : vs.length * size ≤ 16777216) (w : World) :
    (Instr.buildSlice t vs.length (partsFrom 0 vs).toArray).run P w = .ok (.slice (some ⟨w.heap.size, 0, none⟩) vs.length vs.length) (w.alloc (.cells (vs.flatMap fun v => v.cells.toList).toArray e)) := by
  obtain ⟨i, h2, h3⟩ := Option.map_eq_some_iff.1 hi
  simp only [Prod.mk.injEq] at h3
  obtain ⟨h4, h5⟩ := h3
  obtain ⟨z, h6⟩ := Option.isSome_iff_exists.1 h5
  have hs : ∀ w, (sizeOf e).run P w = .ok size w := fun w => by simp [sizeOf, typeInfo, h2, h4]
  have hz : ∀ w, (zeroValue e).run P w = .ok z w := fun w => by simp [zeroValue, typeInfo, h2, h6]
  have hn : ∀ c w, (newRow e c).run P w = .ok ⟨w.heap.size, 0, none⟩ (w.alloc (.cells c e)) := fun _ _ => rfl
  have key : ∀ cells : Array Value, cells.size = vs.length * size → ∃ c, Instr.fill (fun i => some (i * size, size)) cells (partsFrom 0 vs) = some c ∧ c = (vs.flatMap fun v => v.cells.toList).toArray := by
    intro cells hc
    obtain ⟨c, h1, h2⟩ := fill_parts (size := size) vs 0 cells hv (by omega)
    refine ⟨c, h1, ?_⟩
    have hlen : ∀ vs : List Value, (∀ v ∈ vs, v.cells.size = size) → (vs.flatMap fun v => v.cells.toList).length = vs.length * size := by
      intro vs hv
      induction vs with
      | nil => simp
      | cons x vs ih =>
        rw [List.flatMap_cons, List.length_append, ih fun v h => hv v (List.mem_cons_of_mem _ h)]
        have := hv x (List.mem_cons_self ..)
        simp [Nat.succ_mul, this]; omega
    apply Array.ext'
    rw [h2]
    unfold splice
    rw [Nat.zero_mul, List.take_zero, hlen vs hv, List.nil_append, List.drop_eq_nil_of_le (by simp; omega), List.append_nil]
  by_cases h0 : vs.length * size = 0
  · obtain ⟨c, h1, rfl⟩ := key ((Array.range (vs.length * size)).map fun i => (#[] : Array Value)[i % (#[] : Array Value).size]!) (by simp)
    simp [Instr.buildSlice, run_underlying ht, hs, h0] at h1 ⊢
    simp [h1, hn]
  · obtain ⟨c, h1, rfl⟩ := key ((Array.range (vs.length * size)).map fun i => z.cells[i % z.cells.size]!) (by simp)
    have h7 : ¬ vs.length * size > 2 ^ 24 := by omega
    simp [Instr.buildSlice, run_underlying ht, hs, hz, h0, h7, h1, hn]
theorem run_bs0 {P : Program} {t e : TypeId} {size : Nat} (ht : P.underlying t = some (.slice e)) (hi : (P.info? e).map (fun i => (i.size, i.zero.isSome)) = some (size, true)) (w : World) :
    (Instr.buildSlice t 0 #[]).run P w = .ok (.slice (some ⟨w.heap.size, 0, none⟩) 0 0) (w.alloc (.cells [].toArray e)) := run_bs ht hi [] (by simp) (by simp) w
theorem run_bs1 {P : Program} {t e : TypeId} {size : Nat} (ht : P.underlying t = some (.slice e)) (hi : (P.info? e).map (fun i => (i.size, i.zero.isSome)) = some (size, true)) (hs : size ≤ 16777216) (vs : List Value) (hv : vs.length = size) (w : World) :
    (Instr.buildSlice t 1 [(0, .agg vs.toArray)].toArray).run P w = .ok (.slice (some ⟨w.heap.size, 0, none⟩) 1 1) (w.alloc (.cells vs.toArray e)) := by
  have := run_bs ht hi [.agg vs.toArray] (by simp [Value.cells, hv]) (by simp; omega) w
  simpa [Value.cells, partsFrom] using this
theorem run_bsS {P : Program} {t e : TypeId} (ht : P.underlying t = some (.slice e)) (hi : (P.info? e).map (fun i => (i.size, i.zero.isSome)) = some (1, true)) (vs : List Value) (hv : ∀ v ∈ vs, v.oneCell' = true) (hs : vs.length ≤ 16777216) (w : World) :
    (Instr.buildSlice t vs.length (partsFrom 0 vs).toArray).run P w = .ok (.slice (some ⟨w.heap.size, 0, none⟩) vs.length vs.length) (w.alloc (.cells vs.toArray e)) := by
  have h1 : ∀ v : Value, v.oneCell' = true → v.cells = #[v] := by
    intro v h
    cases v <;> first | rfl | (simp [Value.oneCell'] at h)
  have h2 : (vs.flatMap fun v => v.cells.toList) = vs := by
    clear hs
    induction vs with
    | nil => rfl
    | cons x vs ih =>
      rw [List.flatMap_cons, ih fun v h => hv v (List.mem_cons_of_mem _ h), h1 x (hv x (List.mem_cons_self ..))]; rfl
  have := run_bs ht hi vs (fun v h => by rw [h1 v (hv v h)]; rfl) (by omega) w
  rw [h2] at this
  exact this
/-- a row that was just laid. -/
theorem OwnR.fresh {w : World} {e : TypeId} {size base : Nat} {vs : List Value} (hs : vs.length = size) (h1 : vs.all (fun v => v.oneCell') = true) (hb : base ≤ w.heap.size) :
    OwnR (w.alloc (.cells vs.toArray e)) base e size (.slice (some ⟨w.heap.size, 0, none⟩) 1 1) [vs] :=
  ⟨⟨by simp [hs], .inr ⟨w.heap.size, 1, vs, rfl, hb, alloc_at rfl, Nat.le_refl _, by simp [maxLen], by simp [hs], by simp [hs, List.take_of_length_le]⟩⟩, by simp [hs], by simpa using h1⟩
theorem OwnR.fresh0 {w : World} {e : TypeId} {size base : Nat} (hb : base ≤ w.heap.size) : OwnR (w.alloc (.cells [].toArray e)) base e size (.slice (some ⟨w.heap.size, 0, none⟩) 0 0) [] :=
  ⟨⟨by simp, .inr ⟨w.heap.size, 0, [], rfl, hb, alloc_at rfl, Nat.le_refl _, by simp, by simp, by simp⟩⟩, by simp, by simp⟩
theorem OwnR.empty {w : World} {e : TypeId} {size base g : Nat} (h : w.heap[g]? = some (.cells [].toArray e (0, 0))) (hb : base ≤ g) : OwnR w base e size (.slice (some ⟨g, 0, none⟩) 0 0) [] :=
  ⟨⟨by simp, .inr ⟨g, 0, [], rfl, hb, h, Nat.le_refl _, by simp, by simp, by simp⟩⟩, by simp, by simp⟩
theorem RowsAt.one {w : World} {E : TypeId} {f : Nat × Nat} {n g : Nat} {l : List Value} (h : w.heap[g]? = some (.cells l.toArray E f)) (hl : l.length = n) : RowsAt w (.slice (some ⟨g, 0, none⟩) 1 1) n [l] :=
  ⟨_, 1, rfl, ⟨Nat.le_refl _, by simp [maxLen]⟩, .inr ⟨g, 0, l, E, f, rfl, h, by simp [hl], fun i r hi => by
    match i, hi with
    | 0, hi => simp at hi; subst hi; simp [sub, ← hl]⟩⟩
theorem RowsAt.lt {w : World} {v : Value} {n : Nat} {rows : List (List Value)} (h : RowsAt w v n rows) (h0 : rows ≠ []) : ∃ b, blockOf v = some b ∧ b < w.heap.size := by
  obtain ⟨a, cap, rfl, -, h | ⟨b, o, l, E, f, rfl, hb, -⟩⟩ := h
  · exact absurd h h0
  · exact ⟨b, rfl, lt_of_at hb⟩
/-- rows stay where only newer blocks turn. -/
theorem RowsAt.stay {w w' : World} {v : Value} {n : Nat} {rows : List (List Value)} {S : List Nat} {k : Nat} (h : RowsAt w v n rows) (hx : Ext S w w') (hb : ∀ b, blockOf v = some b → b < k) (hs : ∀ b ∈ S, k ≤ b) : RowsAt w' v n rows :=
  h.at hx fun b h1 h2 => by have := hb b h1; have := hs b h2; omega
/-! ### cutting -/
theorem RowsAt.cut {P : Program} {t e : TypeId} {size : Nat} (ht : P.underlying t = some (.slice e)) (hs : ∀ w, (sizeOf e).run P w = .ok size w) {w0 : World} {v : Value} {rows : List (List Value)} (hv : RowsAt w0 v size rows) {lo hi : Option Value} {l h : Nat} (hlh : l ≤ h) (hh : h ≤ rows.length)
    (hlo : (lo = none ∧ l = 0) ∨ ∃ k z, lo = some (.int k z) ∧ z = l) (hhi : (hi = none ∧ h = rows.length) ∨ ∃ k z, hi = some (.int k z) ∧ z = h) :
    ∃ v', (∀ w, (Instr.sliceAt t v lo hi none).run P w = .ok v' w) ∧ (∀ w, RowsAt w v size rows → RowsAt w v' size ((rows.take h).drop l)) ∧ blockOf v' = blockOf v := by
  obtain ⟨a, cap, rfl, ⟨hc1, hc2⟩, hrows⟩ := hv
  have hb : ∀ w, (Instr.sliceBounds true rows.length cap lo hi none).run P w = .ok (l, h, cap) w := by
    intro w
    rcases hlo with ⟨rfl, rfl⟩ | ⟨k, z, rfl, rfl⟩
    · rcases hhi with ⟨rfl, rfl⟩ | ⟨k', z', rfl, rfl⟩
      · exact slR.1 ..
      · exact (slR.2.1 _ _ _ _ _ _ (by omega)).trans (by simp)
    · rcases hhi with ⟨rfl, rfl⟩ | ⟨k', z', rfl, rfl⟩
      · exact (slR.2.2.1 _ _ _ _ _ _ (by omega)).trans (by simp)
      · exact (slR.2.2.2.1 _ _ _ _ _ _ _ _ (by omega)).trans (by simp)
  have hlen : ((rows.take h).drop l).length = h - l := by simp; omega
  have hget : ∀ i r, ((rows.take h).drop l)[i]? = some r → rows[l + i]? = some r := by
    intro i r hi
    rw [List.getElem?_drop, List.getElem?_take] at hi
    split at hi
    · exact hi
    · cases hi
  cases a with
  | none =>
    refine ⟨.slice none (h - l) (cap - l), fun w => ?_, fun w hw => ?_, rfl⟩
    · rw [sl_nil ht hs, hb]; rfl
    · rcases hrows with rfl | ⟨b, o, _, _, _, hcon, _⟩
      · simp only [List.length_nil, Nat.le_zero] at hh
        subst hh
        obtain rfl : l = 0 := by omega
        exact ⟨none, cap, rfl, ⟨Nat.zero_le _, hc2⟩, .inl (by simp)⟩
      · cases hcon
  | some a =>
    by_cases hr : rows = []
    · subst hr
      simp only [List.length_nil, Nat.le_zero] at hh
      subst hh
      obtain rfl : l = 0 := by omega
      refine ⟨.slice (some (if cap = 0 then a else a.add (0 * size))) (0 - 0) (cap - 0), fun w => ?_, fun w hw => ⟨_, cap, rfl, ⟨Nat.zero_le _, hc2⟩, .inl (by simp)⟩, ?_⟩
      · have hb' := hb w
        simp only [List.length_nil] at hb' ⊢
        simp [Instr.sliceAt, Instr.slice, run_underlying ht, hb', hs]
        split <;> rfl
      · have : a.add (0 * size) = a := by simp [Addr.add]
        rw [this]; simp [blockOf]
    · obtain ⟨b, o, L, E, f, he, h2⟩ : ∃ (b o : Nat) (l : List Value) (E : TypeId) (f : Nat × Nat), some a = some ⟨b, o, none⟩ ∧ w0.heap[b]? = some (.cells l.toArray E f) ∧ o + rows.length * size ≤ l.length ∧ ∀ i r, rows[i]? = some r → sub l (o + i * size) size = r := by
        rcases hrows with h0 | h0
        · exact absurd h0 hr
        · exact h0
      cases he
      refine ⟨.slice (some (sAt b o cap l size)) (h - l) (cap - l), fun w => ?_, fun w hw => ?_, ?_⟩
      · rw [sl_slc ht hs, hb]; rfl
      · obtain ⟨a', cap', he, -, hw⟩ := hw
        cases he
        by_cases hlh' : l = h
        · subst hlh'
          exact ⟨some (sAt b o cap l size), cap - l, by simp, ⟨by simp, by omega⟩, .inl (List.eq_nil_of_length_eq_zero (by omega))⟩
        · have hne : cap ≠ l := by omega
          rcases hw with h0 | ⟨b', o', L', E', f', he, h3, h4, h5⟩
          · exact absurd h0 hr
          · cases he
            refine ⟨_, cap - l, by rw [hlen], ⟨by rw [hlen]; omega, by omega⟩, .inr ⟨b, o + l * size, L', E', f', by rw [sAt_ne hne], h3, ?_, fun i r hi => ?_⟩⟩
            · rw [hlen]
              have : l * size + (h - l) * size ≤ rows.length * size := by rw [← Nat.add_mul]; exact Nat.mul_le_mul_right _ (by omega)
              omega
            · have := h5 (l + i) r (hget i r hi)
              rw [Nat.add_mul] at this
              rw [Nat.add_assoc]; exact this
      · unfold sAt
        split <;> rfl
theorem pV_cut {P : Program} {t e : TypeId} {size : Nat} (ht : P.underlying t = some (.slice e)) (hs : ∀ w, (sizeOf e).run P w = .ok size w) {w0 : World} {v : Value} {rows : List (List Value)} (hv : RowsAt w0 v size rows) {lo hi : Option Value} (l h : Nat) (hlh : l ≤ h) (hh : h ≤ rows.length)
    (hlo : (lo = none ∧ l = 0) ∨ ∃ k z, lo = some (.int k z) ∧ z = l) (hhi : (hi = none ∧ h = rows.length) ∨ ∃ k z, hi = some (.int k z) ∧ z = h) {K : Value → Prop}
    (hK : ∀ v', (∀ w, RowsAt w v size rows → RowsAt w v' size ((rows.take h).drop l)) → blockOf v' = blockOf v → K v') : resPV K (fun w => (Instr.sliceAt t v lo hi none).run P w) := by
  obtain ⟨v', h1, h2, h3⟩ := hv.cut ht hs hlh hh hlo hhi
  exact ⟨v', h1, hK v' h2 h3⟩
theorem kV_cut {P : Program} {t e : TypeId} {size : Nat} (ht : P.underlying t = some (.slice e)) (hs : ∀ w, (sizeOf e).run P w = .ok size w) {w0 w : World} {v : Value} {rows : List (List Value)} (hv : RowsAt w0 v size rows) {lo hi : Option Value} (l h : Nat) (hlh : l ≤ h) (hh : h ≤ rows.length)
    (hlo : (lo = none ∧ l = 0) ∨ ∃ k z, lo = some (.int k z) ∧ z = l) (hhi : (hi = none ∧ h = rows.length) ∨ ∃ k z, hi = some (.int k z) ∧ z = h) {K : Value → World → Prop}
    (hK : ∀ v', (∀ w, RowsAt w v size rows → RowsAt w v' size ((rows.take h).drop l)) → blockOf v' = blockOf v → K v' w) : resV K ((Instr.sliceAt t v lo hi none).run P w) := by
  obtain ⟨v', h1, h2, h3⟩ := hv.cut ht hs hlh hh hlo hhi
  rw [h1]
  exact hK v' h2 h3
theorem OwnR.blt {w : World} {base : Nat} {e : TypeId} {size : Nat} {v : Value} {rows : List (List Value)} (h : OwnR w base e size v rows) : ∀ b, blockOf v = some b → b < w.heap.size := by
  intro b hb
  rcases h.own.2 with ⟨rfl, -⟩ | ⟨g, cap, cur, rfl, -, hg, -⟩
  · cases hb
  · cases hb; exact lt_of_at hg
theorem RowsAt.lenR {P : Program} {t e ty : TypeId} (ht : P.underlying t = some (.slice e)) {w0 : World} {v : Value} {n : Nat} {rows : List (List Value)} (h : RowsAt w0 v n rows) (w : World) : (len_ #[t] ty #[v]).run P w = .ok (.int .i64 rows.length) w := by
  obtain ⟨a, cap, rfl⟩ := h.len
  exact Fx.run_len_slice ht a _ cap w
/-- where a row lies, by its number. -/
theorem RowsAt.ixR {P : Program} {t e : TypeId} {n : Nat} (ht : P.underlying t = some (.slice e)) (hs : ∀ w, (sizeOf e).run P w = .ok n w) {w0 : World} {v : Value} {rows : List (List Value)} {k : Nat} {r : List Value} (h : RowsAt w0 v n rows) (hk : rows[k]? = some r) :
    ∃ (b o : Nat) (l : List Value) (E : TypeId) (f : Nat × Nat), (∀ (w : World) (kd : IntKind) (z : Int), z = k → (Instr.indexAt t v (.int kd z)).run P w = .ok (.pointer (some ⟨b, o, none⟩)) w) ∧ w0.heap[b]? = some (.cells l.toArray E f) ∧ o + n ≤ l.length ∧ b < w0.heap.size ∧ blockOf v = some b ∧
      (∀ p, p = o → sub l p n = r) ∧ (∀ p j, p = o + j → j < n → l[p]? = r[j]?) := by
  obtain ⟨b, o, cap, l, E, f, rfl, hb, hfit, hsub, hget⟩ := h.row hk
  have hkl : k < rows.length := (List.getElem?_eq_some_iff.1 hk).1
  refine ⟨b, o + k * n, l, E, f, fun w kd z hz => ?_, hb, hfit, lt_of_at hb, rfl, hsub, fun p j hp hj => ?_⟩
  · subst hz
    rw [Fx.run_index_slice ht hs b o rows.length cap kd k w (by omega)]
    simp
  · rw [hget p (by omega) (by omega)]
    congr 1
    omega
/-! ### equality with nil, and of texts -/
theorem equalInF {P : Program} {t : TypeId} {ps rs : Array TypeId} {vd : Bool} (h : P.underlying t = some (.func ps rs vd)) (d : Nat) (f : Fn) (a c : Array Value) (w : World) : (Op.equalIn (d + 1) t (.func f a c) .nilFunc).run P w = .ok (false) w := by
  simp [Op.equalIn, run_underlying h]
theorem run_eqlF {P : Program} {t : TypeId} {ps rs : Array TypeId} {vd : Bool} (h : P.underlying t = some (.func ps rs vd)) (x y : Operand) (f : Fn) (a c : Array Value) (w : World) : (binV .eql t x y (.func f a c) .nilFunc).run P w = .ok (.bool (false)) w := by
  have e : (Op.equal t (.func f a c) .nilFunc).run P w = .ok (false) w := equalInF h 9999 f a c w
  simp [binV, eqGuard, binOp, e]
theorem run_neqF {P : Program} {t : TypeId} {ps rs : Array TypeId} {vd : Bool} (h : P.underlying t = some (.func ps rs vd)) (x y : Operand) (f : Fn) (a c : Array Value) (w : World) : (binV .neq t x y (.func f a c) .nilFunc).run P w = .ok (.bool (!(false))) w := by
  have e : (Op.equal t (.func f a c) .nilFunc).run P w = .ok (false) w := equalInF h 9999 f a c w
  simp [binV, eqGuard, binOp, e]
theorem equalInSl {P : Program} {t : TypeId} {e : TypeId} (h : P.underlying t = some (.slice e)) (d : Nat) (a : Option Addr) (n c : Nat) (w : World) : (Op.equalIn (d + 1) t (.slice a n c) (.slice none 0 0)).run P w = .ok (a.isNone) w := by
  cases a <;> simp [Op.equalIn, run_underlying h]
theorem run_eqlSl {P : Program} {t : TypeId} {e : TypeId} (h : P.underlying t = some (.slice e)) (x y : Operand) (a : Option Addr) (n c : Nat) (w : World) : (binV .eql t x y (.slice a n c) (.slice none 0 0)).run P w = .ok (.bool (a.isNone)) w := by
  have e : (Op.equal t (.slice a n c) (.slice none 0 0)).run P w = .ok (a.isNone) w := equalInSl h 9999 a n c w
  simp [binV, eqGuard, binOp, e]
theorem run_neqSl {P : Program} {t : TypeId} {e : TypeId} (h : P.underlying t = some (.slice e)) (x y : Operand) (a : Option Addr) (n c : Nat) (w : World) : (binV .neq t x y (.slice a n c) (.slice none 0 0)).run P w = .ok (.bool (!(a.isNone))) w := by
  have e : (Op.equal t (.slice a n c) (.slice none 0 0)).run P w = .ok (a.isNone) w := equalInSl h 9999 a n c w
  simp [binV, eqGuard, binOp, e]
theorem equalInM {P : Program} {t : TypeId} {k e : TypeId} (h : P.underlying t = some (.map k e)) (d : Nat) (a : Option Nat) (w : World) : (Op.equalIn (d + 1) t (.map a) (.map none)).run P w = .ok (a.isNone) w := by
  cases a <;> simp [Op.equalIn, run_underlying h]
theorem run_eqlM {P : Program} {t : TypeId} {k e : TypeId} (h : P.underlying t = some (.map k e)) (x y : Operand) (a : Option Nat) (w : World) : (binV .eql t x y (.map a) (.map none)).run P w = .ok (.bool (a.isNone)) w := by
  have e : (Op.equal t (.map a) (.map none)).run P w = .ok (a.isNone) w := equalInM h 9999 a w
  simp [binV, eqGuard, binOp, e]
theorem run_neqM {P : Program} {t : TypeId} {k e : TypeId} (h : P.underlying t = some (.map k e)) (x y : Operand) (a : Option Nat) (w : World) : (binV .neq t x y (.map a) (.map none)).run P w = .ok (.bool (!(a.isNone))) w := by
  have e : (Op.equal t (.map a) (.map none)).run P w = .ok (a.isNone) w := equalInM h 9999 a w
  simp [binV, eqGuard, binOp, e]
theorem RowsAt.at' {w w' : World} {v : Value} {n : Nat} {rows : List (List Value)} {S : List Nat} (h : RowsAt w v n rows) (hx : Ext S w w') (hs : rows ≠ [] → ∀ b, blockOf v = some b → b ∉ S) : RowsAt w' v n rows := by
  obtain ⟨a, cap, rfl, hm, h⟩ := h
  refine ⟨a, cap, rfl, hm, ?_⟩
  rcases h with h | ⟨b, o, l, E, f, rfl, hb, h2, h3⟩
  · exact .inl h
  · by_cases h0 : rows = []
    · exact .inl h0
    · exact .inr ⟨b, o, l, E, f, rfl, hx.at hb (hs h0 b rfl), h2, h3⟩
theorem RowsAt.blt {w : World} {v : Value} {n : Nat} {rows : List (List Value)} (h : RowsAt w v n rows) (h0 : rows ≠ []) : ∀ b, blockOf v = some b → b < w.heap.size := by
  intro b hb
  obtain ⟨b', h1, h2⟩ := h.lt h0
  rw [h1] at hb
  cases hb
  exact h2
theorem pN_nilE {P : Program} {a : Addr} {K : Value → Prop} : pN P (nilN (.pointer (some a))) K = K (.pointer (some a)) := by
  apply propext
  constructor
  · rintro ⟨v, h, hk⟩
    have h1 := h default
    have h2 : (nilN (.pointer (some a))).run P default = .ok (.value (.pointer (some a))) default := rfl
    have h3 := h1.symm.trans h2
    cases h3
    exact hk
  · exact pN_nil
theorem pnR {P : Program} : ∀ (a : Addr) (K : Value → Prop), pN P (nilN (.pointer (some a))) K = K (.pointer (some a)) := fun _ _ => pN_nilE
/-! ### made slices -/
def madeL (zs : List Value) (n : Nat) : List Value := (List.range n).map fun x => zs.getD (x % zs.length) undef
theorem madeL_length (zs : List Value) (n : Nat) : (madeL zs n).length = n := by simp [madeL]
theorem madeL_get {zs : List Value} {n x : Nat} (h : x < n) : (madeL zs n)[x]? = some (zs.getD (x % zs.length) undef) := by simp [madeL, h]
theorem run_mk {P : Program} {t e : TypeId} {size bytes : Nat} {zs : List Value} (ht : P.underlying t = some (.slice e)) (hi : (P.info? e).map (fun i => (i.size, i.bytes, i.zero.map fun z => z.cells.toList)) = some (size, bytes, some zs)) (kl kc : IntKind) (n : Nat) (hz : zs ≠ []) (hs : n * size ≤ 16777216) (hb : bytes * n ≤ 140737488355328) (hn : n ≤ 1000000) (w : World) :
    (Instr.makeSlice t (.int kl n) (.int kc n)).run P w = .ok (.slice (some ⟨w.heap.size, 0, none⟩) n n) (w.alloc (.cells (madeL zs (n * size)).toArray e)) := by
  obtain ⟨i, h2, h3⟩ := Option.map_eq_some_iff.1 hi
  simp only [Prod.mk.injEq] at h3
  obtain ⟨h4, h5, h6⟩ := h3
  obtain ⟨z, h7, h8⟩ := Option.map_eq_some_iff.1 h6
  subst h4 h5 h8
  have := run_makeSlice (P := P) w t e i z ht h2 h7 kl kc n n (by omega) (Int.le_refl _) (by simpa using hs) (by have h := Int.ofNat_le.2 hb; rw [Int.natCast_mul] at h; exact Int.le_trans h (by decide)) (by omega)
  rw [this]
  have e1 : madeCells z.cells ((n : Int).toNat * i.size) = (madeL z.cells.toList (n * i.size)).toArray := by
    apply Array.ext'
    unfold madeL madeCells
    simp only [Int.toNat_natCast]
    simp only [Array.toList_map, Array.toList_range]
    apply List.map_congr_left
    intro x hx
    have hp : 0 < z.cells.size := by
      rcases Nat.eq_zero_or_pos z.cells.size with h | h
      · exact absurd (List.eq_nil_of_length_eq_zero (by simpa using h)) hz
      · exact h
    have hlt : x % z.cells.size < z.cells.size := Nat.mod_lt _ hp
    simp [hlt]
  rw [e1]
  simp
theorem run_arrayAt {P : Program} {t e : TypeId} {n : Nat} (ht : P.underlying t = some (.array n e)) (a : Option Addr) (len cap : Nat) (h : n ≤ len) (w : World) : (Instr.arrayAt t (.slice a len cap)).run P w = .ok (.pointer a) w := by
  simp [Instr.arrayAt, run_underlying ht, show ¬ len < n by omega]
end Go.Fx
