/- Part 1 of what the law ExecNumbers stands on: formulas of the functions that it reaches, and what each of them does; conditions: those of each theorem. -/
import Derived.Test.YtplfniijbeinmaaGreatP0
set_option linter.unusedVariables false
set_option linter.unusedSimpArgs false
namespace Go.Fx
open Go.Builtin
/-- v is a slice of these rows, alone in its block (from base on), or nil. -/
structure OwnR (w : World) (base : Nat) (e : TypeId) (size : Nat) (v : Value) (rows : List (List Value)) : Prop where
  own : Own w base e size v rows.length rows.flatten
  size : ∀ r ∈ rows, r.length = size
  one : ∀ r ∈ rows, r.all (fun v => v.oneCell') = true
theorem OwnR.nil {w : World} {base : Nat} {e : TypeId} {size : Nat} : OwnR w base e size (.slice none 0 0) [] := ⟨Own.nil, by simp, by simp⟩
theorem OwnR.rows {w : World} {base : Nat} {e : TypeId} {size : Nat} {v : Value} {rows : List (List Value)} (h : OwnR w base e size v rows) : RowsAt w v size rows := h.own.rows rfl h.size
theorem OwnR.block {w : World} {base : Nat} {e : TypeId} {size : Nat} {v : Value} {rows : List (List Value)} (h : OwnR w base e size v rows) : ∀ b, blockOf v = some b -> base <= b := h.own.block
theorem Own.ext {w w' : World} {base : Nat} {e : TypeId} {size n : Nat} {v : Value} {xs : List Value} {S : List Nat} (h : Own w base e size v n xs) (hx : Ext S w w') (hs : ∀ b, blockOf v = some b -> b ∉ S) : Own w' base e size v n xs := by
  refine ⟨h.1, h.2.imp id ?_⟩
  rintro ⟨g, cap, cur, rfl, h1, h2, h3⟩
  exact ⟨g, cap, cur, rfl, h1, hx.at h2 (hs g rfl), h3⟩
theorem OwnR.ext {w w' : World} {base : Nat} {e : TypeId} {size : Nat} {v : Value} {rows : List (List Value)} {S : List Nat} (h : OwnR w base e size v rows) (hx : Ext S w w') (hs : ∀ b, blockOf v = some b -> b ∉ S) : OwnR w' base e size v rows :=
  ⟨h.own.ext hx hs, h.size, h.one⟩
theorem Own.low {w : World} {b1 b2 : Nat} {e : TypeId} {size n : Nat} {v : Value} {xs : List Value} (h : Own w b1 e size v n xs) (hb : b2 <= b1) : Own w b2 e size v n xs := by
  refine ⟨h.1, h.2.imp id ?_⟩
  rintro ⟨g, cap, cur, rfl, h1, h2⟩
  exact ⟨g, cap, cur, rfl, by omega, h2⟩
theorem OwnR.low {w : World} {b1 b2 : Nat} {e : TypeId} {size : Nat} {v : Value} {rows : List (List Value)} (h : OwnR w b1 e size v rows) (hb : b2 <= b1) : OwnR w b2 e size v rows := ⟨h.own.low hb, h.size, h.one⟩
theorem RowsAt.len {w : World} {v : Value} {n : Nat} {rows : List (List Value)} (h : RowsAt w v n rows) : ∃ (a : Option Addr) (cap : Nat), v = .slice a rows.length cap := ⟨h.choose, h.choose_spec.choose, h.choose_spec.choose_spec.1⟩
theorem flatten_all {rows : List (List Value)} {f : Value -> Bool} (h : ∀ r ∈ rows, r.all f = true) : rows.flatten.all f = true := by
  rw [List.all_eq_true]
  intro x hx
  obtain ⟨r, hr, hxr⟩ := List.mem_flatten.1 hx
  exact List.all_eq_true.1 (h r hr) x hxr
theorem rows_sub {l : List Value} {size : Nat} : ∀ {rows : List (List Value)} {o : Nat}, o + rows.length * size <= l.length -> (∀ i r, rows[i]? = some r -> sub l (o + i * size) size = r) -> sub l o (rows.length * size) = rows.flatten
  | [], o, _, _ => by simp [sub]
  | r :: rows, o, hl, h => by
    have h0 := h 0 r rfl
    rw [Nat.zero_mul, Nat.add_zero] at h0
    have hm : (r :: rows).length * size = size + rows.length * size := by simp [Nat.succ_mul, Nat.add_comm]
    have ih := rows_sub (size := size) (rows := rows) (o := o + size) (l := l) (by omega) (fun i r hi => by
      have := h (i + 1) r hi
      rw [show o + size + i * size = o + (i + 1) * size by rw [Nat.succ_mul]; omega]
      exact this)
    rw [hm, List.flatten_cons, <- ih, <- h0]
    unfold sub
    rw [List.take_add, List.drop_drop]
theorem run_append_none {P : Program} {t ty e : TypeId} {size : Nat} (ht : P.underlying t = some (.slice e)) (hs : ∀ w, (sizeOf e).run P w = .ok size w) (base a : Option Addr) (n cap c : Nat) (hn : n <= cap) (w : World) :
    (append_ #[t, t] ty #[.slice base n cap, .slice a 0 c]).run P w = .ok (.slice base n cap) w := by
  cases base <;> cases a <;> simp [append_, run_underlying ht, hs, lenOf, firstCells, loadCells, loadCellsFrom, hn, storeCells]
theorem RowsAt.rowlen {w : World} {v : Value} {n : Nat} {rows : List (List Value)} (h : RowsAt w v n rows) : ∀ r ∈ rows, r.length = n := by
  intro r hr
  obtain ⟨k, hk, rfl⟩ := List.getElem_of_mem hr
  obtain ⟨b, o, cap, l, E, f, rfl, hb, hfit, hsub, -⟩ := h.row (k := k) (r := rows[k]) (by simp)
  rw [<- hsub _ rfl]
  unfold sub
  simp
  omega
theorem kV_appR {P : Program} {t ty e : TypeId} {size bytes : Nat} (ht : P.underlying t = some (.slice e)) (hi : (P.info? e).map (fun i => (i.size, i.bytes, i.zero.map (fun z => z.cells.size))) = some (size, bytes, some size)) (hsz : 0 < size)
    {base : Nat} {v x : Value} {rows rows2 : List (List Value)} {w : World} {K : Value -> World -> Prop} (hown : OwnR w base e size v rows) (hx : RowsAt w x size rows2) (h1 : ∀ r ∈ rows2, r.all (fun v => v.oneCell') = true)
    (h63 : rows.length + rows2.length <= maxLen) (hbytes : (rows.length + rows2.length) * bytes <= 140737488355328) (hbase : base <= w.heap.size)
    (hK : ∀ v' w', OwnR w' base e size v' (rows ++ rows2) -> App base v w w' -> K v' w') : resV K ((append_ #[t, t] ty #[v, x]).run P w) := by
  have hrl := hx.rowlen
  obtain ⟨a, c, rfl, hc, h⟩ := hx
  rcases h with rfl | ⟨b, o, l, E, f, rfl, hb, hfit, hsub⟩
  · have hs : ∀ w, (sizeOf e).run P w = .ok size w := by
      obtain ⟨i, h2, h3⟩ := Option.map_eq_some_iff.1 hi
      simp only [Prod.mk.injEq] at h3
      intro w
      simp [sizeOf, typeInfo, h2, h3.1]
    have : ∃ a n c, v = .slice a n c /\ n <= c := by
      rcases hown.own.2 with ⟨rfl, -⟩ | ⟨g, cap, cur, rfl, -, -, h, -⟩
      · exact ⟨_, _, _, rfl, Nat.le_refl _⟩
      · exact ⟨_, _, _, rfl, h⟩
    obtain ⟨a', n', c', rfl, hn⟩ := this
    rw [show ([] : List (List Value)).length = 0 from rfl, run_append_none ht hs _ _ _ _ _ hn]
    exact hK _ _ (by simpa using hown) App.refl
  · have hrs := rows_sub hfit hsub
    refine kV_appendO ht hi hsz hown.own hb hfit (by rw [hrs]; exact flatten_all h1) h63 hbytes hbase fun v' w' ho ha => hK v' w' ⟨?_, ?_, ?_⟩ ha
    · rw [List.length_append, List.flatten_append, <- hrs]; exact ho
    · intro r hr
      rcases List.mem_append.1 hr with h | h
      · exact hown.size r h
      · exact hrl r h
    · intro r hr
      rcases List.mem_append.1 hr with h | h
      · exact hown.one r h
      · exact h1 r h
theorem fill_set : ∀ (vs : List Value) (k off : Nat) (cells : Array Value), off + k + vs.length <= cells.size -> ((vs.zipIdx k).foldl (fun (cs : Array Value) (x : Value × Nat) => cs.setIfInBounds (off + x.2) x.1) cells).toList = splice cells.toList (off + k) vs
  | [], k, off, cells, h => by simp [splice]
  | c :: vs, k, off, cells, h => by
    simp only [List.length_cons] at h
    rw [List.zipIdx_cons, List.foldl_cons, fill_set vs (k + 1) off _ (by simp; omega)]
    apply List.ext_getElem?
    intro i
    rw [splice_get (by simp; omega), splice_get (by simp; omega)]
    simp only [Array.toList_setIfInBounds, List.getElem?_set, List.length_cons]
    by_cases h1 : i < off + k
    · simp only [h1, show i < off + (k + 1) by omega, if_true, show ¬ off + k = i by omega, if_false]
    · by_cases h2 : i = off + k
      · subst h2
        simp only [show off + k < off + (k + 1) by omega, if_true, show ¬ off + k < off + k by omega, if_false, show off + k < off + k + (vs.length + 1) by omega, Nat.sub_self, List.getElem?_cons_zero]
        simp; omega
      · by_cases h3 : i < off + (k + 1) + vs.length
        · simp only [show ¬ i < off + (k + 1) by omega, if_false, h3, if_true, h1, show i < off + k + (vs.length + 1) by omega, show i - (off + k) = (i - (off + (k + 1))) + 1 by omega, List.getElem?_cons_succ]
        · simp only [show ¬ i < off + (k + 1) by omega, if_false, h3, h1, show ¬ i < off + k + (vs.length + 1) by omega, show ¬ off + k = i by omega]
def partsFrom : Nat -> List Value -> List (Nat × Value)
  | _, [] => []
  | k, v :: vs => (k, v) :: partsFrom (k + 1) vs
theorem splice_app {v B : List Value} {l : List Value} {o : Nat} (h : o + v.length + B.length <= l.length) : splice (splice l o v) (o + v.length) B = splice l o (v ++ B) := by
  apply List.ext_getElem?
  intro i
  have e1 : (splice l o v).length = l.length := splice_length (by omega)
  rw [splice_get (by omega), splice_get (by omega), splice_get (by simp; omega), List.length_append]
  by_cases h1 : i < o
  · simp only [h1, show i < o + v.length by omega, if_true]
  · by_cases h2 : i < o + v.length
    · simp only [h1, h2, if_true, if_false, show i < o + (v.length + B.length) by omega]
      rw [List.getElem?_append_left (by omega)]
    · by_cases h3 : i < o + v.length + B.length
      · simp only [h1, h2, h3, if_true, if_false, show i < o + (v.length + B.length) by omega]
        rw [List.getElem?_append_right (by omega)]
        congr 1; omega
      · simp only [h1, h2, h3, if_false, show ¬ i < o + (v.length + B.length) by omega]
theorem fill_parts {size : Nat} : ∀ (vs : List Value) (k : Nat) (cells : Array Value), (∀ v ∈ vs, v.cells.size = size) -> k * size + vs.length * size <= cells.size ->
    ∃ c, Instr.fill (fun i => some (i * size, size)) cells (partsFrom k vs) = some c /\ c.toList = splice cells.toList (k * size) (vs.flatMap fun v => v.cells.toList)
  | [], k, cells, _, _ => ⟨cells, rfl, by simp [splice]⟩
  | v :: vs, k, cells, hv, hk => by
    have h0 := hv v (List.mem_cons_self ..)
    have hm : (v :: vs).length * size = size + vs.length * size := by simp [Nat.succ_mul, Nat.add_comm]
    have hfs := fill_set v.cells.toList 0 (k * size) cells (by simp; omega)
    have hlen : ∀ vs : List Value, (∀ v ∈ vs, v.cells.size = size) -> (vs.flatMap fun v => v.cells.toList).length = vs.length * size := by
      intro vs hv
      induction vs with
      | nil => simp
      | cons x vs ih =>
        rw [List.flatMap_cons, List.length_append, ih fun v h => hv v (List.mem_cons_of_mem _ h)]
        have := hv x (List.mem_cons_self ..)
        simp [Nat.succ_mul, this]; omega
    have hsz : ∀ c : Array Value, c.toList = splice cells.toList (k * size + 0) v.cells.toList -> c.size = cells.size := by
      intro c hc
      have := congrArg List.length hc
      rw [splice_length (by simp; omega)] at this
      simpa using this
    obtain ⟨c, h1, h2⟩ := fill_parts (size := size) vs (k + 1) _ (fun v h => hv v (List.mem_cons_of_mem _ h)) (by rw [hsz _ hfs, Nat.succ_mul]; omega)
    refine ⟨c, ?_, ?_⟩
    · unfold partsFrom Instr.fill
      simp only
      rw [if_neg (by simp; omega)]
      rw [<- h1]
      congr 1
      rw [<- Array.foldl_toList]
      simp
    · rw [h2, hfs, List.flatMap_cons, <- splice_app (by rw [hlen vs fun v h => hv v (List.mem_cons_of_mem _ h)]; simp; omega)]
      congr 1
      simp [Nat.succ_mul, h0]
theorem run_bs {P : Program} {t e : TypeId} {size : Nat} (ht : P.underlying t = some (.slice e)) (hi : (P.info? e).map (fun i => (i.size, i.zero.isSome)) = some (size, true)) (vs : List Value) (hv : ∀ v ∈ vs, v.cells.size = size) (hsm : vs.length * size <= 16777216) (w : World) :
    (Instr.buildSlice t vs.length (partsFrom 0 vs).toArray).run P w = .ok (.slice (some ⟨w.heap.size, 0, none⟩) vs.length vs.length) (w.alloc (.cells (vs.flatMap fun v => v.cells.toList).toArray e)) := by
  obtain ⟨i, h2, h3⟩ := Option.map_eq_some_iff.1 hi
  simp only [Prod.mk.injEq] at h3
  obtain ⟨h4, h5⟩ := h3
  obtain ⟨z, h6⟩ := Option.isSome_iff_exists.1 h5
  have hs : ∀ w, (sizeOf e).run P w = .ok size w := fun w => by simp [sizeOf, typeInfo, h2, h4]
  have hz : ∀ w, (zeroValue e).run P w = .ok z w := fun w => by simp [zeroValue, typeInfo, h2, h6]
  have hn : ∀ c w, (newRow e c).run P w = .ok ⟨w.heap.size, 0, none⟩ (w.alloc (.cells c e)) := fun _ _ => rfl
  have key : ∀ cells : Array Value, cells.size = vs.length * size -> ∃ c, Instr.fill (fun i => some (i * size, size)) cells (partsFrom 0 vs) = some c /\ c = (vs.flatMap fun v => v.cells.toList).toArray := by
    intro cells hc
    obtain ⟨c, h1, h2⟩ := fill_parts (size := size) vs 0 cells hv (by omega)
    refine ⟨c, h1, ?_⟩
    have hlen : ∀ vs : List Value, (∀ v ∈ vs, v.cells.size = size) -> (vs.flatMap fun v => v.cells.toList).length = vs.length * size := by
      intro vs hv
      induction vs with
      | nil => simp
      | cons x vs ih =>
        rw [List.flatMap_cons, List.length_append, ih fun v h => hv v (List.mem_cons_of_mem _ h)]
        have := hv x (List.mem_cons_self ..)
        simp [Nat.succ_mul, this]; omega
    apply Array.ext'
    rw [h2]
    unfold splice
    rw [Nat.zero_mul, List.take_zero, hlen vs hv, List.nil_append, List.drop_eq_nil_of_le (by simp; omega), List.append_nil]
  by_cases h0 : vs.length * size = 0
  · obtain ⟨c, h1, rfl⟩ := key ((Array.range (vs.length * size)).map fun i => (#[] : Array Value)[i % (#[] : Array Value).size]!) (by simp)
    simp [Instr.buildSlice, run_underlying ht, hs, h0] at h1 ⊢
    simp [h1, hn]
  · obtain ⟨c, h1, rfl⟩ := key ((Array.range (vs.length * size)).map fun i => z.cells[i % z.cells.size]!) (by simp)
    have h7 : ¬ vs.length * size > 2 ^ 24 := by omega
    simp [Instr.buildSlice, run_underlying ht, hs, hz, h0, h7, h1, hn]
theorem run_bs0 {P : Program} {t e : TypeId} {size : Nat} (ht : P.underlying t = some (.slice e)) (hi : (P.info? e).map (fun i => (i.size, i.zero.isSome)) = some (size, true)) (w : World) :
    (Instr.buildSlice t 0 #[]).run P w = .ok (.slice (some ⟨w.heap.size, 0, none⟩) 0 0) (w.alloc (.cells [].toArray e)) := run_bs ht hi [] (by simp) (by simp) w
theorem run_bs1 {P : Program} {t e : TypeId} {size : Nat} (ht : P.underlying t = some (.slice e)) (hi : (P.info? e).map (fun i => (i.size, i.zero.isSome)) = some (size, true)) (hs : size <= 16777216) (vs : List Value) (hv : vs.length = size) (w : World) :
    (Instr.buildSlice t 1 [(0, .agg vs.toArray)].toArray).run P w = .ok (.slice (some ⟨w.heap.size, 0, none⟩) 1 1) (w.alloc (.cells vs.toArray e)) := by
  have := run_bs ht hi [.agg vs.toArray] (by simp [Value.cells, hv]) (by simp; omega) w
  simpa [Value.cells, partsFrom] using this
theorem run_bsS {P : Program} {t e : TypeId} (ht : P.underlying t = some (.slice e)) (hi : (P.info? e).map (fun i => (i.size, i.zero.isSome)) = some (1, true)) (vs : List Value) (hv : ∀ v ∈ vs, v.oneCell' = true) (hs : vs.length <= 16777216) (w : World) :
    (Instr.buildSlice t vs.length (partsFrom 0 vs).toArray).run P w = .ok (.slice (some ⟨w.heap.size, 0, none⟩) vs.length vs.length) (w.alloc (.cells vs.toArray e)) := by
  have h1 : ∀ v : Value, v.oneCell' = true -> v.cells = #[v] := by
    intro v h
    cases v <;> first | rfl | (simp [Value.oneCell'] at h)
  have h2 : (vs.flatMap fun v => v.cells.toList) = vs := by
    clear hs
    induction vs with
    | nil => rfl
    | cons x vs ih =>
      rw [List.flatMap_cons, ih fun v h => hv v (List.mem_cons_of_mem _ h), h1 x (hv x (List.mem_cons_self ..))]; rfl
  have := run_bs ht hi vs (fun v h => by rw [h1 v (hv v h)]; rfl) (by omega) w
  rw [h2] at this
  exact this
theorem OwnR.empty {w : World} {e : TypeId} {size base g : Nat} (h : w.heap[g]? = some (.cells [].toArray e (0, 0))) (hb : base <= g) : OwnR w base e size (.slice (some ⟨g, 0, none⟩) 0 0) [] :=
  ⟨⟨by simp, .inr ⟨g, 0, [], rfl, hb, h, Nat.le_refl _, by simp, by simp, by simp⟩⟩, by simp, by simp⟩
theorem RowsAt.one {w : World} {E : TypeId} {f : Nat × Nat} {n g : Nat} {l : List Value} (h : w.heap[g]? = some (.cells l.toArray E f)) (hl : l.length = n) : RowsAt w (.slice (some ⟨g, 0, none⟩) 1 1) n [l] :=
  ⟨_, 1, rfl, ⟨Nat.le_refl _, by simp [maxLen]⟩, .inr ⟨g, 0, l, E, f, rfl, h, by simp [hl], fun i r hi => by
    match i, hi with
    | 0, hi => simp at hi; subst hi; simp [sub, <- hl]⟩⟩
theorem RowsAt.lt {w : World} {v : Value} {n : Nat} {rows : List (List Value)} (h : RowsAt w v n rows) (h0 : rows ≠ []) : ∃ b, blockOf v = some b /\ b < w.heap.size := by
  obtain ⟨a, cap, rfl, -, h | ⟨b, o, l, E, f, rfl, hb, -⟩⟩ := h
  · exact absurd h h0
  · exact ⟨b, rfl, lt_of_at hb⟩
theorem OwnR.blt {w : World} {base : Nat} {e : TypeId} {size : Nat} {v : Value} {rows : List (List Value)} (h : OwnR w base e size v rows) : ∀ b, blockOf v = some b -> b < w.heap.size := by
  intro b hb
  rcases h.own.2 with ⟨rfl, -⟩ | ⟨g, cap, cur, rfl, -, hg, -⟩
  · cases hb
  · cases hb; exact lt_of_at hg
theorem RowsAt.lenR {P : Program} {t e ty : TypeId} (ht : P.underlying t = some (.slice e)) {w0 : World} {v : Value} {n : Nat} {rows : List (List Value)} (h : RowsAt w0 v n rows) (w : World) : (len_ #[t] ty #[v]).run P w = .ok (.int .i64 rows.length) w := by
  obtain ⟨a, cap, rfl⟩ := h.len
  exact Fx.run_len_slice ht a _ cap w
/-- where a row lies, by its number. -/
theorem RowsAt.ixR {P : Program} {t e : TypeId} {n : Nat} (ht : P.underlying t = some (.slice e)) (hs : ∀ w, (sizeOf e).run P w = .ok n w) {w0 : World} {v : Value} {rows : List (List Value)} {k : Nat} {r : List Value} (h : RowsAt w0 v n rows) (hk : rows[k]? = some r) :
    ∃ (b o : Nat) (l : List Value) (E : TypeId) (f : Nat × Nat), (∀ (w : World) (kd : IntKind) (z : Int), z = k -> (Instr.indexAt t v (.int kd z)).run P w = .ok (.pointer (some ⟨b, o, none⟩)) w) /\ w0.heap[b]? = some (.cells l.toArray E f) /\ o + n <= l.length /\ b < w0.heap.size /\ blockOf v = some b /\
      (∀ p, p = o -> sub l p n = r) /\ (∀ p j, p = o + j -> j < n -> l[p]? = r[j]?) := by
  obtain ⟨b, o, cap, l, E, f, rfl, hb, hfit, hsub, hget⟩ := h.row hk
  have hkl : k < rows.length := (List.getElem?_eq_some_iff.1 hk).1
  refine ⟨b, o + k * n, l, E, f, fun w kd z hz => ?_, hb, hfit, lt_of_at hb, rfl, hsub, fun p j hp hj => ?_⟩
  · subst hz
    rw [Fx.run_index_slice ht hs b o rows.length cap kd k w (by omega)]
    simp
  · rw [hget p (by omega) (by omega)]
    congr 1
    omega
theorem RowsAt.at' {w w' : World} {v : Value} {n : Nat} {rows : List (List Value)} {S : List Nat} (h : RowsAt w v n rows) (hx : Ext S w w') (hs : rows ≠ [] -> ∀ b, blockOf v = some b -> b ∉ S) : RowsAt w' v n rows := by
  obtain ⟨a, cap, rfl, hm, h⟩ := h
  refine ⟨a, cap, rfl, hm, ?_⟩
  rcases h with h | ⟨b, o, l, E, f, rfl, hb, h2, h3⟩
  · exact .inl h
  · by_cases h0 : rows = []
    · exact .inl h0
    · exact .inr ⟨b, o, l, E, f, rfl, hx.at hb (hs h0 b rfl), h2, h3⟩
theorem RowsAt.blt {w : World} {v : Value} {n : Nat} {rows : List (List Value)} (h : RowsAt w v n rows) (h0 : rows ≠ []) : ∀ b, blockOf v = some b -> b < w.heap.size := by
  intro b hb
  obtain ⟨b', h1, h2⟩ := h.lt h0
  rw [h1] at hb
  cases hb
  exact h2
theorem pN_nilE {P : Program} {a : Addr} {K : Value -> Prop} : pN P (nilN (.pointer (some a))) K = K (.pointer (some a)) := by
  apply propext
  constructor
  · rintro ⟨v, h, hk⟩
    have h1 := h default
    have h2 : (nilN (.pointer (some a))).run P default = .ok (.value (.pointer (some a))) default := rfl
    have h3 := h1.symm.trans h2
    cases h3
    exact hk
  · exact pN_nil
theorem pnR {P : Program} : ∀ (a : Addr) (K : Value -> Prop), pN P (nilN (.pointer (some a))) K = K (.pointer (some a)) := fun _ _ => pN_nilE
def madeL (zs : List Value) (n : Nat) : List Value := (List.range n).map fun x => zs.getD (x % zs.length) undef
theorem madeL_length (zs : List Value) (n : Nat) : (madeL zs n).length = n := by simp [madeL]
theorem madeL_get {zs : List Value} {n x : Nat} (h : x < n) : (madeL zs n)[x]? = some (zs.getD (x % zs.length) undef) := by simp [madeL, h]
theorem run_mk {P : Program} {t e : TypeId} {size bytes : Nat} {zs : List Value} (ht : P.underlying t = some (.slice e)) (hi : (P.info? e).map (fun i => (i.size, i.bytes, i.zero.map fun z => z.cells.toList)) = some (size, bytes, some zs)) (kl kc : IntKind) (n : Nat) (hz : zs ≠ []) (hs : n * size <= 16777216) (hb : bytes * n <= 140737488355328) (hn : n <= 1000000) (w : World) :
    (Instr.makeSlice t (.int kl n) (.int kc n)).run P w = .ok (.slice (some ⟨w.heap.size, 0, none⟩) n n) (w.alloc (.cells (madeL zs (n * size)).toArray e)) := by
  obtain ⟨i, h2, h3⟩ := Option.map_eq_some_iff.1 hi
  simp only [Prod.mk.injEq] at h3
  obtain ⟨h4, h5, h6⟩ := h3
  obtain ⟨z, h7, h8⟩ := Option.map_eq_some_iff.1 h6
  subst h4 h5 h8
  have := run_makeSlice (P := P) w t e i z ht h2 h7 kl kc n n (by omega) (Int.le_refl _) (by simpa using hs) (by have h := Int.ofNat_le.2 hb; rw [Int.natCast_mul] at h; exact Int.le_trans h (by decide)) (by omega)
  rw [this]
  have e1 : madeCells z.cells ((n : Int).toNat * i.size) = (madeL z.cells.toList (n * i.size)).toArray := by
    apply Array.ext'
    unfold madeL madeCells
    simp only [Int.toNat_natCast]
    simp only [Array.toList_map, Array.toList_range]
    apply List.map_congr_left
    intro x hx
    have hp : 0 < z.cells.size := by
      rcases Nat.eq_zero_or_pos z.cells.size with h | h
      · exact absurd (List.eq_nil_of_length_eq_zero (by simpa using h)) hz
      · exact h
    have hlt : x % z.cells.size < z.cells.size := Nat.mod_lt _ hp
    simp [hlt]
  rw [e1]
  simp
theorem run_arrayAt {P : Program} {t e : TypeId} {n : Nat} (ht : P.underlying t = some (.array n e)) (a : Option Addr) (len cap : Nat) (h : n <= len) (w : World) : (Instr.arrayAt t (.slice a len cap)).run P w = .ok (.pointer a) w := by
  simp [Instr.arrayAt, run_underlying ht, show ¬ len < n by omega]
end Go.Fx
namespace Go.Proofs.YtplfniijbeinmaaGreat
open Go.Fx
set_option maxRecDepth 100000
set_option maxHeartbeats 4000000
theorem RC_call_15 : type_of% (Fx.kN_callf Tryz.call15) := Fx.kN_callf Tryz.call15
theorem RC_al_28 : type_of% (Fx.run_alloc Tryz.zeroValue28) := Fx.run_alloc Tryz.zeroValue28
theorem RC_fld_24_1 : ∀ (b o : Nat) (w : World), (Instr.fieldAt 24 (.pointer (some ⟨b, o, none⟩)) 1).run Tryz.prog w = .ok (.pointer (some ⟨b, o + 1, none⟩)) w := Fx.run_fieldO 1 1 1 Tryz.underlying24 rfl Tryz.sizeOf22 (by decide)
theorem RC_ld_22 : type_of% (Fx.run_load1' Tryz.isAgg22) := Fx.run_load1' Tryz.isAgg22
theorem RC_call_42 : type_of% (Fx.kN_callf Tryz.call42) := Fx.kN_callf Tryz.call42
theorem RC_fld_24_2 : ∀ (b o : Nat) (w : World), (Instr.fieldAt 24 (.pointer (some ⟨b, o, none⟩)) 2).run Tryz.prog w = .ok (.pointer (some ⟨b, o + 2, none⟩)) w := Fx.run_fieldO 2 2 1 Tryz.underlying24 rfl Tryz.sizeOf22 (by decide)
theorem RC_call_19 : type_of% (Fx.kN_callf Tryz.call19) := Fx.kN_callf Tryz.call19
theorem RC_al_26 : type_of% (Fx.run_alloc Tryz.zeroValue26) := Fx.run_alloc Tryz.zeroValue26
theorem RC_st_26 : type_of% (Fx.run_storeN' Tryz.sizeOf26) := Fx.run_storeN' Tryz.sizeOf26
theorem RC_ld_26 : type_of% (Fx.run_loadN' Tryz.isAgg26 Tryz.sizeOf26) := Fx.run_loadN' Tryz.isAgg26 Tryz.sizeOf26
theorem RC_call_43 : type_of% (Fx.kN_callf Tryz.call43) := Fx.kN_callf Tryz.call43
theorem RC_bl_28_0_1_2 : ∀ (a0x0 : Int) (a0x1 : Int) (a1x0 : Int) (a2x0 : Int) (w : World), (Instr.build 28 [(0, .agg [.int .u64 a0x0, .int .u64 a0x1].toArray), (1, .int .u64 a1x0), (2, .int .u64 a2x0)].toArray).run Tryz.prog w = .ok (.agg [.int .u64 a0x0, .int .u64 a0x1, .int .u64 a1x0, .int .u64 a2x0].toArray) w := fun a0x0 a0x1 a1x0 a2x0 w => run_build w 28 _ _ (by kernel_rfl)
theorem RC_st_28 : type_of% (Fx.run_storeN' Tryz.sizeOf28) := Fx.run_storeN' Tryz.sizeOf28
theorem RC_ld_28 : type_of% (Fx.run_loadN' Tryz.isAgg28 Tryz.sizeOf28) := Fx.run_loadN' Tryz.isAgg28 Tryz.sizeOf28
theorem RC_ld_69 : type_of% (Fx.run_loadN' Tryz.isAgg69 Tryz.sizeOf69) := Fx.run_loadN' Tryz.isAgg69 Tryz.sizeOf69
theorem RC_call_50 : type_of% (Fx.kN_callf Tryz.call50) := Fx.kN_callf Tryz.call50
theorem RC_neq_69 : ∀ (a0 b0 : Int) (a1 b1 : Int) (a2 b2 : Int) (x y : Operand) (w : World), (binV .neq 69 x y (.agg [.int .u64 a0, .int .u64 a1, .int .u64 a2].toArray) (.agg [.int .u64 b0, .int .u64 b1, .int .u64 b2].toArray)).run Tryz.prog w = .ok (.bool (!((a0 == b0) && ((a1 == b1) && ((a2 == b2) && true))))) w := fun a0 b0 a1 b1 a2 b2 x y w => Fx.neq_agg (by kernel_rfl) _ _ _ x y w (Fx.equalIn_struct (d := 9999) (by kernel_rfl) (by kernel_rfl) (q := [(22, 0), (22, 1), (22, 2)]) (by kernel_rfl) (by kernel_rfl) (Fx.eqQ_cons (Fx.part1 Tryz.isAgg22 rfl) (Fx.part1 Tryz.isAgg22 rfl) (run_equalIn_int _ 9998 22 .u64 .u64 _ _ Tryz.underlying22) (Fx.eqQ_cons (Fx.part1 Tryz.isAgg22 rfl) (Fx.part1 Tryz.isAgg22 rfl) (run_equalIn_int _ 9998 22 .u64 .u64 _ _ Tryz.underlying22) (Fx.eqQ_cons (Fx.part1 Tryz.isAgg22 rfl) (Fx.part1 Tryz.isAgg22 rfl) (run_equalIn_int _ 9998 22 .u64 .u64 _ _ Tryz.underlying22) (Fx.eqQ_nil)))))
theorem RC_fld_69_2 : ∀ (b o : Nat) (w : World), (Instr.fieldAt 69 (.pointer (some ⟨b, o, none⟩)) 2).run Tryz.prog w = .ok (.pointer (some ⟨b, o + 2, none⟩)) w := Fx.run_fieldO 2 2 1 Tryz.underlying69 rfl Tryz.sizeOf22 (by decide)
theorem RC_bl_26_ : ∀  (w : World), (Instr.build 26 [].toArray).run Tryz.prog w = .ok (.agg [(.int .u64 0), (.int .u64 0)].toArray) w := fun w => run_build w 26 _ _ (by kernel_rfl)
theorem RC_call_49 : type_of% (Fx.kN_callf Tryz.call49) := Fx.kN_callf Tryz.call49
theorem RC_fld_69_1 : ∀ (b o : Nat) (w : World), (Instr.fieldAt 69 (.pointer (some ⟨b, o, none⟩)) 1).run Tryz.prog w = .ok (.pointer (some ⟨b, o + 1, none⟩)) w := Fx.run_fieldO 1 1 1 Tryz.underlying69 rfl Tryz.sizeOf22 (by decide)
theorem RC_fld_69_0 : ∀ (b o : Nat) (w : World), (Instr.fieldAt 69 (.pointer (some ⟨b, o, none⟩)) 0).run Tryz.prog w = .ok (.pointer (some ⟨b, o, none⟩)) w := Fx.run_fieldO 0 0 1 Tryz.underlying69 rfl Tryz.sizeOf22 (by decide)
theorem RC_bl_26_0_1 : ∀ (a0x0 : Int) (a1x0 : Int) (w : World), (Instr.build 26 [(0, .int .u64 a0x0), (1, .int .u64 a1x0)].toArray).run Tryz.prog w = .ok (.agg [.int .u64 a0x0, .int .u64 a1x0].toArray) w := fun a0x0 a1x0 w => run_build w 26 _ _ (by kernel_rfl)
theorem RC_call_41 : type_of% (Fx.kN_callf Tryz.call41) := Fx.kN_callf Tryz.call41
theorem RC_call_84 : type_of% (Fx.kN_callf Tryz.call84) := Fx.kN_callf Tryz.call84
theorem RC_call_81 : type_of% (Fx.kN_callf Tryz.call81) := Fx.kN_callf Tryz.call81
theorem RC_al_69 : type_of% (Fx.run_alloc Tryz.zeroValue69) := Fx.run_alloc Tryz.zeroValue69
theorem RC_al_173 : type_of% (Fx.run_alloc Tryz.zeroValue173) := Fx.run_alloc Tryz.zeroValue173
theorem RC_call_85 : type_of% (Fx.kN_callf Tryz.call85) := Fx.kN_callf Tryz.call85
theorem RC_iv_174 : type_of% (Fx.run_indexV Tryz.underlying174 Tryz.isAgg3 Tryz.sizeOf3) := Fx.run_indexV Tryz.underlying174 Tryz.isAgg3 Tryz.sizeOf3
theorem RC_ix_173 : type_of% (Fx.run_index_array Tryz.underlying173 Tryz.sizeOf22) := Fx.run_index_array Tryz.underlying173 Tryz.sizeOf22
theorem RC_st_22 : type_of% (Fx.run_store1' Tryz.sizeOf22) := Fx.run_store1' Tryz.sizeOf22
theorem RC_bl_69_0_1_2 : ∀ (a0x0 : Int) (a1x0 : Int) (a2x0 : Int) (w : World), (Instr.build 69 [(0, .int .u64 a0x0), (1, .int .u64 a1x0), (2, .int .u64 a2x0)].toArray).run Tryz.prog w = .ok (.agg [.int .u64 a0x0, .int .u64 a1x0, .int .u64 a2x0].toArray) w := fun a0x0 a1x0 a2x0 w => run_build w 69 _ _ (by kernel_rfl)
theorem RC_st_69 : type_of% (Fx.run_storeN' Tryz.sizeOf69) := Fx.run_storeN' Tryz.sizeOf69
theorem RC_cv_22_3 : type_of% (Fx.run_convert_int Tryz.underlying22 Tryz.underlying3) := Fx.run_convert_int Tryz.underlying22 Tryz.underlying3
theorem RC_bl_173 : ∀ (a0 : Int) (a1 : Int) (a2 : Int) (w : World), (Instr.build 173 [(0, .int .u64 a0), (1, .int .u64 a1), (2, .int .u64 a2)].toArray).run Tryz.prog w = .ok (.agg [.int .u64 a0, .int .u64 a1, .int .u64 a2].toArray) w := fun a0 a1 a2 w => run_build w 173 _ _ (by kernel_rfl)
theorem RC_st_173 : type_of% (Fx.run_storeN' Tryz.sizeOf173) := Fx.run_storeN' Tryz.sizeOf173
theorem RC_al_174 : type_of% (Fx.run_alloc Tryz.zeroValue174) := Fx.run_alloc Tryz.zeroValue174
theorem RC_bl_174 : ∀ (a0 : Int) (a1 : Int) (a2 : Int) (w : World), (Instr.build 174 [(0, .int .i64 a0), (1, .int .i64 a1), (2, .int .i64 a2)].toArray).run Tryz.prog w = .ok (.agg [.int .i64 a0, .int .i64 a1, .int .i64 a2].toArray) w := fun a0 a1 a2 w => run_build w 174 _ _ (by kernel_rfl)
theorem RC_st_174 : type_of% (Fx.run_storeN' Tryz.sizeOf174) := Fx.run_storeN' Tryz.sizeOf174
theorem RC_ld_174 : type_of% (Fx.run_loadN' Tryz.isAgg174 Tryz.sizeOf174) := Fx.run_loadN' Tryz.isAgg174 Tryz.sizeOf174
theorem rulesC : type_of% (And.intro @RC_call_15 (And.intro @RC_al_28 (And.intro @RC_fld_24_1 (And.intro @RC_ld_22 (And.intro @RC_call_42 (And.intro @RC_fld_24_2 (And.intro @RC_call_19 (And.intro @RC_al_26 (And.intro @RC_st_26 (And.intro @RC_ld_26 (And.intro @RC_call_43 (And.intro @RC_bl_28_0_1_2 (And.intro @RC_st_28 (And.intro @RC_ld_28 (And.intro @RC_ld_69 (And.intro @RC_call_50 (And.intro @RC_neq_69 (And.intro @RC_fld_69_2 (And.intro @RC_bl_26_ (And.intro @RC_call_49 (And.intro @RC_fld_69_1 (And.intro @RC_fld_69_0 (And.intro @RC_bl_26_0_1 (And.intro @RC_call_41 (And.intro @RC_call_84 (And.intro @RC_call_81 (And.intro @RC_al_69 (And.intro @RC_al_173 (And.intro @RC_call_85 (And.intro @RC_iv_174 (And.intro @RC_ix_173 (And.intro @RC_st_22 (And.intro @RC_bl_69_0_1_2 (And.intro @RC_st_69 (And.intro @RC_cv_22_3 (And.intro @RC_bl_173 (And.intro @RC_st_173 (And.intro @RC_al_174 (And.intro @RC_bl_174 (And.intro @RC_st_174 (@RC_ld_174))))))))))))))))))))))))))))))))))))))))) := ⟨@RC_call_15, @RC_al_28, @RC_fld_24_1, @RC_ld_22, @RC_call_42, @RC_fld_24_2, @RC_call_19, @RC_al_26, @RC_st_26, @RC_ld_26, @RC_call_43, @RC_bl_28_0_1_2, @RC_st_28, @RC_ld_28, @RC_ld_69, @RC_call_50, @RC_neq_69, @RC_fld_69_2, @RC_bl_26_, @RC_call_49, @RC_fld_69_1, @RC_fld_69_0, @RC_bl_26_0_1, @RC_call_41, @RC_call_84, @RC_call_81, @RC_al_69, @RC_al_173, @RC_call_85, @RC_iv_174, @RC_ix_173, @RC_st_22, @RC_bl_69_0_1_2, @RC_st_69, @RC_cv_22_3, @RC_bl_173, @RC_st_173, @RC_al_174, @RC_bl_174, @RC_st_174, @RC_ld_174⟩
end Go.Proofs.YtplfniijbeinmaaGreat
namespace Go.Fx
theorem wrap_small {k : IntKind} {n : Int} (h0 : 0 <= n) (h : n < 2 ^ (k.bits - 1)) : k.wrap n = n := by
  cases k <;> simp [IntKind.bits, IntKind.wrap, IntKind.signed] at h ⊢ <;> first | omega | (split <;> omega)
theorem and_mask {k : IntKind} {a : Int} {n : Nat} (hn : n < k.bits) : bitI .and k a ((2 ^ n - 1 : Nat) : Int) = a % ((2 ^ n : Nat) : Int) := by
  have hlt : 2 ^ n < 2 ^ k.bits := Nat.pow_lt_pow_right (by omega) hn
  have hpos : 0 < 2 ^ n := Nat.two_pow_pos n
  have h1 : (BitVec.ofInt k.bits a &&& BitVec.ofInt k.bits ((2 ^ n - 1 : Nat) : Int)).toNat = (a % ((2 ^ n : Nat) : Int)).toNat := by
    rw [BitVec.toNat_and, BitVec.toNat_ofInt, BitVec.toNat_ofInt]
    have e2 : (((2 ^ n - 1 : Nat) : Int) % ((2 ^ k.bits : Nat) : Int)).toNat = 2 ^ n - 1 := by
      rw [Int.emod_eq_of_lt (by omega) (by omega)]
      omega
    rw [e2, Nat.and_two_pow_sub_one_eq_mod]
    have hd : ((2 ^ n : Nat) : Int) ∣ ((2 ^ k.bits : Nat) : Int) := by
      rw [Int.natCast_dvd_natCast]
      exact Nat.pow_dvd_pow 2 (by omega)
    have e3 : a % ((2 ^ n : Nat) : Int) = (a % ((2 ^ k.bits : Nat) : Int)) % ((2 ^ n : Nat) : Int) := (Int.emod_emod_of_dvd a hd).symm
    rw [e3]
    have h0 : 0 <= a % ((2 ^ k.bits : Nat) : Int) := Int.emod_nonneg _ (by have := Nat.two_pow_pos k.bits; omega)
    obtain ⟨m, hm⟩ := Int.eq_ofNat_of_zero_le h0
    rw [hm, Int.toNat_natCast, <- Int.natCast_emod, Int.toNat_natCast]
  unfold bitI
  simp only
  rw [h1]
  have h2 : 0 <= a % ((2 ^ n : Nat) : Int) := Int.emod_nonneg _ (by omega)
  have h3 : a % ((2 ^ n : Nat) : Int) < ((2 ^ n : Nat) : Int) := Int.emod_lt_of_pos _ (by omega)
  have h4 : 2 ^ n <= 2 ^ (k.bits - 1) := Nat.pow_le_pow_right (by omega) (by omega)
  rw [Int.toNat_of_nonneg h2]
  refine wrap_small h2 ?_
  have : ((2 ^ (k.bits - 1) : Nat) : Int) = (2 : Int) ^ (k.bits - 1) := by simp
  omega
theorem ofInt_toNat {a : Int} (h0 : 0 <= a) (h : a < 18446744073709551616) : (BitVec.ofInt 64 a).toNat = a.toNat := by
  rw [BitVec.toNat_ofInt]
  have : a % ((2 ^ 64 : Nat) : Int) = a := Int.emod_eq_of_lt h0 (by simpa using h)
  rw [this]
theorem wrap64 (x : BitVec 64) : IntKind.u64.wrap (x.toNat : Int) = (x.toNat : Int) := by
  have := x.isLt
  simp only [IntKind.wrap, IntKind.signed, IntKind.bits]
  simp
  omega
theorem or_u64 {a b : Int} (ha : 0 <= a /\ a < 18446744073709551616) (hb : 0 <= b /\ b < 18446744073709551616) : bitI .or .u64 a b = ((a.toNat ||| b.toNat : Nat) : Int) := by
  have h : bitI .or .u64 a b = IntKind.u64.wrap (((BitVec.ofInt 64 a ||| BitVec.ofInt 64 b : BitVec 64).toNat : Nat) : Int) := rfl
  rw [h, wrap64, BitVec.toNat_or, ofInt_toNat ha.1 ha.2, ofInt_toNat hb.1 hb.2]
theorem and_u64 {a b : Int} (ha : 0 <= a /\ a < 18446744073709551616) (hb : 0 <= b /\ b < 18446744073709551616) : bitI .and .u64 a b = ((a.toNat &&& b.toNat : Nat) : Int) := by
  have h : bitI .and .u64 a b = IntKind.u64.wrap (((BitVec.ofInt 64 a &&& BitVec.ofInt 64 b : BitVec 64).toNat : Nat) : Int) := rfl
  rw [h, wrap64, BitVec.toNat_and, ofInt_toNat ha.1 ha.2, ofInt_toNat hb.1 hb.2]
theorem andNot_u64 {a b : Int} (hb : 0 <= b /\ b < 18446744073709551616) (ha : 0 <= a /\ a < 18446744073709551616) : ∃ r : Nat, bitI .andNot .u64 a b = (r : Int) /\ r < 18446744073709551616 /\ ∀ i, i < 64 -> r.testBit i = (a.toNat.testBit i && !b.toNat.testBit i) := by
  have h : bitI .andNot .u64 a b = IntKind.u64.wrap (((BitVec.ofInt 64 a &&& ~~~ BitVec.ofInt 64 b : BitVec 64).toNat : Nat) : Int) := rfl
  refine ⟨_, by rw [h, wrap64], (BitVec.ofInt 64 a &&& ~~~ BitVec.ofInt 64 b : BitVec 64).isLt, fun i hi => ?_⟩
  rw [BitVec.testBit_toNat, BitVec.getLsbD_and, BitVec.getLsbD_not, <- BitVec.testBit_toNat, <- BitVec.testBit_toNat, ofInt_toNat ha.1 ha.2, ofInt_toNat hb.1 hb.2]
  simp [hi]
theorem or_lt {a b : Nat} (ha : a < 18446744073709551616) (hb : b < 18446744073709551616) : a ||| b < 18446744073709551616 := Nat.or_lt_two_pow (n := 64) ha hb
theorem run_min {P : Program} {ts : Array TypeId} {t : TypeId} {k : IntKind} {a b : Int} {w : World} : (Builtin.min_ ts t #[.int k a, .int k b]).run P w = .ok (.int k (min a b)) w := by
  simp [Builtin.min_, Builtin.min2]
  split <;> omega
theorem run_max {P : Program} {ts : Array TypeId} {t : TypeId} {k : IntKind} {a b : Int} {w : World} : (Builtin.max_ ts t #[.int k a, .int k b]).run P w = .ok (.int k (max a b)) w := by
  simp [Builtin.max_, Builtin.max2]
  split <;> omega
theorem mnR {P : Program} : (∀ (ts : Array TypeId) (t : TypeId) (k : IntKind) (a b : Int) (w : World), (Builtin.min_ ts t #[.int k a, .int k b]).run P w = .ok (.int k (min a b)) w) /\ (∀ (ts : Array TypeId) (t : TypeId) (k : IntKind) (a b : Int) (w : World), (Builtin.max_ ts t #[.int k a, .int k b]).run P w = .ok (.int k (max a b)) w) :=
  ⟨fun _ _ _ _ _ _ => run_min, fun _ _ _ _ _ _ => run_max⟩
end Go.Fx
namespace Go.Proofs.YtplfniijbeinmaaGreat
open Go.Fx
theorem qG0 : type_of% (And.intro @gen0 (And.intro (@gen1 Tryz.prog) (And.intro @gen2 (And.intro @rulesC (And.intro @litR (And.intro @bolR (And.intro (@numR Tryz.prog) (And.intro (@memR Tryz.prog) (And.intro @valR (And.intro @heapR (And.intro @updR (And.intro @intR (And.intro @decR (And.intro (@extR Tryz.prog) (And.intro (@slR Tryz.prog) (And.intro @segR (And.intro @thenR ((@pnR Tryz.prog))))))))))))))))))) := ⟨@gen0, (@gen1 Tryz.prog), @gen2, @rulesC, @litR, @bolR, (@numR Tryz.prog), (@memR Tryz.prog), @valR, @heapR, @updR, @intR, @decR, (@extR Tryz.prog), (@slR Tryz.prog), @segR, @thenR, (@pnR Tryz.prog)⟩
theorem qX {S : List Nat} {w w' : World} (h : Ext S w w' := by (repeat first | assumption | exact Ext.refl | apply Ext.alloc | apply Ext.drew | (refine Ext.updN ?_ ?_; (focus first | omega | (simp only [szR] <;> omega))) | (refine Ext.updI ?_ ?_; (focus (simp; done))))) : Ext S w w' := h
set_option maxRecDepth 100000
theorem kept0 {w w' : World} (h : Ext [] w w') : ∀ k, k < w.heap.size -> w'.heap[k]? = w.heap[k]? := fun k hk => h.kept k hk (by simp)
theorem pow64 {i : Nat} (h : i < 64) : (2 : Nat) ^ i < 18446744073709551616 := Nat.pow_lt_pow_right (a := 2) (by omega) h
theorem shl_one {i : Int} (h : 0 <= i /\ i < 64) : IntKind.u64.wrap (1 * 2 ^ i.toNat) = ((2 ^ i.toNat : Nat) : Int) := by
 have := pow64 (i := i.toNat) (by omega)
 have e2 : (1 : Int) * 2 ^ i.toNat = ((2 ^ i.toNat : Nat) : Int) := by simp
 rw [e2]
 generalize 2 ^ i.toNat = p at this
 exact wrap_u64 ⟨by omega, by omega⟩
theorem fdivP {v : Nat} (k : Nat) : (v : Int).fdiv (2 ^ k) = ((v / 2 ^ k : Nat) : Int) := by
 rw [Int.fdiv_eq_ediv_of_nonneg _ (Int.le_of_lt (Int.pow_pos (by omega)))]
 simp
theorem mulP {v : Nat} (k : Nat) (h : v * 2 ^ k < 18446744073709551616) : IntKind.u64.wrap ((v : Int) * 2 ^ k) = ((v * 2 ^ k : Nat) : Int) := by
 have e : (v : Int) * 2 ^ k = ((v * 2 ^ k : Nat) : Int) := by simp
 rw [e]
 generalize v * 2 ^ k = p at h
 exact wrap_u64 ⟨by omega, by omega⟩
theorem qDR {p : Prop} (h : p := by first | assumption | omega | (simp only [szR] <;> omega) | rfl | decide) : p := h
theorem fmay_spec {w : World} {a b : Int} (h : 0 <= b /\ b <= 64 /\ 0 <= a /\ a <= 64 - b) {K : Value -> World -> Prop} (hK : K (.bool true) w) : callsK Tryz.prog 84 #[.int .i64 a, .int .i64 b] w K := by
 apply F84_ok
 unfold F84
 simp (disch := first | exact qDR | fail) only [qG0, joinBR]
 exact hK
theorem fMask_spec {w : World} {k : Int} (h : 0 < k /\ k < 64) {K : Value -> World -> Prop} (hK : K (.int .u64 ((2 ^ k.toNat - 1 : Nat) : Int)) w) : callsK Tryz.prog 81 #[.int .i64 k] w K := by
 have hs := shl_one (i := k) ⟨by omega, by omega⟩
 have hpl := pow64 (i := k.toNat) (by omega)
 have hp := Nat.two_pow_pos k.toNat
 apply F81_ok
 unfold F81
 generalize 2 ^ k.toNat = p at hpl hp hK hs
 have e : (p : Int) - 1 = ((p - 1 : Nat) : Int) := by omega
 simp (disch := first | exact qDR | fail) only [qG0, hs, e]
 exact hK
theorem fGet_spec {w : World} {x : Nat} {a k : Int} (ha : 0 <= a) (hk : 0 < k /\ k < 64) (hak : a + k <= 64) (hx : x < 18446744073709551616) {K : Value -> World -> Prop}
  (hK : ∀ w', Ext [] w w' -> K (.int .u64 ((x / 2 ^ a.toNat % 2 ^ k.toNat : Nat) : Int)) w') : callsK Tryz.prog 43 #[.int .u64 x, .int .i64 a, .int .i64 k] w K := by
 have hfd := fdivP (v := x) a.toNat
 have hq : x / 2 ^ a.toNat < 18446744073709551616 := Nat.lt_of_le_of_lt (Nat.div_le_self _ _) hx
 have hmod := Nat.and_two_pow_sub_one_eq_mod (x / 2 ^ a.toNat) k.toNat
 have hpl := pow64 (i := k.toNat) (by omega)
 have hp := Nat.two_pow_pos k.toNat
 apply F43_ok
 unfold F43
 simp (disch := first | exact qDR | fail) only [qG0]
 refine fmay_spec (by omega) ?_
 generalize x / 2 ^ a.toNat = q at hfd hq hmod hK
 simp (disch := first | exact qDR | fail) only [qG0, hfd]
 refine fMask_spec hk ?_
 generalize 2 ^ k.toNat = p at hmod hpl hp hK
 have hand := and_u64 (a := (q : Int)) (b := ((p - 1 : Nat) : Int)) (by omega) (by omega)
 simp only [Int.toNat_natCast, hmod] at hand
 simp (disch := first | exact qDR | fail) only [qG0, hand]
 exact hK _ qX
theorem fPut_spec {w : World} {x v : Nat} {a k : Int} (ha : 0 <= a) (hk : 0 < k /\ k < 64) (hak : a + k <= 64) (hx : x < 2 ^ a.toNat) (hv : v < 18446744073709551616) {K : Value -> World -> Prop}
  (hK : ∀ w', Ext [] w w' -> K (.int .u64 ((x + v % 2 ^ k.toNat * 2 ^ a.toNat : Nat) : Int)) w') : callsK Tryz.prog 41 #[.int .u64 x, .int .i64 a, .int .i64 k, .int .u64 v] w K := by
 have hmod := Nat.and_two_pow_sub_one_eq_mod v k.toNat
 have hpl := pow64 (i := k.toNat) (by omega)
 have hpa := pow64 (i := a.toNat) (by omega)
 have hp := Nat.two_pow_pos k.toNat
 have hpp : 2 ^ k.toNat * 2 ^ a.toNat <= 18446744073709551616 := by
  rw [<- Nat.pow_add]
  exact Nat.pow_le_pow_right (n := 2) (by omega) (show k.toNat + a.toNat <= 64 by omega)
 have hor := Nat.two_pow_add_eq_or_of_lt hx (v % 2 ^ k.toNat)
 have hm : (2 ^ k.toNat - 1) * 2 ^ a.toNat < 18446744073709551616 := by
  refine Nat.lt_of_lt_of_le ?_ hpp
  exact Nat.mul_lt_mul_of_pos_right (by omega) (Nat.two_pow_pos _)
 have hmv : v % 2 ^ k.toNat * 2 ^ a.toNat < 18446744073709551616 := by
  refine Nat.lt_of_lt_of_le ?_ hpp
  exact Nat.mul_lt_mul_of_pos_right (Nat.mod_lt _ hp) (Nat.two_pow_pos _)
 have hs1 := mulP (v := 2 ^ k.toNat - 1) a.toNat hm
 have hs2 := mulP (v := v % 2 ^ k.toNat) a.toNat hmv
 have hx64 : x < 18446744073709551616 := by omega
 obtain ⟨r, hr, hr64, hrb⟩ := andNot_u64 (a := (x : Int)) (b := (((2 ^ k.toNat - 1) * 2 ^ a.toNat : Nat) : Int)) (by omega) (by omega)
 have hrx : r = x := by
  apply Nat.eq_of_testBit_eq
  intro i
  by_cases hi : i < 64
  ·rw [hrb i hi, Int.toNat_natCast, Int.toNat_natCast]
   by_cases hia : i < a.toNat
   ·rw [Nat.mul_comm, Nat.testBit_two_pow_mul]
    simp
    omega
   ·have : x.testBit i = false := Nat.testBit_lt_two_pow (Nat.lt_of_lt_of_le hx (Nat.pow_le_pow_right (by omega) (by omega)))
    rw [this]
    simp
  ·have p : 2 ^ 64 <= 2 ^ i := Nat.pow_le_pow_right (by omega) (by omega)
   rw [Nat.testBit_lt_two_pow (by omega), Nat.testBit_lt_two_pow (by omega)]
 rw [hrx] at hr
 have hand := and_u64 (a := (v : Int)) (b := ((2 ^ k.toNat - 1 : Nat) : Int)) (by omega) (by omega)
 simp only [Int.toNat_natCast, hmod] at hand
 have horu := or_u64 (a := (x : Int)) (b := ((v % 2 ^ k.toNat * 2 ^ a.toNat : Nat) : Int)) (by omega) (by omega)
 simp only [Int.toNat_natCast] at horu
 have e : x ||| v % 2 ^ k.toNat * 2 ^ a.toNat = x + v % 2 ^ k.toNat * 2 ^ a.toNat := by
  rw [Nat.or_comm, Nat.mul_comm, <- hor, Nat.add_comm]
 rw [e] at horu
 apply F41_ok
 unfold F41
 simp (disch := first | exact qDR | fail) only [qG0]
 refine fmay_spec (by omega) ?_
 simp (disch := first | exact qDR | fail) only [qG0]
 refine fMask_spec hk ?_
 generalize 2 ^ k.toNat - 1 = mk at hs1 hr hand hm
 generalize v % 2 ^ k.toNat = vk at hs2 hand horu hmv hK
 generalize mk * 2 ^ a.toNat = q1 at hs1 hr hm
 generalize vk * 2 ^ a.toNat = q2 at hs2 horu hmv hK
 simp (disch := first | exact qDR | fail) only [qG0, hs1, hr, hand, hs2, horu]
 exact hK _ qX
open Go.Fx
set_option maxRecDepth 100000
/-- a span's end or none. -/
def spn (B T E a : Nat) : Option (Nat × Nat) :=
 if 37 < E ∨ 281474976710656 <= a then none
 else if a / 2 ^ (E - 1) + 4096 < (a / 2 ^ (E - 1) + 16384 - B + 4096) % 16384 then none
 else if 281474976710656 / 2 ^ (E - 1) < a / 2 ^ (E - 1) + 4096 - (a / 2 ^ (E - 1) + 16384 - B + 4096) % 16384 + ((T + 16384 - B) % 4096 + if 0 < E then 4096 else 0) then none
 else some ((a / 2 ^ (E - 1) + 4096 - (a / 2 ^ (E - 1) + 16384 - B + 4096) % 16384) * 2 ^ (E - 1), (a / 2 ^ (E - 1) + 4096 - (a / 2 ^ (E - 1) + 16384 - B + 4096) % 16384 + ((T + 16384 - B) % 4096 + if 0 < E then 4096 else 0)) * 2 ^ (E - 1))
def spB (o : Option (Nat × Nat)) : Nat := (o.getD (0, 0)).1
def spT (o : Option (Nat × Nat)) : Nat := (o.getD (0, 0)).2
def spC (o : Option (Nat × Nat)) : List Value := [.int .u64 (spB o : Nat), .int .u64 (spT o : Nat)]
def fdsC (B T E : Nat) : List Value := [.int .u64 B, .int .u64 T, .int .u64 E]
theorem shift_spec {w : World} {e : Nat} (he : e < 64) {K : Value -> World -> Prop} (hK : K (.int .i64 ((e - 1 : Nat) : Int)) w) : callsK Tryz.prog 49 #[.int .u64 e] w K := by
 have hm : max (e : Int) 1 - 1 = ((e - 1 : Nat) : Int) := by omega
 have hm2 : 1 <= max (e : Int) 1 /\ max (e : Int) 1 <= 64 := by omega
 apply F49_ok
 unfold F49
 obtain ⟨x, hx⟩ : ∃ x, x = max (e : Int) 1 := ⟨_, rfl⟩
 rw [<- hx] at hm hm2
 simp (disch := first | assumption | omega | (simp only [szR, fdsC_len, fdsC_all, wdsC_len, wdsC_all] <;> omega) | rfl | decide) only [qG0, Nat.reduceAdd, Nat.reduceLeDiff, Int.reduceToNat, Int.reduceAdd, Int.reduceSub, Int.reduceLT, Int.reduceLE, Nat.reduceSub, Nat.reduceMul, Nat.reduceEqDiff, mnR, <- hx, hm]
 exact hK
def wdsC : List Value := [.int .i64 14, .int .i64 12, .int .i64 6]
theorem widths_spec {w : World} {K : Value -> World -> Prop} (hK : ∀ w', Ext [] w w' -> K (.agg wdsC.toArray) w') : callsK Tryz.prog 85 #[] w K := by
 apply F85_ok
 unfold F85
 simp (disch := first | assumption | omega | (simp only [szR, fdsC_len, fdsC_all, wdsC_len, wdsC_all] <;> omega) | rfl | decide) only [qG0, Nat.reduceAdd, Nat.reduceLeDiff, Int.reduceToNat, Int.reduceAdd, Int.reduceSub, Int.reduceLT, Int.reduceLE, Nat.reduceSub, Nat.reduceMul, Nat.reduceEqDiff]
 exact hK _ qX
theorem three {p : Nat -> Prop} (h : p 0 /\ p 1 /\ p 2) {k : Nat} (hk : k < 3) : p k := by
 rcases (by omega : k = 0 ∨ k = 1 ∨ k = 2) with rfl | rfl | rfl
 all_goals simp [h]
def wAt (k : Nat) : Nat := if k = 0 then 14 else if k = 1 then 12 else 6
def aAt (k : Nat) : Nat := if k = 0 then 0 else if k = 1 then 14 else if k = 2 then 26 else 32
def fAt (B T E k : Nat) : Nat := if k = 0 then B else if k = 1 then T else E
theorem wds_get {k : Nat} (h : k < 3) : wdsC[k]? = some (.int .i64 (wAt k)) := three (p := fun k => wdsC[k]? = some (.int .i64 (wAt k))) ⟨rfl, rfl, rfl⟩ h
theorem fds_get {B T E k : Nat} (h : k < 3) : (fdsC B T E)[k]? = some (.int .u64 (fAt B T E k)) := three (p := fun k => (fdsC B T E)[k]? = some (.int .u64 (fAt B T E k))) ⟨rfl, rfl, rfl⟩ h
theorem aAt_succ {k : Nat} (h : k < 3) : (aAt k : Int) + (wAt k : Int) = (aAt (k + 1) : Int) := three (p := fun k => (aAt k : Int) + (wAt k : Int) = (aAt (k + 1) : Int)) ⟨rfl, rfl, rfl⟩ h
theorem aw_le {k : Nat} (h : k < 3) : 0 < wAt k /\ wAt k < 64 /\ aAt k + wAt k <= 32 := three (p := fun k => 0 < wAt k /\ wAt k < 64 /\ aAt k + wAt k <= 32) ⟨by decide, by decide, by decide⟩ h
theorem wdsC_len : wdsC.length = 3 := by simp [wdsC]
theorem wdsC_all : wdsC.all (fun v => v.oneCell') = true := by simp [wdsC]; exact ⟨rfl, rfl, rfl⟩
theorem fdsC_len (B T E : Nat) : (fdsC B T E).length = 3 := by simp [fdsC]
theorem fdsC_all (B T E : Nat) : (fdsC B T E).all (fun v => v.oneCell') = true := by simp [fdsC]; exact ⟨rfl, rfl, rfl⟩
theorem fdsC_sub (B T E : Nat) : sub (fdsC B T E) 0 3 = fdsC B T E := rfl
/-- the number of the first fields. -/
def wordF (B T E : Nat) : Nat -> Nat
 | 0 => 0
 | k + 1 => wordF B T E k + fAt B T E k % 2 ^ wAt k * 2 ^ aAt k
theorem wordF_lt (B T E : Nat) {k : Nat} (hk : k <= 3) : wordF B T E k < 2 ^ aAt k := by
 have h0 : B % 16384 < 16384 := Nat.mod_lt _ (by decide)
 have h1 : T % 4096 < 4096 := Nat.mod_lt _ (by decide)
 have h2 : E % 64 < 64 := Nat.mod_lt _ (by decide)
 rcases (by omega : k = 0 ∨ k = 1 ∨ k = 2 ∨ k = 3) with rfl | rfl | rfl | rfl
 ·show 0 < 2 ^ 0
  decide
 ·show 0 + B % 2 ^ 14 * 2 ^ 0 < 2 ^ 14
  simp
  omega
 ·show 0 + B % 2 ^ 14 * 2 ^ 0 + T % 2 ^ 12 * 2 ^ 14 < 2 ^ 26
  simp
  omega
 ·show 0 + B % 2 ^ 14 * 2 ^ 0 + T % 2 ^ 12 * 2 ^ 14 + E % 2 ^ 6 * 2 ^ 26 < 2 ^ 32
  simp
  omega
theorem qZ0 : type_of% (And.intro @szR (And.intro @fdsC_len (And.intro @fdsC_all (And.intro @wdsC_len (@wdsC_all))))) := ⟨@szR, @fdsC_len, @fdsC_all, @wdsC_len, @wdsC_all⟩
theorem qD0 {p : Prop} (h : p := by first | assumption | omega | (simp only [qZ0] <;> omega) | rfl | decide) : p := h
theorem BWord_spec {w : World} {B T E : Nat} (hB : B < 18446744073709551616) (hT : T < 18446744073709551616) (hE : E < 18446744073709551616) {K : Value -> World -> Prop} (hK : ∀ w', Ext [] w w' -> K (.int .u64 (wordF B T E 3 : Nat)) w') : callsK Tryz.prog 50 #[.agg (fdsC B T E).toArray] w K := by
 apply F50_ok
 unfold F50
 have hf : fdsC B T E = [.int .u64 B, .int .u64 T, .int .u64 E] := rfl
 rw [hf]
 simp (disch := first | exact qD0 | fail) only [qG0, Nat.reduceAdd]
 refine widths_spec fun w1 hx1 => ?_
 have hk1 := kept0 hx1
 have c5 : w1.heap[w.heap.size + 1]? = some (.cells (fdsC B T E).toArray 173 (0, 0)) := by
  rw [hf]
  exact (by first | with_reducible rfl | assumption | (simp (disch := first | exact qD0 | fail) only [qG0, hk1] <;> rfl))
 have hx1w : Ext [] w w1 := Ext.trans (S := []) qX hx1 (by simp)
 refine loopT.intro (fun st w' => ∃ (k : Nat), k <= 3 /\ st = [.int .u64 (wordF B T E k : Nat), .int .i64 (aAt k : Nat), .int .i64 k] /\ Ext [] w1 w')
  (fun st _ => match st with
   | [_, _, .int _ z] => 3 - z.toNat
   | _ => 0) ⟨0, by omega, rfl, Ext.refl⟩ ?_
 rintro st w' ⟨k, hk, rfl, hx⟩ _
 have c5' := hx.at c5 (by simp)
 by_cases h3 : k < 3
 ·obtain ⟨a1, a2, a3⟩ := aw_le h3
  have hwl := wds_get h3
  have hfl := fds_get (B := B) (T := T) (E := E) h3
  have has := aAt_succ h3
  have hlt := wordF_lt B T E (k := k) (by omega)
  have hfa : fAt B T E k < 18446744073709551616 := by unfold fAt; split; exact hB; split; exact hT; exact hE
  have hs : wordF B T E (k + 1) = wordF B T E k + fAt B T E k % 2 ^ wAt k * 2 ^ aAt k := rfl
  simp (disch := first | exact qD0 | fail) only [qG0, c5', hwl, hfl, wdsC_len, fdsC_len]
  refine fPut_spec (by omega) (by omega) (by omega) (by rw [Int.toNat_natCast]; exact hlt) hfa fun w2 hx2 => ?_
  rw [Int.toNat_natCast, Int.toNat_natCast, <- hs]
  simp (disch := first | exact qD0 | fail) only [qG0, has]
  exact ⟨⟨k + 1, by omega, rfl, hx.trans (Ext.trans (S := []) qX hx2 (by simp)) (by simp)⟩, by simp; omega⟩
 ·obtain rfl : k = 3 := by omega
  simp (disch := first | exact qD0 | fail) only [qG0, Int.reduceLT]
  exact hK _ (hx1w.trans hx (by simp))
theorem BOf_spec {w : World} {x : Nat} (hx : x < 18446744073709551616) {K : Value -> World -> Prop} (hK : ∀ w', Ext [] w w' -> K (.agg (fdsC (x % 16384) (x / 16384 % 4096) (x / 67108864 % 64)).toArray) w') : callsK Tryz.prog 42 #[.int .u64 x] w K := by
 apply F42_ok
 unfold F42
 simp (disch := first | exact qD0 | fail) only [qG0]
 refine widths_spec fun w1 hx1 => ?_
 have hk1 := kept0 hx1
 have hx1w : Ext [] w w1 := Ext.trans (S := []) qX hx1 (by simp)
 have hs1 := hx1.size
 simp only [szR] at hs1
 have c2 : w1.heap[w.heap.size]? = some (.cells (fdsC 0 0 0).toArray 69 (0, 0)) := (by first | with_reducible rfl | assumption | (simp (disch := first | exact qD0 | fail) only [qG0, hk1] <;> rfl))
 have c3 : w1.heap[w.heap.size + 1]? = some (.cells (fdsC 0 0 0).toArray 173 (0, 0)) := (by first | with_reducible rfl | assumption | (simp (disch := first | exact qD0 | fail) only [qG0, hk1] <;> rfl))
 refine loopT.intro (fun st w' => ∃ (k : Nat), k <= 3 /\ st = [.int .i64 (aAt k : Nat), .int .i64 k] /\ w'.heap[w.heap.size]? = some (.cells (fdsC 0 0 0).toArray 69 (0, 0)) /\ w'.heap[w.heap.size + 1]? = some (.cells (fdsC (if 0 < k then x % 16384 else 0) (if 1 < k then x / 16384 % 4096 else 0) (if 2 < k then x / 67108864 % 64 else 0)).toArray 173 (0, 0)) /\ Ext [] w w')
  (fun st _ => match st with
   | [_, .int _ z] => 3 - z.toNat
   | _ => 0) ⟨0, by omega, rfl, c2, c3, hx1w⟩ ?_
 rintro st w' ⟨k, hk, rfl, d2, d3, hxw⟩ _
 have l2 := lt_of_at d2
 have l3 := lt_of_at d3
 by_cases h3 : k < 3
 ·obtain ⟨a1, a2, a3⟩ := aw_le h3
  have hwl := wds_get h3
  have has := aAt_succ h3
  simp (disch := first | exact qD0 | fail) only [qG0, hwl, wdsC_len]
  refine fGet_spec (by omega) (by omega) (by omega) hx fun w2 hx2 => ?_
  have d2 := hx2.at d2 (by simp)
  have d3 := hx2.at d3 (by simp)
  have hset : (fdsC (if 0 < k then x % 16384 else 0) (if 1 < k then x / 16384 % 4096 else 0) (if 2 < k then x / 67108864 % 64 else 0)).set k (.int .u64 ((x / 2 ^ aAt k % 2 ^ wAt k : Nat) : Int)) = fdsC (if 0 < k + 1 then x % 16384 else 0) (if 1 < k + 1 then x / 16384 % 4096 else 0) (if 2 < k + 1 then x / 67108864 % 64 else 0) := by
   rcases (by omega : k = 0 ∨ k = 1 ∨ k = 2) with rfl | rfl | rfl
   ·simp [fdsC, aAt, wAt]
   ·simp [fdsC, aAt, wAt]
   ·simp [fdsC, aAt, wAt]
  have hxw2 := hxw.trans hx2 (by simp)
  simp (disch := first | exact qD0 | fail) only [qG0, d3, fdsC_len, has, hset]
  exact ⟨⟨k + 1, by omega, rfl, by first | exact d2 | exact (upd_ne (by omega)).trans d2, by first | rfl | exact upd_at d3, Ext.updN (by omega) hxw2⟩, by simp; omega⟩
 ·obtain rfl : k = 3 := by omega
  simp only [fdsC] at d2 d3
  simp (disch := first | exact qD0 | fail) only [qG0, Nat.reduceAdd, Int.reduceToNat, Int.reduceLT, d2, d3]
  exact hK _ qX
open Go.Fx
set_option maxRecDepth 100000
theorem pN_pickE {P : Program} {c : Bool} {a b : Value} {K : Value -> Prop} : pN P (pickN (.bool c) a b) K = K (if c then a else b) := by
 apply propext
 constructor
 ·rintro ⟨v, h, hk⟩
  have h1 := h default
  have h2 : (pickN (.bool c) a b).run P default = .ok (.value (if c then a else b)) default := by cases c <;> rfl
  have h3 := h1.symm.trans h2
  have h4 : v = if c then a else b := by
   injection h3 with h4
   injection h4
  exact h4 ▸ hk
 ·exact pN_pick
theorem gdPR : (∀ (A : (Value -> Prop) -> Prop) (K : Value -> Prop), gdP (yb (.bool true)) true A K = A K) /\ (∀ (A : (Value -> Prop) -> Prop) (K : Value -> Prop), gdP (yb (.bool false)) false A K = A K) /\ (∀ (A : (Value -> Prop) -> Prop) (K : Value -> Prop), gdP (yb (.bool false)) true A K = K undef) /\
  (∀ (A : (Value -> Prop) -> Prop) (K : Value -> Prop), gdP (yb (.bool true)) false A K = K undef) /\ (∀ (want : Bool) (A : (Value -> Prop) -> Prop) (K : Value -> Prop), gdP (yb undef) want A K = K undef) :=
 ⟨fun _ _ => gdP_yes, fun _ _ => gdP_yes, fun _ _ => gdP_no1, fun _ _ => gdP_no2, fun _ _ _ => by simp [gdP, yb, undef]⟩
theorem wordF_val {B T E : Nat} (hB : B < 16384) (hT : T < 4096) (hE : E < 64) : wordF B T E 3 = B + T * 16384 + E * 67108864 := by
 show 0 + B % 2 ^ 14 * 2 ^ 0 + T % 2 ^ 12 * 2 ^ 14 + E % 2 ^ 6 * 2 ^ 26 = _
 rw [Nat.mod_eq_of_lt (show B < 2 ^ 14 by simpa using hB), Nat.mod_eq_of_lt (show T < 2 ^ 12 by simpa using hT), Nat.mod_eq_of_lt (show E < 2 ^ 6 by simpa using hE)]
 simp
theorem neqF134 (B T E : Nat) (x y : Operand) (w : World) : (binV .neq 69 x y (.agg (fdsC B T E).toArray) (.agg (fdsC B T E).toArray)).run Tryz.prog w = .ok (.bool false) w := by
 have := RC_neq_69 B B T T E E x y w
 simpa [fdsC] using this
theorem fdsC_at (B T E : Nat) : (fdsC B T E)[0]? = some (.int .u64 B) /\ (fdsC B T E)[1]? = some (.int .u64 T) /\ (fdsC B T E)[2]? = some (.int .u64 E) := ⟨rfl, rfl, rfl⟩
theorem spC_none : spC none = [.int .u64 0, .int .u64 0] := rfl
theorem or_half {n : Nat} (h : n < 4096) : bitI .or .u64 (n : Int) 4096 = ((n + 4096 : Nat) : Int) := by
 have := or_u64 (a := (n : Int)) (b := 4096) (by omega) (by omega)
 have e : n ||| 4096 = n + 4096 := by
  have := Nat.two_pow_add_eq_or_of_lt (i := 12) (b := n) (by simpa using h) 1
  rw [Nat.or_comm]
  simp at this
  omega
 rw [this]
 simp [e]
theorem wrapMod (z : Int) : IntKind.u64.wrap z = z % 18446744073709551616 := by
 simp only [IntKind.wrap, IntKind.signed, IntKind.bits]
 simp
theorem mask12 (z : Int) : bitI .and .u64 z 4095 = z % 4096 := and_mask (k := .u64) (n := 12) (by decide)
theorem mask14 (z : Int) : bitI .and .u64 z 16383 = z % 16384 := and_mask (k := .u64) (n := 14) (by decide)
theorem subMask12 {x y : Nat} (hx : x < 18446744073709551616) (hy : y <= 16384) : bitI .and .u64 (IntKind.u64.wrap ((x : Int) - y)) 4095 = (((x + 16384 - y) % 4096 : Nat) : Int) := by
 rw [mask12, wrapMod]
 omega
theorem subMask14 {x y : Nat} (hx : x < 18446744073709551616) (hy : y <= 16384) : bitI .and .u64 (IntKind.u64.wrap (IntKind.u64.wrap ((x : Int) - y) + 4096)) 16383 = (((x + 16384 - y + 4096) % 16384 : Nat) : Int) := by
 rw [mask14, wrapMod, wrapMod]
 omega
theorem Decode_spec {w : World} {B T E a : Nat} (hB : B < 16384) (hT : T < 4096) (hE : E < 64) (ha : a < 18446744073709551616) {K : Value -> World -> Prop} (hK : ∀ w', Ext [] w w' -> K (.tuple #[.agg (spC (spn B T E a)).toArray, .bool (spn B T E a).isSome]) w') :
  callsK Tryz.prog 19 #[.agg (fdsC B T E).toArray, .int .u64 a] w K := by
 have hwv := wordF_val hB hT hE
 apply F19_ok
 unfold F19
 simp (disch := first | exact qD0 | fail) only [qG0]
 refine joinL.intro fun J0 hJ0 => ?_
 have hb : ∀ w1 b, b = decide (37 < E ∨ 281474976710656 <= a) -> w1.heap[w.heap.size]? = some (.cells (fdsC B T E).toArray 69 (0, 0)) -> w1.heap[w.heap.size + 1]? = some (.cells [.int .u64 0, .int .u64 0].toArray 26 (0, 0)) -> Ext [] w w1 -> J0 [.bool b] w1 := by
  rintro w1 b hb c2 c4 hx1
  have l4 := lt_of_at c4
  apply hJ0
  intro _
  by_cases h37 : 37 < E ∨ 281474976710656 <= a
  ·have e : spn B T E a = none := by unfold spn; rw [if_pos h37]
   rw [decide_eq_true h37] at hb
   subst hb
   rw [e] at hK
   simp only [spC_none] at hK
   simp (disch := first | exact qD0 | fail) only [qG0, Nat.reduceAdd, c4]
   exact hK _ qX
  ·rw [decide_eq_false h37] at hb
   subst hb
   have hn := subMask12 (x := T) (y := B) (by omega) (by omega)
   have hfd := fdivP (v := a) (E - 1)
   have hfq : (281474976710656 : Int).fdiv (2 ^ (E - 1)) = ((281474976710656 / 2 ^ (E - 1) : Nat) : Int) := fdivP (v := 281474976710656) (E - 1)
   have hqm := Nat.div_mul_le_self 281474976710656 (2 ^ (E - 1))
   have hm1 := fun v => mulP (v := v) (E - 1)
   have hle := Nat.div_le_self a (2 ^ (E - 1))
   have hq1 := Nat.div_le_self 281474976710656 (2 ^ (E - 1))
   have hnl : (T + 16384 - B) % 4096 < 4096 := Nat.mod_lt _ (by decide)
   have hspn : spn B T E a = if a / 2 ^ (E - 1) + 4096 < (a / 2 ^ (E - 1) + 16384 - B + 4096) % 16384 then none
 else if 281474976710656 / 2 ^ (E - 1) < a / 2 ^ (E - 1) + 4096 - (a / 2 ^ (E - 1) + 16384 - B + 4096) % 16384 + ((T + 16384 - B) % 4096 + if 0 < E then 4096 else 0) then none
 else some ((a / 2 ^ (E - 1) + 4096 - (a / 2 ^ (E - 1) + 16384 - B + 4096) % 16384) * 2 ^ (E - 1), (a / 2 ^ (E - 1) + 4096 - (a / 2 ^ (E - 1) + 16384 - B + 4096) % 16384 + ((T + 16384 - B) % 4096 + if 0 < E then 4096 else 0)) * 2 ^ (E - 1)) := by
    unfold spn
    rw [if_neg h37]
   rw [hspn] at hK
   clear hspn
   simp (disch := first | exact qD0 | fail) only [qG0, c2, fdsC_at]
   refine shift_spec hE ?_
   simp (disch := first | exact qD0 | fail) only [qG0, c2, fdsC_at, hn]
   refine joinL.intro fun J3 hJ3 => ?_
   have h3 : ∀ n : Nat, n = (T + 16384 - B) % 4096 + (if 0 < E then 4096 else 0) -> J3 [.int .u64 (n : Int)] w1 := by
    intro n hn'
    rw [<- hn'] at hK
    have hn8 : n < 8192 := by rw [hn']; split <;> omega
    clear hn'
    apply hJ3
    intro _
    have hd := subMask14 (x := a / 2 ^ (E - 1)) (y := B) (by omega) (by omega)
    have hd14 : (a / 2 ^ (E - 1) + 16384 - B + 4096) % 16384 < 16384 := Nat.mod_lt _ (by decide)
    generalize 2 ^ (E - 1) = p at *
    generalize a / p = at0 at *
    generalize 281474976710656 / p = qq at *
    generalize (at0 + 16384 - B + 4096) % 16384 = d at *
    by_cases hlt : at0 + 4096 < d
    ·rw [if_pos hlt] at hK
     simp only [spC_none] at hK
     simp (disch := first | exact qD0 | fail) only [qG0, Nat.reduceAdd, c2, c4, fdsC_at, hfd, hd]
     exact hK _ qX
    ·rw [if_neg hlt] at hK
     have e57 : (at0 : Int) + 4096 - (d : Int) = ((at0 + 4096 - d : Nat) : Int) := by omega
     by_cases hq2 : qq < at0 + 4096 - d + n
     ·rw [if_pos hq2] at hK
      simp only [spC_none] at hK
      generalize at0 + 4096 - d = bs at *
      simp (disch := first | exact qD0 | fail) only [qG0, Nat.reduceAdd, c2, c4, fdsC_at, hfd, hfq, hd, e57]
      exact hK _ qX
     ·rw [if_neg hq2] at hK
      generalize at0 + 4096 - d = bs at *
      have hmb : (bs + n) * p <= qq * p := Nat.mul_le_mul_right _ (by omega)
      have hmb2 : bs * p <= (bs + n) * p := Nat.mul_le_mul_right _ (by omega)
      have e60 : (bs : Int) + (n : Int) = ((bs + n : Nat) : Int) := by omega
      have hs1 := hm1 bs (by omega)
      have hs2 := hm1 (bs + n) (by omega)
      have hK' : ∀ w', Ext [] w w' -> K (.tuple #[.agg [.int .u64 ((bs * p : Nat) : Int), .int .u64 (((bs + n) * p : Nat) : Int)].toArray, .bool true]) w' := hK
      clear hK
      simp (disch := first | exact qD0 | fail) only [qG0, Nat.reduceAdd, c2, c4, fdsC_at, hfd, hfq, hd, e57, e60, hs1, hs2]
      exact hK' _ qX
   clear hJ3 hK
   by_cases hE0 : 0 < E
   ·have hor := or_half hnl
    simp (disch := first | exact qD0 | fail) only [qG0, c2, fdsC_at, hor]
    exact h3 _ (by rw [if_pos hE0])
   ·obtain rfl : E = 0 := by omega
    simp (disch := first | exact qD0 | fail) only [qG0, Int.reduceLT, c2, fdsC_at]
    exact h3 _ rfl
 clear hJ0 hK
 simp (disch := first | exact qD0 | fail) only [qG0, fdsC_at, fdsC_sub]
 repeat' (with_reducible apply And.intro)
 all_goals
  refine BWord_spec (by omega) (by omega) (by omega) fun w2 hx2 => ?_
  have hk2 := kept0 hx2
  have d2 : w2.heap[w.heap.size]? = some (.cells (fdsC B T E).toArray 69 (0, 0)) := (by first | with_reducible rfl | assumption | (simp (disch := first | exact qD0 | fail) only [qG0, hk2] <;> rfl))
  have d4 : w2.heap[w.heap.size + 1]? = some (.cells [.int .u64 0, .int .u64 0].toArray 26 (0, 0)) := (by first | with_reducible rfl | assumption | (simp (disch := first | exact qD0 | fail) only [qG0, hk2] <;> rfl))
  have hxw2 : Ext [] w w2 := Ext.trans (S := []) qX hx2 (by simp)
  rw [hwv]
  simp (disch := first | exact qD0 | fail) only [qG0, d2, fdsC_sub]
  repeat' (with_reducible apply And.intro)
 all_goals
  refine BOf_spec (by omega) fun w3 hx3 => ?_
  have e1 : (B + T * 16384 + E * 67108864) % 16384 = B := by omega
  have e2 : (B + T * 16384 + E * 67108864) / 16384 % 4096 = T := by omega
  have e3 : (B + T * 16384 + E * 67108864) / 67108864 % 64 = E := by omega
  rw [e1, e2, e3]
  have d3 := hx3.at d2 (by simp)
  have d5 := hx3.at d4 (by simp)
  by_cases h37 : 37 < E
  ·simp (disch := first | exact qD0 | fail) only [qG0, gdPR, pN_pickE, d3, fdsC_sub, fdsC_at, neqF134]
   exact hb w3 _ (by simp [h37]) d3 d5 (hxw2.trans hx3 (by simp))
  ·by_cases h48 : 281474976710656 <= a
   ·simp (disch := first | exact qD0 | fail) only [qG0, gdPR, pN_pickE, d3, fdsC_sub, fdsC_at, neqF134]
    exact hb w3 _ (by simp [h48]) d3 d5 (hxw2.trans hx3 (by simp))
   ·simp (disch := first | exact qD0 | fail) only [qG0, gdPR, pN_pickE, d3, fdsC_sub, fdsC_at, neqF134]
    exact hb w3 _ (by simp [h37, h48]) d3 d5 (hxw2.trans hx3 (by simp))
open Go.Fx
set_option maxRecDepth 100000
theorem spC_len (o : Option (Nat × Nat)) : (spC o).length = 2 := by simp [spC]
theorem spC_all (o : Option (Nat × Nat)) : (spC o).all (fun v => v.oneCell') = true := by simp [spC]; exact ⟨rfl, rfl⟩
theorem spC_sub (o : Option (Nat × Nat)) : sub (spC o) 0 2 = spC o := rfl
theorem spC_over (o : Option (Nat × Nat)) : splice [.int .u64 0, .int .u64 0] 0 (spC o) = spC o := rfl
theorem spC_put (o : Option (Nat × Nat)) : spC o ++ List.drop (spC o).length [.int .u64 0, .int .u64 0] = spC o := by simp [spC]
def spM (m a : Nat) : Option (Nat × Nat) := spn (m % 16384) (m / 16384 % 4096) (m / 67108864 % 64) a
def cpC (t : Bool) (m a : Nat) : List Value := [.bool t, .int .u64 m, .int .u64 a]
def vwC (m a : Nat) : List Value := [.int .u64 (spB (spM m a) : Nat), .int .u64 (spT (spM m a) : Nat), .int .u64 (m / 4294967296 % 512 : Nat), .int .u64 (m / 281474976710656 % 4096 : Nat)]
theorem qZ1 : type_of% (And.intro @szR (And.intro @fdsC_len (And.intro @fdsC_all (And.intro @wdsC_len (And.intro @wdsC_all (And.intro @spC_len (@spC_all))))))) := ⟨@szR, @fdsC_len, @fdsC_all, @wdsC_len, @wdsC_all, @spC_len, @spC_all⟩
theorem qD1 {p : Prop} (h : p := by first | assumption | omega | (simp only [qZ1] <;> omega) | rfl | decide) : p := h
theorem Look_spec {w : World} {t : Bool} {m a : Nat} (hm : m < 18446744073709551616) (ha : a < 18446744073709551616) {K : Value -> World -> Prop} (hK : ∀ w', Ext [] w w' -> K (.tuple #[.agg (vwC m a).toArray, .bool (spM m a).isSome]) w') :
  callsK Tryz.prog 15 #[.agg (cpC t m a).toArray] w K := by
 have hB : m % 16384 < 16384 := Nat.mod_lt _ (by decide)
 have hT : m / 16384 % 4096 < 4096 := Nat.mod_lt _ (by decide)
 have hE : m / 67108864 % 64 < 64 := Nat.mod_lt _ (by decide)
 apply F15_ok
 unfold F15
 simp only [cpC]
 simp (disch := first | exact qD1 | fail) only [qG0]
 refine joinL.intro fun J0 hJ0 => ?_
 have hfin : ∀ b4 w1, w1.heap[w.heap.size]? = some (.cells [.bool t, .int .u64 m, .int .u64 a].toArray 24 (0, 0)) -> w1.heap[w.heap.size + 1]? = some (.cells [.int .u64 0, .int .u64 0, .int .u64 0, .int .u64 0].toArray 28 (0, 0)) -> w.heap.size + 1 < b4 -> w1.heap[b4]? = some (.cells (spC (spM m a)).toArray 26 (0, 0)) -> Ext [] w w1 -> J0 [.pointer (some ⟨b4, 0, none⟩), .bool (spM m a).isSome] w1 := by
  intro b4 w1 c1 c2 hb4 c4 hx1
  have l4 := lt_of_at c4
  simp only [spC] at c4
  have hK' : ∀ w', Ext [] w w' -> K (.tuple #[.agg [.int .u64 (spB (spM m a) : Nat), .int .u64 (spT (spM m a) : Nat), .int .u64 ((m / 2 ^ 32 % 2 ^ 9 : Nat) : Int), .int .u64 ((m / 2 ^ 48 % 2 ^ 12 : Nat) : Int)].toArray, .bool (spM m a).isSome]) w' := hK
  clear hK
  generalize (spM m a).isSome = ok at *
  generalize spB (spM m a) = sb at *
  generalize spT (spM m a) = st at *
  apply hJ0
  intro _
  clear hJ0
  simp (disch := first | exact qD1 | fail) only [qG0, c1, c2, c4]
  repeat' (with_reducible apply And.intro)
  all_goals
   refine fGet_spec (by omega) (by omega) (by omega) hm fun w2 hx2 => ?_
   have d1 := hx2.at c1 (by simp)
   have d2 := hx2.at c2 (by simp)
   have d4 := hx2.at c4 (by simp)
   simp (disch := first | exact qD1 | fail) only [qG0, Int.reduceToNat, d1, d2, d4]
   repeat' (with_reducible apply And.intro)
  all_goals
   refine fGet_spec (by omega) (by omega) (by omega) hm fun w3 hx3 => ?_
   have e1 := hx3.at d1 (by simp)
   have e2 := hx3.at d2 (by simp)
   have e4 := hx3.at d4 (by simp)
   have hxw2 : Ext [] w w2 := Ext.trans (S := []) qX hx2 (by simp)
   have hxw3 : Ext [] w w3 := Ext.trans (S := []) qX hx3 (by simp)
   have l2 := lt_of_at e2
   simp (disch := first | exact qD1 | fail) only [qG0, Nat.reduceAdd, Int.reduceToNat, e1, e2, e4]
   exact hK' _ qX
 clear hJ0 hK
 simp (disch := first | exact qD1 | fail) only [qG0]
 repeat' (with_reducible apply And.intro)
 all_goals
  refine BOf_spec hm fun w2 hx2 => ?_
  have hk2 := kept0 hx2
  have c1 : w2.heap[w.heap.size]? = some (.cells [.bool t, .int .u64 m, .int .u64 a].toArray 24 (0, 0)) := (by first | with_reducible rfl | assumption | (simp (disch := first | exact qD1 | fail) only [qG0, hk2] <;> rfl))
  have c2 : w2.heap[w.heap.size + 1]? = some (.cells [.int .u64 0, .int .u64 0, .int .u64 0, .int .u64 0].toArray 28 (0, 0)) := (by first | with_reducible rfl | assumption | (simp (disch := first | exact qD1 | fail) only [qG0, hk2] <;> rfl))
  have l2 := lt_of_at c2
  have hs2 := hx2.size
  try simp only [szR] at hs2
  have hxw2 : Ext [] w w2 := Ext.trans (S := []) qX hx2 (by simp)
  simp (disch := first | exact qD1 | fail) only [qG0, c1]
  repeat' (with_reducible apply And.intro)
 all_goals
  refine Decode_spec hB hT hE ha fun w3 hx3 => ?_
  have hk3 := kept0 hx3
  have hs3 := hx3.size
  try simp only [szR] at hs3
  have hx23 : Ext [] w2 w3 := Ext.trans (S := []) qX hx3 (by simp)
  have d1 := hx23.at c1 (by simp)
  have d2 := hx23.at c2 (by simp)
  have hxw3 := hxw2.trans hx23 (by simp)
  simp (disch := first | exact qD1 | fail) only [qG0, hk3, hk2, spC_over]
  refine hfin _ _ (by first | with_reducible rfl | assumption | (simp (disch := first | exact qD1 | fail) only [qG0, d1] <;> rfl)) (by first | with_reducible rfl | assumption | (simp (disch := first | exact qD1 | fail) only [qG0, d2] <;> rfl)) ?_ ?_ ?_
  ·first | omega | (simp only [szR] <;> omega)
  ·first | ((first | with_reducible rfl | assumption | (simp (disch := first | exact qD1 | fail) only [qG0, hk3, hk2, spC_put, spC_over] <;> try rfl)); done) | exact congrArg (fun l : List Value => some (Obj.cells l.toArray 26 (0, 0))) (spC_put _)
  ·exact qX
open Go.Fx
set_option maxRecDepth 100000
theorem mixedX : Tryz.prog.follows .mixedOrders = true := by kernel_rfl
section
variable (P : Program) (w : World) (K : Value -> World -> Prop)
def F6 (t0 t1 : Value) : Prop :=
 kV P (Instr.box 28 t0) w fun v2 w =>
 kV P (Instr.alloc 24 true (.tuple #[])) w fun v4 w =>
 kV P (Instr.fieldAt 28 v2 0) w fun v11 w =>
 kV P (Instr.loadAt 26 v11) w fun v12 w =>
 kN P (callN (.func (.func 18) #[] #[]) #[v12]) w fun v13 w =>
 kV P (Instr.extract v13 0) w fun v14 w =>
 kV P (Instr.extract v13 1) w fun v15 w =>
 kV P (Instr.alloc 69 true (.tuple #[])) w fun v6 w =>
 kU P (Instr.storeAt 69 v6 v14) w fun _ w =>
 kV P (Instr.loadAt 69 v6) w fun v17 w =>
 kN P (callN (.func (.func 19) #[] #[]) #[v17, t1]) w fun v19 w =>
 kV P (Instr.extract v19 0) w fun v20 w =>
 kV P (Instr.extract v19 1) w fun v21 w =>
 kV P (Instr.alloc 26 true (.tuple #[])) w fun v8 w =>
 kU P (Instr.storeAt 26 v8 v20) w fun _ w =>
 kV P (Op.unary .not v15) w fun v23 w =>
 joinK (fun J0 : Value -> World -> Prop => gdK (yb v23) false (fun k => k v21 w) w fun v25 w =>
 gdK (yb v23) false (fun k => kV P (Op.unary .not v25) w k) w fun v26 w =>
 kN P (pickN v23 (.bool true) v26) w fun v27_1 w =>
 J0 v27_1 w) fun v27 w =>
 joinK (fun J1 : Value -> World -> Prop => gdK (yb v27) false (fun k => kV P (Instr.loadAt 26 v8) w k) w fun v29 w =>
 gdK (yb v27) false (fun k => kV P (Instr.fieldAt 28 v2 0) w k) w fun v30 w =>
 gdK (yb v27) false (fun k => kV P (Instr.loadAt 26 v30) w k) w fun v31 w =>
 gdK (yb v27) false (fun k => kV P (binV .neq 26 (.tmp 29) (.tmp 31) v29 v31) w k) w fun v32 w =>
 kN P (pickN v27 (.bool true) v32) w fun v33_1 w =>
 J1 v33_1 w) fun v33 w =>
 joinK (fun J2 : Value -> World -> Prop => gdK (yb v33) false (fun k => kV P (Instr.fieldAt 28 v2 1) w k) w fun v35 w =>
 gdK (yb v33) false (fun k => kV P (Instr.loadAt 22 v35) w k) w fun v36 w =>
 gdK (yb v33) false (fun k => kV P (binV .gtr 22 (.tmp 36) (.const (.int .u64 511)) v36 (.int .u64 511)) w k) w fun v37 w =>
 kN P (pickN v33 (.bool true) v37) w fun v38_1 w =>
 J2 v38_1 w) fun v38 w =>
 joinK (fun J3 : Value -> World -> Prop => gdK (yb v38) false (fun k => kV P (Instr.fieldAt 28 v2 2) w k) w fun v40 w =>
 gdK (yb v38) false (fun k => kV P (Instr.loadAt 22 v40) w k) w fun v41 w =>
 gdK (yb v38) false (fun k => kV P (binV .gtr 22 (.tmp 41) (.const (.int .u64 4095)) v41 (.int .u64 4095)) w k) w fun v42 w =>
 kN P (pickN v38 (.bool true) v42) w fun v43_1 w =>
 J3 v43_1 w) fun v43 w =>
 condK v43
 (kV P (Instr.build 24 #[]) w fun v44 w =>
 kU P (Instr.storeAt 24 v4 v44) w fun _ w =>
 retV P 24 v4 w fun r4 =>
 K (.tuple #[r4, (.bool false)]) w)
 (kV P (Instr.loadAt 69 v6) w fun v45 w =>
 kV P (Instr.loadAt 28 v2) w fun v46 w =>
 kN P (callN (.func (.func 20) #[] #[]) #[v45, v46]) w fun v47 w =>
 kV P (Instr.build 24 #[(1, v47), (2, t1)]) w fun v49 w =>
 kU P (Instr.storeAt 24 v4 v49) w fun _ w =>
 retV P 24 v4 w fun r5 =>
 K (.tuple #[r5, (.bool true)]) w)
theorem F6_eq (t0 t1 : Value) : funE P ⟨[], [], []⟩ Tryz.f6 [t0, t1] w K = F6 P w K t0 t1 := by kernel_rfl
theorem F6_ok (t0 t1 : Value) (h : F6 Tryz.prog w K t0 t1) : callsK Tryz.prog 6 #[t0, t1] w K := calls_of_eq mixedX Tryz.func6 (F6_eq _ w K t0 t1) h
def F8 (t0 : Value) : Prop :=
 kV P (Instr.box 24 t0) w fun v1 w =>
 kV P (Instr.alloc 42 true (.tuple #[])) w fun v2 w =>
 kV P (Instr.loadAt 24 v1) w fun v3 w =>
 kV P (Instr.build 42 #[(1, v3)]) w fun v4 w =>
 kU P (Instr.storeAt 42 v2 v4) w fun _ w =>
 retV P 42 v2 w fun r0 =>
 K r0 w
theorem F8_eq (t0 : Value) : funE P ⟨[], [], []⟩ Tryz.f8 [t0] w K = F8 P w K t0 := by kernel_rfl
theorem F8_ok (t0 : Value) (h : F8 Tryz.prog w K t0) : callsK Tryz.prog 8 #[t0] w K := calls_of_eq mixedX Tryz.func8 (F8_eq _ w K t0) h
def F9 (t0 t1 t2 : Value) : Prop :=
 kV P (Instr.box 42 t0) w fun v3 w =>
 kV P (Instr.box 24 t2) w fun v5 w =>
 kV P (Instr.alloc 42 true (.tuple #[])) w fun v6 w =>
 joinL (fun J0 =>
 kN P (callN (.func (.func 27) #[] #[]) #[t1]) w fun v8 w =>
 condK v8
 (kV P (Instr.loadAt 24 v5) w fun v10 w =>
 kV P (Instr.fieldAt 42 v3 0) w fun v11 w =>
 kV P (Instr.indexAt 40 v11 t1) w fun v12 w =>
 kU P (Instr.storeAt 24 v12 v10) w fun _ w =>
 J0 [] w)
 (J0 [] w)) fun s0 w => ∀ _ : Nat -> Value,
 kV P (Instr.loadAt 42 v3) w fun v13 w =>
 kU P (Instr.storeAt 42 v6 v13) w fun _ w =>
 retV P 42 v6 w fun r2 =>
 K r2 w
theorem F9_eq (t0 t1 t2 : Value) : funE P ⟨[], [], [(3, [])]⟩ Tryz.f9 [t0, t1, t2] w K = F9 P w K t0 t1 t2 := by kernel_rfl
theorem F9_ok (t0 t1 t2 : Value) (h : F9 Tryz.prog w K t0 t1 t2) : callsK Tryz.prog 9 #[t0, t1, t2] w K := calls_of_eq mixedX Tryz.func9 (F9_eq _ w K t0 t1 t2) h
def F10 (t0 t1 : Value) : Prop :=
 kV P (Instr.box 42 t0) w fun v2 w =>
 kV P (Instr.alloc 42 true (.tuple #[])) w fun v4 w =>
 kV P (Instr.alloc 51 true (.tuple #[])) w fun v5 w =>
 kV P (Instr.fieldAt 42 v2 1) w fun v13 w =>
 kV P (Instr.fieldAt 24 v13 2) w fun v14 w =>
 kV P (Instr.loadAt 22 v14) w fun v15 w =>
 joinL (fun J0 =>
 drewK (fun w =>
 relX fun R15 =>
 postX R15 (fun p15_16 => allX R15 w fun V15 w => True -> kV P (Instr.loadAt 42 v2) w (okX R15 w p15_16)) fun p15_16 =>
 postX R15 (fun p15_17 => allX R15 w fun V15 w => p15_16 (V15 16) w /\ True -> kN P (callN (.func (.func 28) #[] #[]) #[(V15 16)]) w (okX R15 w p15_17)) fun p15_17 =>
 postX R15 (fun p15_18 => allX R15 w fun V15 w => True -> kV P (Instr.loadAt 42 v2) w (okX R15 w p15_18)) fun p15_18 =>
 postX R15 (fun p15_19 => allX R15 w fun V15 w => True -> (okX R15 w p15_19) t1 w) fun p15_19 =>
 allX R15 w fun V15 w => p15_16 (V15 16) w /\ p15_17 (V15 17) w /\ p15_18 (V15 18) w /\ p15_19 (V15 19) w /\ True -> xDist V15 [] ->
 kV P (Instr.build 91 #[(0, (V15 17)), (1, (V15 18)), (2, (V15 19))]) w fun v20 w =>
 kV P (Instr.box 91 v20) w fun v21 w =>
 J0 [v21] w) w) fun s0 w => ∀ _ : Nat -> Value,
 kV P (Instr.fieldAt 42 v2 1) w fun v22 w =>
 kV P (Instr.loadAt 24 v22) w fun v23 w =>
 kN P (callN (.func (.func 29) #[] #[]) #[v23, (.int .i64 0), (.int .u64 4)]) w fun v24 w =>
 kV P (binV .neq 3 (.tmp 25) (.const (.int .i64 0)) v24 (.int .i64 0)) w fun v26 w =>
 condK v26
 (kN P (callN (.func (.func 30) #[] #[]) #[(s0.getD 0 undef), (.int .i64 5), v24, v15]) w fun v30 w =>
 kV P (Instr.extract v30 0) w fun v31 w =>
 kV P (Instr.extract v30 1) w fun v32 w =>
 kU P (Instr.storeAt 42 v4 v31) w fun _ w =>
 kU P (Instr.storeAt 51 v5 v32) w fun _ w =>
 retV P 42 v4 w fun r2 =>
 retV P 51 v5 w fun r3 =>
 K (.tuple #[r2, r3]) w)
 (kV P (binV .rem 22 (.tmp 33) (.const (.int .u64 4)) v15 (.int .u64 4)) w fun v34 w =>
 kV P (binV .neq 22 (.tmp 34) (.const (.int .u64 0)) v34 (.int .u64 0)) w fun v35 w =>
 condK v35
 (kN P (callN (.func (.func 30) #[] #[]) #[(s0.getD 0 undef), (.int .i64 4), (.int .i64 0), v15]) w fun v38 w =>
 kV P (Instr.extract v38 0) w fun v39 w =>
 kV P (Instr.extract v38 1) w fun v40 w =>
 kU P (Instr.storeAt 42 v4 v39) w fun _ w =>
 kU P (Instr.storeAt 51 v5 v40) w fun _ w =>
 retV P 42 v4 w fun r4 =>
 retV P 51 v5 w fun r5 =>
 K (.tuple #[r4, r5]) w)
 (kN P (callMethod t1 "Fetch" #[v15]) w fun v44 w =>
 kV P (Instr.extract v44 0) w fun v45 w =>
 kV P (Instr.extract v44 1) w fun v46 w =>
 kV P (binV .neq 3 (.tmp 47) (.const (.int .i64 0)) v46 (.int .i64 0)) w fun v48 w =>
 condK v48
 (kN P (callN (.func (.func 30) #[] #[]) #[(s0.getD 0 undef), (.int .i64 6), v46, v15]) w fun v52 w =>
 kV P (Instr.extract v52 0) w fun v53 w =>
 kV P (Instr.extract v52 1) w fun v54 w =>
 kU P (Instr.storeAt 42 v4 v53) w fun _ w =>
 kU P (Instr.storeAt 51 v5 v54) w fun _ w =>
 retV P 42 v4 w fun r6 =>
 retV P 51 v5 w fun r7 =>
 K (.tuple #[r6, r7]) w)
 (kN P (callN (.func (.func 31) #[] #[]) #[v45]) w fun v57 w =>
 kV P (Instr.extract v57 0) w fun v58 w =>
 kV P (Instr.extract v57 1) w fun v59 w =>
 kV P (Instr.alloc 49 true (.tuple #[])) w fun v11 w =>
 kU P (Instr.storeAt 49 v11 v58) w fun _ w =>
 kV P (Op.unary .not v59) w fun v61 w =>
 condK v61
 (kN P (callN (.func (.func 30) #[] #[]) #[(s0.getD 0 undef), (.int .i64 1), (.int .i64 0), v15]) w fun v64 w =>
 kV P (Instr.extract v64 0) w fun v65 w =>
 kV P (Instr.extract v64 1) w fun v66 w =>
 kU P (Instr.storeAt 42 v4 v65) w fun _ w =>
 kU P (Instr.storeAt 51 v5 v66) w fun _ w =>
 retV P 42 v4 w fun r8 =>
 retV P 51 v5 w fun r9 =>
 K (.tuple #[r8, r9]) w)
 (joinL (fun J10 =>
 drewK (fun w =>
 relX fun R14 =>
 postX R14 (fun p14_67 => allX R14 w fun V14 w => True -> (okX R14 w p14_67) (s0.getD 0 undef) w) fun p14_67 =>
 postX R14 (fun p14_68 => allX R14 w fun V14 w => True -> (okX R14 w p14_68) (s0.getD 0 undef) w) fun p14_68 =>
 postX R14 (fun p14_69 => allX R14 w fun V14 w => True -> (okX R14 w p14_69) (s0.getD 0 undef) w) fun p14_69 =>
 postX R14 (fun p14_70 => allX R14 w fun V14 w => True -> kV P (Instr.loadAt 49 v11) w (okX R14 w p14_70)) fun p14_70 =>
 postX R14 (fun p14_71 => allX R14 w fun V14 w => True -> kV P (Instr.loadAt 42 v2) w (okX R14 w p14_71)) fun p14_71 =>
 postX R14 (fun p14_72 => allX R14 w fun V14 w => True -> kV P (Instr.fieldAt 49 v11 2) w (okX R14 w p14_72)) fun p14_72 =>
 postX R14 (fun p14_73 => allX R14 w fun V14 w => p14_72 (V14 72) w /\ True -> kV P (Instr.loadAt 3 (V14 72)) w (okX R14 w p14_73)) fun p14_73 =>
 postX R14 (fun p14_74 => allX R14 w fun V14 w => p14_71 (V14 71) w /\ p14_73 (V14 73) w /\ True -> kN P (callN (.func (.func 11) #[] #[]) #[(V14 71), (V14 73)]) w (okX R14 w p14_74)) fun p14_74 =>
 postX R14 (fun p14_75 => allX R14 w fun V14 w => True -> kV P (Instr.loadAt 42 v2) w (okX R14 w p14_75)) fun p14_75 =>
 postX R14 (fun p14_76 => allX R14 w fun V14 w => True -> kV P (Instr.fieldAt 49 v11 3) w (okX R14 w p14_76)) fun p14_76 =>
 postX R14 (fun p14_77 => allX R14 w fun V14 w => p14_76 (V14 76) w /\ True -> kV P (Instr.loadAt 3 (V14 76)) w (okX R14 w p14_77)) fun p14_77 =>
 postX R14 (fun p14_78 => allX R14 w fun V14 w => p14_74 (V14 74) w /\ p14_75 (V14 75) w /\ p14_77 (V14 77) w /\ True -> kN P (callN (.func (.func 11) #[] #[]) #[(V14 75), (V14 77)]) w (okX R14 w p14_78)) fun p14_78 =>
 postX R14 (fun p14_79 => allX R14 w fun V14 w => p14_67 (V14 67) w /\ p14_70 (V14 70) w /\ p14_74 (V14 74) w /\ p14_78 (V14 78) w /\ True -> kN P (nilN (V14 67)) w (okX R14 w p14_79)) fun p14_79 =>
 postX R14 (fun p14_80 => allX R14 w fun V14 w => p14_67 (V14 67) w /\ p14_70 (V14 70) w /\ p14_74 (V14 74) w /\ p14_78 (V14 78) w /\ p14_79 (V14 79) w /\ True -> kV P (Instr.fieldAt 91 (V14 79) 3) w (okX R14 w p14_80)) fun p14_80 =>
 postX R14 (fun p14_n14 => allX R14 w fun V14 w => p14_67 (V14 67) w /\ p14_70 (V14 70) w /\ p14_74 (V14 74) w /\ p14_78 (V14 78) w /\ p14_80 (V14 80) w /\ True -> kU P (Instr.storeAt 49 (V14 80) (V14 70)) w (okX R14 w (fun _ => p14_n14 (V14 80)))) fun p14_n14 =>
 postX R14 (fun p14_81 => allX R14 w fun V14 w => p14_67 (V14 67) w /\ p14_68 (V14 68) w /\ p14_70 (V14 70) w /\ p14_71 (V14 71) w /\ p14_72 (V14 72) w /\ p14_73 (V14 73) w /\ p14_74 (V14 74) w /\ p14_78 (V14 78) w /\ p14_79 (V14 79) w /\ p14_80 (V14 80) w /\ p14_n14 (V14 80) w /\ True -> kN P (nilN (V14 68)) w (okX R14 w p14_81)) fun p14_81 =>
 postX R14 (fun p14_82 => allX R14 w fun V14 w => p14_67 (V14 67) w /\ p14_68 (V14 68) w /\ p14_70 (V14 70) w /\ p14_71 (V14 71) w /\ p14_72 (V14 72) w /\ p14_73 (V14 73) w /\ p14_74 (V14 74) w /\ p14_78 (V14 78) w /\ p14_79 (V14 79) w /\ p14_80 (V14 80) w /\ p14_n14 (V14 80) w /\ p14_81 (V14 81) w /\ True -> kV P (Instr.fieldAt 91 (V14 81) 4) w (okX R14 w p14_82)) fun p14_82 =>
 postX R14 (fun p14_n17 => allX R14 w fun V14 w => p14_67 (V14 67) w /\ p14_68 (V14 68) w /\ p14_70 (V14 70) w /\ p14_71 (V14 71) w /\ p14_72 (V14 72) w /\ p14_73 (V14 73) w /\ p14_74 (V14 74) w /\ p14_78 (V14 78) w /\ p14_79 (V14 79) w /\ p14_80 (V14 80) w /\ p14_n14 (V14 80) w /\ p14_82 (V14 82) w /\ True -> kU P (Instr.storeAt 24 (V14 82) (V14 74)) w (okX R14 w (fun _ => p14_n17 (V14 82)))) fun p14_n17 =>
 allX R14 w fun V14 w => p14_67 (V14 67) w /\ p14_68 (V14 68) w /\ p14_69 (V14 69) w /\ p14_70 (V14 70) w /\ p14_71 (V14 71) w /\ p14_72 (V14 72) w /\ p14_73 (V14 73) w /\ p14_74 (V14 74) w /\ p14_75 (V14 75) w /\ p14_76 (V14 76) w /\ p14_77 (V14 77) w /\ p14_78 (V14 78) w /\ p14_79 (V14 79) w /\ p14_80 (V14 80) w /\ p14_n14 (V14 80) w /\ p14_81 (V14 81) w /\ p14_82 (V14 82) w /\ p14_n17 (V14 82) w /\ True -> xDist V14 [] ->
 kN P (nilN (V14 69)) w fun v83 w =>
 kV P (Instr.fieldAt 91 v83 5) w fun v84 w =>
 kU P (Instr.storeAt 24 v84 (V14 78)) w fun _ w =>
 J10 [] w) w) fun s10 w => ∀ _ : Nat -> Value,
 kN P (callN (.func (.func 32) #[] #[]) #[(s0.getD 0 undef)]) w fun v86 w =>
 kV P (Instr.extract v86 0) w fun v87 w =>
 kV P (Instr.extract v86 1) w fun v88 w =>
 kU P (Instr.storeAt 42 v4 v87) w fun _ w =>
 kU P (Instr.storeAt 51 v5 v88) w fun _ w =>
 retV P 42 v4 w fun r12 =>
 retV P 51 v5 w fun r13 =>
 K (.tuple #[r12, r13]) w))))
theorem F10_eq (t0 t1 : Value) : funE P ⟨[(2, 1004), (14, 1018)], [], [(3, [7]), (15, [])]⟩ Tryz.f10 [t0, t1] w K = F10 P w K t0 t1 := by kernel_rfl
theorem F10_ok (t0 t1 : Value) (h : F10 Tryz.prog w K t0 t1) : callsK Tryz.prog 10 #[t0, t1] w K := calls_of_eq mixedX Tryz.func10 (F10_eq _ w K t0 t1) h
def F11 (t0 t1 : Value) : Prop :=
 kV P (Instr.box 42 t0) w fun v2 w =>
 kV P (Instr.alloc 24 true (.tuple #[])) w fun v4 w =>
 kN P (callN (.func (.func 27) #[] #[]) #[t1]) w fun v6 w =>
 kV P (Op.unary .not v6) w fun v7 w =>
 condK v7
 (kV P (Instr.build 24 #[]) w fun v8 w =>
 kU P (Instr.storeAt 24 v4 v8) w fun _ w =>
 retV P 24 v4 w fun r0 =>
 K r0 w)
 (kV P (Instr.fieldAt 42 v2 0) w fun v10 w =>
 kV P (Instr.indexAt 40 v10 t1) w fun v11 w =>
 kV P (Instr.loadAt 24 v11) w fun v12 w =>
 kU P (Instr.storeAt 24 v4 v12) w fun _ w =>
 retV P 24 v4 w fun r1 =>
 K r1 w)
theorem F11_eq (t0 t1 : Value) : funE P ⟨[], [], []⟩ Tryz.f11 [t0, t1] w K = F11 P w K t0 t1 := by kernel_rfl
theorem F11_ok (t0 t1 : Value) (h : F11 Tryz.prog w K t0 t1) : callsK Tryz.prog 11 #[t0, t1] w K := calls_of_eq mixedX Tryz.func11 (F11_eq _ w K t0 t1) h
def F12 : Prop :=
 kV P (Instr.buildSlice 39 1 #[(0, (.int .u32 5243027))]) w fun v9 w =>
 kV P (Instr.build 45 #[(0, v9)]) w fun v10 w =>
 kN P (callN (.func (.func 7) #[] #[]) #[v10]) w fun v11 w =>
 kV P (Instr.extract v11 0) w fun v12 w =>
 kV P (Instr.extract v11 1) w fun v13 w =>
 kV P (Instr.extract v11 2) w fun v14 w =>
 kV P (Instr.alloc 35 true (.tuple #[])) w fun v2 w =>
 kU P (Instr.storeAt 35 v2 v13) w fun _ w =>
 kV P (Instr.build 24 #[(0, (.bool true)), (1, (.int .u64 17180917760))]) w fun v15 w =>
 kV P (Instr.alloc 24 true (.tuple #[])) w fun v4 w =>
 kU P (Instr.storeAt 24 v4 v15) w fun _ w =>
 kV P (Instr.loadAt 24 v4) w fun v17 w =>
 kN P (callN (.func (.func 8) #[] #[]) #[v17]) w fun v18 w =>
 kV P (Instr.build 55 #[(0, v12)]) w fun v20 w =>
 kV P (Instr.makeInterface 55 v20) w fun v21 w =>
 kN P (callN (.func (.func 10) #[] #[]) #[v18, v21]) w fun v22 w =>
 kV P (Instr.extract v22 0) w fun v23 w =>
 kV P (Instr.extract v22 1) w fun v24 w =>
 kV P (Instr.alloc 42 true (.tuple #[])) w fun v5 w =>
 kV P (Instr.alloc 51 true (.tuple #[])) w fun v6 w =>
 kU P (Instr.storeAt 42 v5 v23) w fun _ w =>
 kU P (Instr.storeAt 51 v6 v24) w fun _ w =>
 kV P (Instr.loadAt 42 v5) w fun v25 w =>
 kN P (callN (.func (.func 28) #[] #[]) #[v25]) w fun v26 w =>
 kV P (Instr.alloc 42 true (.tuple #[])) w fun v7 w =>
 kU P (Instr.storeAt 42 v7 v26) w fun _ w =>
 kV P (Instr.fieldAt 51 v6 0) w fun v27 w =>
 kV P (Instr.loadAt 3 v27) w fun v28 w =>
 kV P (binV .eql 3 (.tmp 28) (.const (.int .i64 0)) v28 (.int .i64 0)) w fun v29 w =>
 joinK (fun J0 : Value -> World -> Prop => gdK (yb v29) true (fun k => kV P (Instr.fieldAt 51 v6 3) w k) w fun v31 w =>
 gdK (yb v29) true (fun k => kV P (Instr.fieldAt 49 v31 0) w k) w fun v32 w =>
 gdK (yb v29) true (fun k => kV P (Instr.loadAt 3 v32) w k) w fun v33 w =>
 gdK (yb v29) true (fun k => kV P (binV .eql 3 (.tmp 33) (.const (.int .i64 22)) v33 (.int .i64 22)) w k) w fun v34 w =>
 kN P (pickN v29 v34 (.bool false)) w fun v35_1 w =>
 J0 v35_1 w) fun v35 w =>
 joinK (fun J1 : Value -> World -> Prop => gdK (yb v35) true (fun k => kV P (Instr.loadAt 42 v5) w k) w fun v37 w =>
 gdK (yb v35) true (fun k => kN P (callN (.func (.func 11) #[] #[]) #[v37, (.int .i64 1)]) w k) w fun v38 w =>
 gdK (yb v35) true (fun k => kN P (callN (.func (.func 33) #[] #[]) #[(.int .u64 5)]) w k) w fun v39 w =>
 gdK (yb v35) true (fun k => kV P (binV .eql 24 (.tmp 38) (.tmp 39) v38 v39) w k) w fun v40 w =>
 kN P (pickN v35 v40 (.bool false)) w fun v41_1 w =>
 J1 v41_1 w) fun v41 w =>
 joinK (fun J2 : Value -> World -> Prop => gdK (yb v41) true (fun k => kV P (Instr.fieldAt 42 v5 1) w k) w fun v43 w =>
 gdK (yb v41) true (fun k => kV P (Instr.fieldAt 24 v43 2) w k) w fun v44 w =>
 gdK (yb v41) true (fun k => kV P (Instr.loadAt 22 v44) w k) w fun v45 w =>
 gdK (yb v41) true (fun k => kV P (binV .eql 22 (.tmp 45) (.const (.int .u64 4)) v45 (.int .u64 4)) w k) w fun v46 w =>
 kN P (pickN v41 v46 (.bool false)) w fun v47_1 w =>
 J2 v47_1 w) fun v47 w =>
 joinK (fun J3 : Value -> World -> Prop => gdK (yb v47) true (fun k => kV P (Instr.fieldAt 42 v7 1) w k) w fun v49 w =>
 gdK (yb v47) true (fun k => kV P (Instr.fieldAt 24 v49 2) w k) w fun v50 w =>
 gdK (yb v47) true (fun k => kV P (Instr.loadAt 22 v50) w k) w fun v51 w =>
 gdK (yb v47) true (fun k => kV P (binV .eql 22 (.tmp 51) (.const (.int .u64 8)) v51 (.int .u64 8)) w k) w fun v52 w =>
 kN P (pickN v47 v52 (.bool false)) w fun v53_1 w =>
 J3 v53_1 w) fun v53 w =>
 K v53 w
theorem F12_eq : funE P ⟨[], [], []⟩ Tryz.f12 [] w K = F12 P w K  := by kernel_rfl
theorem F12_ok  (h : F12 Tryz.prog w K ) : callsK Tryz.prog 12 #[] w K := calls_of_eq mixedX Tryz.func12 (F12_eq _ w K ) h
def F16 (t0 t1 : Value) : Prop :=
 kV P (Instr.box 24 t0) w fun v2 w =>
 kV P (Instr.alloc 24 true (.tuple #[])) w fun v4 w =>
 kV P (Instr.loadAt 24 v2) w fun v5 w =>
 kV P (Instr.fieldAt 24 v2 2) w fun v6 w =>
 kV P (Instr.loadAt 22 v6) w fun v7 w =>
 kV P (binV .add 22 (.tmp 7) (.tmp 8) v7 t1) w fun v9 w =>
 kN P (callN (.func (.func 44) #[] #[]) #[v5, v9]) w fun v10 w =>
 kU P (Instr.storeAt 24 v4 v10) w fun _ w =>
 retV P 24 v4 w fun r0 =>
 K r0 w
theorem F16_eq (t0 t1 : Value) : funE P ⟨[], [], []⟩ Tryz.f16 [t0, t1] w K = F16 P w K t0 t1 := by kernel_rfl
theorem F16_ok (t0 t1 : Value) (h : F16 Tryz.prog w K t0 t1) : callsK Tryz.prog 16 #[t0, t1] w K := calls_of_eq mixedX Tryz.func16 (F16_eq _ w K t0 t1) h
def F20 (t0 t1 : Value) : Prop :=
 kV P (Instr.box 69 t0) w fun v2 w =>
 kV P (Instr.box 28 t1) w fun v3 w =>
 drewK (fun w =>
 relX fun R0 =>
 postX R0 (fun p0_5 => allX R0 w fun V0 w => True -> kV P (Instr.loadAt 69 v2) w (okX R0 w p0_5)) fun p0_5 =>
 postX R0 (fun p0_6 => allX R0 w fun V0 w => p0_5 (V0 5) w /\ True -> kN P (callN (.func (.func 50) #[] #[]) #[(V0 5)]) w (okX R0 w p0_6)) fun p0_6 =>
 postX R0 (fun p0_7 => allX R0 w fun V0 w => p0_6 (V0 6) w /\ True -> kV P (Instr.build 131 #[(1, (.int .i64 32)), (2, (V0 6))]) w (okX R0 w p0_7)) fun p0_7 =>
 postX R0 (fun p0_8 => allX R0 w fun V0 w => True -> kV P (Instr.fieldAt 28 v3 1) w (okX R0 w p0_8)) fun p0_8 =>
 postX R0 (fun p0_9 => allX R0 w fun V0 w => p0_8 (V0 8) w /\ True -> kV P (Instr.loadAt 22 (V0 8)) w (okX R0 w p0_9)) fun p0_9 =>
 postX R0 (fun p0_10 => allX R0 w fun V0 w => p0_9 (V0 9) w /\ True -> kV P (Instr.build 131 #[(0, (.int .i64 32)), (1, (.int .i64 9)), (2, (V0 9))]) w (okX R0 w p0_10)) fun p0_10 =>
 postX R0 (fun p0_11 => allX R0 w fun V0 w => True -> kV P (Instr.fieldAt 28 v3 2) w (okX R0 w p0_11)) fun p0_11 =>
 postX R0 (fun p0_12 => allX R0 w fun V0 w => p0_11 (V0 11) w /\ True -> kV P (Instr.loadAt 22 (V0 11)) w (okX R0 w p0_12)) fun p0_12 =>
 postX R0 (fun p0_13 => allX R0 w fun V0 w => p0_12 (V0 12) w /\ True -> kV P (Instr.build 131 #[(0, (.int .i64 48)), (1, (.int .i64 12)), (2, (V0 12))]) w (okX R0 w p0_13)) fun p0_13 =>
 allX R0 w fun V0 w => p0_5 (V0 5) w /\ p0_6 (V0 6) w /\ p0_7 (V0 7) w /\ p0_8 (V0 8) w /\ p0_9 (V0 9) w /\ p0_10 (V0 10) w /\ p0_11 (V0 11) w /\ p0_12 (V0 12) w /\ p0_13 (V0 13) w /\ True -> xDist V0 [] ->
 kV P (Instr.buildSlice 179 3 #[(0, (V0 7)), (1, (V0 10)), (2, (V0 13))]) w fun v14 w =>
 kN P (callN (.func (.func 51) #[] #[]) #[v14]) w fun v15 w =>
 K v15 w) w
theorem F20_eq (t0 t1 : Value) : funE P ⟨[(1, 1009)], [], []⟩ Tryz.f20 [t0, t1] w K = F20 P w K t0 t1 := by kernel_rfl
theorem F20_ok (t0 t1 : Value) (h : F20 Tryz.prog w K t0 t1) : callsK Tryz.prog 20 #[t0, t1] w K := calls_of_eq mixedX Tryz.func20 (F20_eq _ w K t0 t1) h
def F22 (t0 : Value) : Prop :=
 kV P (Instr.alloc 35 true (.tuple #[])) w fun v2 w =>
 kV P (binV .lss 3 (.tmp 4) (.const (.int .i64 1)) t0 (.int .i64 1)) w fun v5 w =>
 joinK (fun J0 : Value -> World -> Prop => gdK (yb v5) false (fun k => k t0 w) w fun v7 w =>
 gdK (yb v5) false (fun k => kV P (binV .gtr 3 (.tmp 7) (.const (.int .i64 64)) v7 (.int .i64 64)) w k) w fun v8 w =>
 kN P (pickN v5 (.bool true) v8) w fun v9_1 w =>
 J0 v9_1 w) fun v9 w =>
 condK v9
 (kV P (Instr.build 35 #[]) w fun v10 w =>
 kU P (Instr.storeAt 35 v2 v10) w fun _ w =>
 retV P 35 v2 w fun r1 =>
 K (.tuple #[r1, (.int .i64 2)]) w)
 (kV P (Instr.build 35 #[(0, t0)]) w fun v12 w =>
 kU P (Instr.storeAt 35 v2 v12) w fun _ w =>
 retV P 35 v2 w fun r2 =>
 K (.tuple #[r2, (.int .i64 0)]) w)
theorem F22_eq (t0 : Value) : funE P ⟨[], [], []⟩ Tryz.f22 [t0] w K = F22 P w K t0 := by kernel_rfl
theorem F22_ok (t0 : Value) (h : F22 Tryz.prog w K t0) : callsK Tryz.prog 22 #[t0] w K := calls_of_eq mixedX Tryz.func22 (F22_eq _ w K t0) h
def F24 (t0 t1 t2 t3 : Value) : Prop :=
 kV P (Instr.box 35 t0) w fun v4 w =>
 kV P (Instr.alloc 35 true (.tuple #[])) w fun v8 w =>
 kV P (Instr.loadAt 35 v4) w fun v11 w =>
 kN P (callN (.func (.func 58) #[] #[]) #[v11, t1, t2]) w fun v14 w =>
 kV P (Op.unary .not v14) w fun v15 w =>
 condK v15
 (kV P (Instr.loadAt 35 v4) w fun v16 w =>
 kU P (Instr.storeAt 35 v8 v16) w fun _ w =>
 retV P 35 v8 w fun r0 =>
 K (.tuple #[r0, (.int .i64 2)]) w)
 (loopT (fun R1 s1 w => ∀ _ : Nat -> Value,
 kV P (binV .lss 3 (.tmp 17) (.tmp 18) (s1.getD 0 undef) t2) w fun v19 w =>
 condK v19
 (kV P (Instr.loadAt 35 v4) w fun v22 w =>
 kV P (convert 3 22 (s1.getD 0 undef)) w fun v25 w =>
 kV P (binV .add 22 (.tmp 23) (.tmp 25) t1 v25) w fun v26 w =>
 kV P (binV .mul 3 (.const (.int .i64 8)) (.tmp 28) (.int .i64 8) (s1.getD 0 undef)) w fun v29 w =>
 kV P (convert 3 151 v29) w fun v30 w =>
 kV P (binV .shr 22 (.tmp 27) (.tmp 30) t3 v30) w fun v31 w =>
 kV P (convert 22 5 v31) w fun v32 w =>
 kN P (callN (.func (.func 59) #[] #[]) #[v22, v26, v32]) w fun v33 w =>
 kU P (Instr.storeAt 35 v4 v33) w fun _ w =>
 kV P (binV .add 3 (.tmp 20) (.const (.int .i64 1)) (s1.getD 0 undef) (.int .i64 1)) w fun v21 w =>
 R1 [v21] w)
 (kV P (Instr.loadAt 35 v4) w fun v34 w =>
 kU P (Instr.storeAt 35 v8 v34) w fun _ w =>
 retV P 35 v8 w fun r3 =>
 K (.tuple #[r3, (.int .i64 0)]) w)) [(.int .i64 0)] w)
theorem F24_eq (t0 t1 t2 t3 : Value) : funE P ⟨[], [(4, [10])], []⟩ Tryz.f24 [t0, t1, t2, t3] w K = F24 P w K t0 t1 t2 t3 := by kernel_rfl
theorem F24_ok (t0 t1 t2 t3 : Value) (h : F24 Tryz.prog w K t0 t1 t2 t3) : callsK Tryz.prog 24 #[t0, t1, t2, t3] w K := calls_of_eq mixedX Tryz.func24 (F24_eq _ w K t0 t1 t2 t3) h
def F27 (t0 : Value) : Prop :=
 kV P (binV .geq 3 (.tmp 3) (.const (.int .i64 1)) t0 (.int .i64 1)) w fun v4 w =>
 joinK (fun J0 : Value -> World -> Prop => gdK (yb v4) true (fun k => k t0 w) w fun v6 w =>
 gdK (yb v4) true (fun k => kV P (binV .lss 3 (.tmp 6) (.const (.int .i64 32)) v6 (.int .i64 32)) w k) w fun v7 w =>
 kN P (pickN v4 v7 (.bool false)) w fun v8_1 w =>
 J0 v8_1 w) fun v8 w =>
 K v8 w
theorem F27_eq (t0 : Value) : funE P ⟨[], [], []⟩ Tryz.f27 [t0] w K = F27 P w K t0 := by kernel_rfl
theorem F27_ok (t0 : Value) (h : F27 Tryz.prog w K t0) : callsK Tryz.prog 27 #[t0] w K := calls_of_eq mixedX Tryz.func27 (F27_eq _ w K t0) h
def F28 (t0 : Value) : Prop :=
 kV P (Instr.box 42 t0) w fun v1 w =>
 kV P (Instr.alloc 42 true (.tuple #[])) w fun v2 w =>
 kV P (Instr.fieldAt 42 v1 1) w fun v3 w =>
 kV P (Instr.loadAt 24 v3) w fun v4 w =>
 kN P (callN (.func (.func 16) #[] #[]) #[v4, (.int .u64 4)]) w fun v5 w =>
 kV P (Instr.fieldAt 42 v1 1) w fun v6 w =>
 kU P (Instr.storeAt 24 v6 v5) w fun _ w =>
 kV P (Instr.loadAt 42 v1) w fun v7 w =>
 kU P (Instr.storeAt 42 v2 v7) w fun _ w =>
 retV P 42 v2 w fun r0 =>
 K r0 w
theorem F28_eq (t0 : Value) : funE P ⟨[], [], []⟩ Tryz.f28 [t0] w K = F28 P w K t0 := by kernel_rfl
theorem F28_ok (t0 : Value) (h : F28 Tryz.prog w K t0) : callsK Tryz.prog 28 #[t0] w K := calls_of_eq mixedX Tryz.func28 (F28_eq _ w K t0) h
def F29 (t0 t1 t2 : Value) : Prop :=
 kV P (Instr.box 24 t0) w fun v3 w =>
 kV P (Instr.loadAt 24 v3) w fun v8 w =>
 kN P (callN (.func (.func 45) #[] #[]) #[v8]) w fun v9 w =>
 kV P (Instr.alloc 121 true (.tuple #[])) w fun v7 w =>
 kU P (Instr.storeAt 121 v7 v9) w fun _ w =>
 kV P (Instr.fieldAt 121 v7 2) w fun v11 w =>
 kV P (Instr.loadAt 4 v11) w fun v12 w =>
 kV P (Op.unary .not v12) w fun v13 w =>
 condK v13
 (K (.int .i64 1) w)
 (kV P (Instr.loadAt 121 v7) w fun v15 w =>
 kN P (callN (.func (.func 64) #[] #[]) #[v15]) w fun v16 w =>
 kV P (Op.unary .not v16) w fun v17 w =>
 condK v17
 (K (.int .i64 2) w)
 (drewK (fun w =>
 sN P (callN (.func (.func 66) #[] #[]) #[t1]) w fun v20 =>
 sV P (Instr.fieldAt 121 v7 1) w fun v21 =>
 sV P (Instr.fieldAt 28 v21 1) w fun v22 =>
 sV P (Instr.loadAt 22 v22) w fun v23 =>
 sN P (callN (.func (.func 65) #[] #[]) #[v20, v23]) w fun v24 =>
 sV P (Op.unary .not v24) w fun v25 =>
 condK v25
 (K (.int .i64 3) w)
 (kV P (Instr.fieldAt 24 v3 2) w fun v27 w =>
 kV P (Instr.loadAt 22 v27) w fun v28 w =>
 kV P (Instr.fieldAt 121 v7 1) w fun v30 w =>
 kV P (Instr.fieldAt 28 v30 0) w fun v31 w =>
 kV P (Instr.fieldAt 26 v31 0) w fun v32 w =>
 kV P (Instr.loadAt 22 v32) w fun v33 w =>
 kV P (Instr.fieldAt 121 v7 1) w fun v34 w =>
 kV P (Instr.fieldAt 28 v34 0) w fun v35 w =>
 kV P (Instr.fieldAt 26 v35 1) w fun v36 w =>
 kV P (Instr.loadAt 22 v36) w fun v37 w =>
 kN P (callN (.func (.func 67) #[] #[]) #[v28, t2, v33, v37]) w fun v38 w =>
 kV P (Op.unary .not v38) w fun v39 w =>
 condK v39
 (K (.int .i64 4) w)
 (K (.int .i64 0) w))) w))
theorem F29_eq (t0 t1 t2 : Value) : funE P ⟨[], [], []⟩ Tryz.f29 [t0, t1, t2] w K = F29 P w K t0 t1 t2 := by kernel_rfl
theorem F29_ok (t0 t1 t2 : Value) (h : F29 Tryz.prog w K t0 t1 t2) : callsK Tryz.prog 29 #[t0, t1, t2] w K := calls_of_eq mixedX Tryz.func29 (F29_eq _ w K t0 t1 t2) h
def F30 (t0 t1 t2 t3 : Value) : Prop :=
 kV P (Instr.alloc 42 true (.tuple #[])) w fun v8 w =>
 kV P (Instr.alloc 51 true (.tuple #[])) w fun v9 w =>
 drewK (fun w =>
 relX fun R0 =>
 postX R0 (fun p0_10 => allX R0 w fun V0 w => True -> (okX R0 w p0_10) t0 w) fun p0_10 =>
 postX R0 (fun p0_11 => allX R0 w fun V0 w => p0_10 (V0 10) w /\ True -> kN P (nilN (V0 10)) w (okX R0 w p0_11)) fun p0_11 =>
 postX R0 (fun p0_12 => allX R0 w fun V0 w => p0_11 (V0 11) w /\ True -> kV P (Instr.fieldAt 91 (V0 11) 1) w (okX R0 w p0_12)) fun p0_12 =>
 postX R0 (fun p0_13 => allX R0 w fun V0 w => p0_12 (V0 12) w /\ True -> kV P (Instr.loadAt 42 (V0 12)) w (okX R0 w p0_13)) fun p0_13 =>
 postX R0 (fun p0_14 => allX R0 w fun V0 w => True -> (okX R0 w p0_14) t1 w) fun p0_14 =>
 postX R0 (fun p0_15 => allX R0 w fun V0 w => True -> (okX R0 w p0_15) t2 w) fun p0_15 =>
 postX R0 (fun p0_16 => allX R0 w fun V0 w => True -> (okX R0 w p0_16) t3 w) fun p0_16 =>
 postX R0 (fun p0_17 => allX R0 w fun V0 w => True -> (okX R0 w p0_17) t0 w) fun p0_17 =>
 postX R0 (fun p0_18 => allX R0 w fun V0 w => p0_17 (V0 17) w /\ True -> kN P (nilN (V0 17)) w (okX R0 w p0_18)) fun p0_18 =>
 postX R0 (fun p0_19 => allX R0 w fun V0 w => p0_18 (V0 18) w /\ True -> kV P (Instr.fieldAt 91 (V0 18) 3) w (okX R0 w p0_19)) fun p0_19 =>
 postX R0 (fun p0_20 => allX R0 w fun V0 w => p0_19 (V0 19) w /\ True -> kV P (Instr.loadAt 49 (V0 19)) w (okX R0 w p0_20)) fun p0_20 =>
 postX R0 (fun p0_21 => allX R0 w fun V0 w => p0_14 (V0 14) w /\ p0_15 (V0 15) w /\ p0_16 (V0 16) w /\ p0_20 (V0 20) w /\ True -> kV P (Instr.build 51 #[(0, (V0 14)), (1, (V0 15)), (2, (V0 16)), (3, (V0 20))]) w (okX R0 w p0_21)) fun p0_21 =>
 postX R0 (fun p0_n12 => allX R0 w fun V0 w => p0_10 (V0 10) w /\ p0_11 (V0 11) w /\ p0_12 (V0 12) w /\ p0_13 (V0 13) w /\ True -> kU P (Instr.storeAt 42 v8 (V0 13)) w (okX R0 w p0_n12)) fun p0_n12 =>
 allX R0 w fun V0 w => p0_10 (V0 10) w /\ p0_11 (V0 11) w /\ p0_12 (V0 12) w /\ p0_13 (V0 13) w /\ p0_14 (V0 14) w /\ p0_15 (V0 15) w /\ p0_16 (V0 16) w /\ p0_17 (V0 17) w /\ p0_18 (V0 18) w /\ p0_19 (V0 19) w /\ p0_20 (V0 20) w /\ p0_21 (V0 21) w /\ (∃ u, p0_n12 u w) /\ True -> xDist V0 [] ->
 kU P (Instr.storeAt 51 v9 (V0 21)) w fun _ w =>
 retV P 42 v8 w fun r1 =>
 retV P 51 v9 w fun r2 =>
 K (.tuple #[r1, r2]) w) w
theorem F30_eq (t0 t1 t2 t3 : Value) : funE P ⟨[(1, 1013)], [], []⟩ Tryz.f30 [t0, t1, t2, t3] w K = F30 P w K t0 t1 t2 t3 := by kernel_rfl
theorem F30_ok (t0 t1 t2 t3 : Value) (h : F30 Tryz.prog w K t0 t1 t2 t3) : callsK Tryz.prog 30 #[t0, t1, t2, t3] w K := calls_of_eq mixedX Tryz.func30 (F30_eq _ w K t0 t1 t2 t3) h
def F31 (t0 : Value) : Prop :=
 kV P (Instr.alloc 49 true (.tuple #[])) w fun v2 w =>
 kV P (convert 38 22 t0) w fun v14 w =>
 kN P (callN (.func (.func 68) #[] #[]) #[]) w fun v15 w =>
 loopT (fun R0 s0 w => ∀ _ : Nat -> Value,
 kV P (binV .lss 3 (.tmp 16) (.const (.int .i64 69)) (s0.getD 0 undef) (.int .i64 69)) w fun v17 w =>
 condK v17
 (kV P (Instr.index 160 v15 (s0.getD 0 undef)) w fun v19 w =>
 kV P (Instr.alloc 101 true (.tuple #[])) w fun v6 w =>
 kU P (Instr.storeAt 101 v6 v19) w fun _ w =>
 kV P (Instr.loadAt 101 v6) w fun v21 w =>
 kN P (callN (.func (.func 37) #[] #[]) #[v21]) w fun v22 w =>
 kV P (Instr.extract v22 0) w fun v23 w =>
 kV P (Instr.extract v22 1) w fun v24 w =>
 kV P (binV .and 22 (.tmp 25) (.tmp 26) v14 v24) w fun v27 w =>
 kV P (binV .neq 22 (.tmp 27) (.tmp 28) v27 v23) w fun v29 w =>
 condK v29
 (kV P (binV .add 3 (.tmp 16) (.const (.int .i64 1)) (s0.getD 0 undef) (.int .i64 1)) w fun v61 w =>
 R0 [v61] w)
 (kV P (binV .add 3 (.tmp 30) (.const (.int .i64 1)) (s0.getD 0 undef) (.int .i64 1)) w fun v31 w =>
 kV P (Instr.fieldAt 101 v6 1) w fun v32 w =>
 kV P (Instr.loadAt 5 v32) w fun v33 w =>
 kN P (callN (.func (.func 35) #[] #[]) #[v33]) w fun v34 w =>
 kN P (callN (.func (.func 69) #[] #[]) #[v34, v14]) w fun v36 w =>
 kV P (Instr.build 49 #[(0, v31), (4, v36)]) w fun v37 w =>
 kV P (Instr.alloc 49 true (.tuple #[])) w fun v9 w =>
 kU P (Instr.storeAt 49 v9 v37) w fun _ w =>
 kV P (Instr.fieldAt 101 v6 1) w fun v39 w =>
 kV P (Instr.loadAt 5 v39) w fun v40 w =>
 kN P (callN (.func (.func 38) #[] #[]) #[v40]) w fun v41 w =>
 kV P (Instr.extract v41 0) w fun v42 w =>
 kV P (Instr.extract v41 1) w fun v43 w =>
 kV P (Instr.extract v41 2) w fun v44 w =>
 joinL (fun J2 =>
 condK v42
 (kN P (callN (.func (.func 43) #[] #[]) #[v14, (.int .i64 7), (.int .i64 5)]) w fun v47 w =>
 kV P (convert 22 3 v47) w fun v48 w =>
 kV P (Instr.fieldAt 49 v9 1) w fun v49 w =>
 kU P (Instr.storeAt 3 v49 v48) w fun _ w =>
 J2 [] w)
 (J2 [] w)) fun s2 w => ∀ _ : Nat -> Value,
 joinL (fun J4 =>
 condK v43
 (kN P (callN (.func (.func 43) #[] #[]) #[v14, (.int .i64 15), (.int .i64 5)]) w fun v52 w =>
 kV P (convert 22 3 v52) w fun v53 w =>
 kV P (Instr.fieldAt 49 v9 2) w fun v54 w =>
 kU P (Instr.storeAt 3 v54 v53) w fun _ w =>
 J4 [] w)
 (J4 [] w)) fun s4 w => ∀ _ : Nat -> Value,
 joinL (fun J6 =>
 condK v44
 (kN P (callN (.func (.func 43) #[] #[]) #[v14, (.int .i64 20), (.int .i64 5)]) w fun v57 w =>
 kV P (convert 22 3 v57) w fun v58 w =>
 kV P (Instr.fieldAt 49 v9 3) w fun v59 w =>
 kU P (Instr.storeAt 3 v59 v58) w fun _ w =>
 J6 [] w)
 (J6 [] w)) fun s6 w => ∀ _ : Nat -> Value,
 kV P (Instr.loadAt 49 v9) w fun v60 w =>
 kU P (Instr.storeAt 49 v2 v60) w fun _ w =>
 retV P 49 v2 w fun r8 =>
 K (.tuple #[r8, (.bool true)]) w))
 (kV P (Instr.build 49 #[]) w fun v62 w =>
 kU P (Instr.storeAt 49 v2 v62) w fun _ w =>
 retV P 49 v2 w fun r9 =>
 K (.tuple #[r9, (.bool false)]) w)) [(.int .i64 0)] w
theorem F31_eq (t0 : Value) : funE P ⟨[], [(3, [16])], [(11, []), (13, []), (15, [])]⟩ Tryz.f31 [t0] w K = F31 P w K t0 := by kernel_rfl
theorem F31_ok (t0 : Value) (h : F31 Tryz.prog w K t0) : callsK Tryz.prog 31 #[t0] w K := calls_of_eq mixedX Tryz.func31 (F31_eq _ w K t0) h
def F32 (t0 : Value) : Prop :=
 kV P (Instr.alloc 42 true (.tuple #[])) w fun v2 w =>
 kV P (Instr.alloc 51 true (.tuple #[])) w fun v3 w =>
 kN P (nilN t0) w fun v9 w =>
 kV P (Instr.fieldAt 91 v9 3) w fun v10 w =>
 kV P (Instr.fieldAt 49 v10 0) w fun v11 w =>
 kV P (Instr.loadAt 3 v11) w fun v12 w =>
 kN P (callN (.func (.func 70) #[] #[]) #[v12]) w fun v15 w =>
 condK v15
 (kN P (callN (.func (.func 71) #[] #[]) #[t0]) w fun v17 w =>
 kV P (Instr.extract v17 0) w fun v18 w =>
 kV P (Instr.extract v17 1) w fun v19 w =>
 kU P (Instr.storeAt 42 v2 v18) w fun _ w =>
 kU P (Instr.storeAt 51 v3 v19) w fun _ w =>
 retV P 42 v2 w fun r0 =>
 retV P 51 v3 w fun r1 =>
 K (.tuple #[r0, r1]) w)
 (kN P (callN (.func (.func 72) #[] #[]) #[v12]) w fun v22 w =>
 kV P (binV .gtr 3 (.tmp 22) (.const (.int .i64 0)) v22 (.int .i64 0)) w fun v23 w =>
 condK v23
 (kN P (callN (.func (.func 72) #[] #[]) #[v12]) w fun v26 w =>
 kN P (callN (.func (.func 73) #[] #[]) #[t0, v26]) w fun v27 w =>
 kV P (Instr.extract v27 0) w fun v28 w =>
 kV P (Instr.extract v27 1) w fun v29 w =>
 kU P (Instr.storeAt 42 v2 v28) w fun _ w =>
 kU P (Instr.storeAt 51 v3 v29) w fun _ w =>
 retV P 42 v2 w fun r2 =>
 retV P 51 v3 w fun r3 =>
 K (.tuple #[r2, r3]) w)
 (kV P (binV .eql 3 (.tmp 30) (.const (.int .i64 3)) v12 (.int .i64 3)) w fun v32 w =>
 condK v32
 (joinL (fun J4 =>
 drewK (fun w =>
 relX fun R8 =>
 postX R8 (fun p8_33 => allX R8 w fun V8 w => True -> (okX R8 w p8_33) t0 w) fun p8_33 =>
 postX R8 (fun p8_34 => allX R8 w fun V8 w => True -> (okX R8 w p8_34) t0 w) fun p8_34 =>
 postX R8 (fun p8_35 => allX R8 w fun V8 w => p8_34 (V8 34) w /\ True -> kN P (nilN (V8 34)) w (okX R8 w p8_35)) fun p8_35 =>
 postX R8 (fun p8_36 => allX R8 w fun V8 w => p8_35 (V8 35) w /\ True -> kV P (Instr.fieldAt 91 (V8 35) 1) w (okX R8 w p8_36)) fun p8_36 =>
 postX R8 (fun p8_37 => allX R8 w fun V8 w => p8_36 (V8 36) w /\ True -> kV P (Instr.fieldAt 42 (V8 36) 1) w (okX R8 w p8_37)) fun p8_37 =>
 postX R8 (fun p8_38 => allX R8 w fun V8 w => p8_37 (V8 37) w /\ True -> kV P (Instr.loadAt 24 (V8 37)) w (okX R8 w p8_38)) fun p8_38 =>
 postX R8 (fun p8_39 => allX R8 w fun V8 w => True -> (okX R8 w p8_39) t0 w) fun p8_39 =>
 postX R8 (fun p8_40 => allX R8 w fun V8 w => p8_39 (V8 39) w /\ True -> kN P (nilN (V8 39)) w (okX R8 w p8_40)) fun p8_40 =>
 postX R8 (fun p8_41 => allX R8 w fun V8 w => p8_40 (V8 40) w /\ True -> kV P (Instr.fieldAt 91 (V8 40) 3) w (okX R8 w p8_41)) fun p8_41 =>
 postX R8 (fun p8_42 => allX R8 w fun V8 w => p8_41 (V8 41) w /\ True -> kV P (Instr.fieldAt 49 (V8 41) 4) w (okX R8 w p8_42)) fun p8_42 =>
 postX R8 (fun p8_43 => allX R8 w fun V8 w => p8_42 (V8 42) w /\ True -> kV P (Instr.loadAt 2 (V8 42)) w (okX R8 w p8_43)) fun p8_43 =>
 postX R8 (fun p8_44 => allX R8 w fun V8 w => p8_43 (V8 43) w /\ True -> kV P (convert 2 22 (V8 43)) w (okX R8 w p8_44)) fun p8_44 =>
 postX R8 (fun p8_45 => allX R8 w fun V8 w => p8_38 (V8 38) w /\ p8_44 (V8 44) w /\ True -> kN P (callN (.func (.func 16) #[] #[]) #[(V8 38), (V8 44)]) w (okX R8 w p8_45)) fun p8_45 =>
 allX R8 w fun V8 w => p8_33 (V8 33) w /\ p8_34 (V8 34) w /\ p8_35 (V8 35) w /\ p8_36 (V8 36) w /\ p8_37 (V8 37) w /\ p8_38 (V8 38) w /\ p8_39 (V8 39) w /\ p8_40 (V8 40) w /\ p8_41 (V8 41) w /\ p8_42 (V8 42) w /\ p8_43 (V8 43) w /\ p8_44 (V8 44) w /\ p8_45 (V8 45) w /\ True -> xDist V8 [] ->
 kN P (nilN (V8 33)) w fun v46 w =>
 kV P (Instr.fieldAt 91 v46 0) w fun v47 w =>
 kV P (Instr.fieldAt 42 v47 1) w fun v48 w =>
 kU P (Instr.storeAt 24 v48 (V8 45)) w fun _ w =>
 J4 [] w) w) fun s4 w => ∀ _ : Nat -> Value,
 kN P (nilN t0) w fun v51 w =>
 kV P (Instr.fieldAt 91 v51 1) w fun v52 w =>
 kV P (Instr.loadAt 42 v52) w fun v53 w =>
 kN P (callN (.func (.func 28) #[] #[]) #[v53]) w fun v54 w =>
 kV P (Instr.field 42 v54 1) w fun v55 w =>
 kN P (callN (.func (.func 75) #[] #[]) #[v55]) w fun v56 w =>
 kN P (callN (.func (.func 74) #[] #[]) #[t0, v56]) w fun v57 w =>
 kV P (Instr.extract v57 0) w fun v58 w =>
 kV P (Instr.extract v57 1) w fun v59 w =>
 kU P (Instr.storeAt 42 v2 v58) w fun _ w =>
 kU P (Instr.storeAt 51 v3 v59) w fun _ w =>
 retV P 42 v2 w fun r6 =>
 retV P 51 v3 w fun r7 =>
 K (.tuple #[r6, r7]) w)
 (kV P (binV .eql 3 (.tmp 30) (.const (.int .i64 4)) v12 (.int .i64 4)) w fun v61 w =>
 condK v61
 (kN P (callN (.func (.func 76) #[] #[]) #[t0]) w fun v63 w =>
 kV P (Instr.extract v63 0) w fun v64 w =>
 kV P (Instr.extract v63 1) w fun v65 w =>
 kU P (Instr.storeAt 42 v2 v64) w fun _ w =>
 kU P (Instr.storeAt 51 v3 v65) w fun _ w =>
 retV P 42 v2 w fun r9 =>
 retV P 51 v3 w fun r10 =>
 K (.tuple #[r9, r10]) w)
 (kV P (binV .eql 3 (.tmp 30) (.const (.int .i64 1)) v12 (.int .i64 1)) w fun v67 w =>
 condK v67
 (kN P (nilN t0) w fun v70 w =>
 kV P (Instr.fieldAt 91 v70 3) w fun v71 w =>
 kV P (Instr.fieldAt 49 v71 4) w fun v72 w =>
 kV P (Instr.loadAt 2 v72) w fun v73 w =>
 kV P (convert 2 22 v73) w fun v74 w =>
 kN P (callN (.func (.func 77) #[] #[]) #[t0, v74]) w fun v75 w =>
 kV P (Instr.extract v75 0) w fun v76 w =>
 kV P (Instr.extract v75 1) w fun v77 w =>
 kU P (Instr.storeAt 42 v2 v76) w fun _ w =>
 kU P (Instr.storeAt 51 v3 v77) w fun _ w =>
 retV P 42 v2 w fun r11 =>
 retV P 51 v3 w fun r12 =>
 K (.tuple #[r11, r12]) w)
 (kV P (binV .eql 3 (.tmp 30) (.const (.int .i64 2)) v12 (.int .i64 2)) w fun v79 w =>
 condK v79
 (drewK (fun w =>
 relX fun R13 =>
 postX R13 (fun p13_80 => allX R13 w fun V13 w => True -> (okX R13 w p13_80) t0 w) fun p13_80 =>
 postX R13 (fun p13_81 => allX R13 w fun V13 w => True -> (okX R13 w p13_81) t0 w) fun p13_81 =>
 postX R13 (fun p13_82 => allX R13 w fun V13 w => p13_81 (V13 81) w /\ True -> kN P (nilN (V13 81)) w (okX R13 w p13_82)) fun p13_82 =>
 postX R13 (fun p13_83 => allX R13 w fun V13 w => p13_82 (V13 82) w /\ True -> kV P (Instr.fieldAt 91 (V13 82) 1) w (okX R13 w p13_83)) fun p13_83 =>
 postX R13 (fun p13_84 => allX R13 w fun V13 w => p13_83 (V13 83) w /\ True -> kV P (Instr.fieldAt 42 (V13 83) 1) w (okX R13 w p13_84)) fun p13_84 =>
 postX R13 (fun p13_85 => allX R13 w fun V13 w => p13_84 (V13 84) w /\ True -> kV P (Instr.loadAt 24 (V13 84)) w (okX R13 w p13_85)) fun p13_85 =>
 postX R13 (fun p13_86 => allX R13 w fun V13 w => True -> (okX R13 w p13_86) t0 w) fun p13_86 =>
 postX R13 (fun p13_87 => allX R13 w fun V13 w => p13_86 (V13 86) w /\ True -> kN P (nilN (V13 86)) w (okX R13 w p13_87)) fun p13_87 =>
 postX R13 (fun p13_88 => allX R13 w fun V13 w => p13_87 (V13 87) w /\ True -> kV P (Instr.fieldAt 91 (V13 87) 3) w (okX R13 w p13_88)) fun p13_88 =>
 postX R13 (fun p13_89 => allX R13 w fun V13 w => p13_88 (V13 88) w /\ True -> kV P (Instr.fieldAt 49 (V13 88) 4) w (okX R13 w p13_89)) fun p13_89 =>
 postX R13 (fun p13_90 => allX R13 w fun V13 w => p13_89 (V13 89) w /\ True -> kV P (Instr.loadAt 2 (V13 89)) w (okX R13 w p13_90)) fun p13_90 =>
 postX R13 (fun p13_91 => allX R13 w fun V13 w => p13_90 (V13 90) w /\ True -> kV P (convert 2 22 (V13 90)) w (okX R13 w p13_91)) fun p13_91 =>
 postX R13 (fun p13_92 => allX R13 w fun V13 w => p13_85 (V13 85) w /\ p13_91 (V13 91) w /\ True -> kN P (callN (.func (.func 16) #[] #[]) #[(V13 85), (V13 91)]) w (okX R13 w p13_92)) fun p13_92 =>
 postX R13 (fun p13_93 => allX R13 w fun V13 w => p13_80 (V13 80) w /\ p13_92 (V13 92) w /\ True -> kN P (callN (.func (.func 74) #[] #[]) #[(V13 80), (V13 92)]) w (okX R13 w p13_93)) fun p13_93 =>
 postX R13 (fun p13_94 => allX R13 w fun V13 w => p13_93 (V13 93) w /\ True -> kV P (Instr.extract (V13 93) 0) w (okX R13 w p13_94)) fun p13_94 =>
 postX R13 (fun p13_95 => allX R13 w fun V13 w => p13_93 (V13 93) w /\ True -> kV P (Instr.extract (V13 93) 1) w (okX R13 w p13_95)) fun p13_95 =>
 allX R13 w fun V13 w => p13_80 (V13 80) w /\ p13_81 (V13 81) w /\ p13_82 (V13 82) w /\ p13_83 (V13 83) w /\ p13_84 (V13 84) w /\ p13_85 (V13 85) w /\ p13_86 (V13 86) w /\ p13_87 (V13 87) w /\ p13_88 (V13 88) w /\ p13_89 (V13 89) w /\ p13_90 (V13 90) w /\ p13_91 (V13 91) w /\ p13_92 (V13 92) w /\ p13_93 (V13 93) w /\ p13_94 (V13 94) w /\ p13_95 (V13 95) w /\ True -> xDist V13 [] ->
 kU P (Instr.storeAt 42 v2 (V13 94)) w fun _ w =>
 kU P (Instr.storeAt 51 v3 (V13 95)) w fun _ w =>
 retV P 42 v2 w fun r14 =>
 retV P 51 v3 w fun r15 =>
 K (.tuple #[r14, r15]) w) w)
 (kV P (binV .eql 3 (.tmp 30) (.const (.int .i64 41)) v12 (.int .i64 41)) w fun v97 w =>
 condK v97
 (kN P (nilN t0) w fun v100 w =>
 kV P (Instr.fieldAt 91 v100 1) w fun v101 w =>
 kV P (Instr.fieldAt 42 v101 1) w fun v102 w =>
 kV P (Instr.fieldAt 24 v102 2) w fun v103 w =>
 kV P (Instr.loadAt 22 v103) w fun v104 w =>
 kN P (callN (.func (.func 30) #[] #[]) #[t0, (.int .i64 2), (.int .i64 0), v104]) w fun v105 w =>
 kV P (Instr.extract v105 0) w fun v106 w =>
 kV P (Instr.extract v105 1) w fun v107 w =>
 kU P (Instr.storeAt 42 v2 v106) w fun _ w =>
 kU P (Instr.storeAt 51 v3 v107) w fun _ w =>
 retV P 42 v2 w fun r16 =>
 retV P 51 v3 w fun r17 =>
 K (.tuple #[r16, r17]) w)
 (kV P (binV .eql 3 (.tmp 30) (.const (.int .i64 42)) v12 (.int .i64 42)) w fun v109 w =>
 condK v109
 (kN P (nilN t0) w fun v112 w =>
 kV P (Instr.fieldAt 91 v112 1) w fun v113 w =>
 kV P (Instr.fieldAt 42 v113 1) w fun v114 w =>
 kV P (Instr.fieldAt 24 v114 2) w fun v115 w =>
 kV P (Instr.loadAt 22 v115) w fun v116 w =>
 kN P (callN (.func (.func 30) #[] #[]) #[t0, (.int .i64 3), (.int .i64 0), v116]) w fun v117 w =>
 kV P (Instr.extract v117 0) w fun v118 w =>
 kV P (Instr.extract v117 1) w fun v119 w =>
 kU P (Instr.storeAt 42 v2 v118) w fun _ w =>
 kU P (Instr.storeAt 51 v3 v119) w fun _ w =>
 retV P 42 v2 w fun r18 =>
 retV P 51 v3 w fun r19 =>
 K (.tuple #[r18, r19]) w)
 (kN P (nilN t0) w fun v121 w =>
 kV P (Instr.fieldAt 91 v121 5) w fun v122 w =>
 kV P (Instr.fieldAt 24 v122 2) w fun v123 w =>
 kV P (Instr.loadAt 22 v123) w fun v124 w =>
 joinL (fun J20 =>
 kN P (callN (.func (.func 78) #[] #[]) #[v12]) w fun v126 w =>
 condK v126
 (kN P (nilN t0) w fun v128 w =>
 kV P (Instr.fieldAt 91 v128 3) w fun v129 w =>
 kV P (Instr.fieldAt 49 v129 4) w fun v130 w =>
 kV P (Instr.loadAt 2 v130) w fun v131 w =>
 kV P (convert 2 22 v131) w fun v132 w =>
 J20 [v132] w)
 (J20 [v124] w)) fun s20 w => ∀ _ : Nat -> Value,
 kN P (nilN t0) w fun v136 w =>
 kV P (Instr.fieldAt 91 v136 4) w fun v137 w =>
 kV P (Instr.fieldAt 24 v137 2) w fun v138 w =>
 kV P (Instr.loadAt 22 v138) w fun v139 w =>
 kN P (callN (.func (.func 79) #[] #[]) #[v12, v139, (s20.getD 0 undef)]) w fun v141 w =>
 kV P (Instr.extract v141 0) w fun v142 w =>
 kV P (Instr.extract v141 1) w fun v143 w =>
 condK v143
 (kN P (callN (.func (.func 77) #[] #[]) #[t0, v142]) w fun v147 w =>
 kV P (Instr.extract v147 0) w fun v148 w =>
 kV P (Instr.extract v147 1) w fun v149 w =>
 kU P (Instr.storeAt 42 v2 v148) w fun _ w =>
 kU P (Instr.storeAt 51 v3 v149) w fun _ w =>
 retV P 42 v2 w fun r22 =>
 retV P 51 v3 w fun r23 =>
 K (.tuple #[r22, r23]) w)
 (kN P (callN (.func (.func 80) #[] #[]) #[t0]) w fun v151 w =>
 kV P (Instr.extract v151 0) w fun v152 w =>
 kV P (Instr.extract v151 1) w fun v153 w =>
 kU P (Instr.storeAt 42 v2 v152) w fun _ w =>
 kU P (Instr.storeAt 51 v3 v153) w fun _ w =>
 retV P 42 v2 w fun r24 =>
 retV P 51 v3 w fun r25 =>
 K (.tuple #[r24, r25]) w)))))))))
theorem F32_eq (t0 : Value) : funE P ⟨[(15, 1016), (8, 1013)], [], [(23, [5]), (9, [])]⟩ Tryz.f32 [t0] w K = F32 P w K t0 := by kernel_rfl
theorem F32_ok (t0 : Value) (h : F32 Tryz.prog w K t0) : callsK Tryz.prog 32 #[t0] w K := calls_of_eq mixedX Tryz.func32 (F32_eq _ w K t0) h
def F33 (t0 : Value) : Prop :=
 kV P (Instr.alloc 24 true (.tuple #[])) w fun v2 w =>
 kV P (Instr.build 24 #[(2, t0)]) w fun v4 w =>
 kU P (Instr.storeAt 24 v2 v4) w fun _ w =>
 retV P 24 v2 w fun r0 =>
 K r0 w
theorem F33_eq (t0 : Value) : funE P ⟨[], [], []⟩ Tryz.f33 [t0] w K = F33 P w K t0 := by kernel_rfl
theorem F33_ok (t0 : Value) (h : F33 Tryz.prog w K t0) : callsK Tryz.prog 33 #[t0] w K := calls_of_eq mixedX Tryz.func33 (F33_eq _ w K t0) h
def F35 (t0 : Value) : Prop :=
 kV P (Instr.alloc 106 true (.tuple #[])) w fun v2 w =>
 joinL (fun J0 =>
 kV P (binV .eql 5 (.tmp 3) (.const (.int .u8 73)) t0 (.int .u8 73)) w fun v5 w =>
 condK v5
 (J0 [v5] w)
 (kV P (binV .eql 5 (.tmp 3) (.const (.int .u8 67)) t0 (.int .u8 67)) w fun v6 w =>
 J0 [v6] w)) fun s0 w => ∀ _ : Nat -> Value,
 condK (s0.getD 0 undef)
 (kV P (Instr.build 169 #[(0, (.int .i64 0)), (1, (.int .i64 12)), (2, (.int .i64 20))]) w fun v7 w =>
 kV P (Instr.buildSlice 104 1 #[(0, v7)]) w fun v8 w =>
 kV P (binV .eql 5 (.tmp 9) (.const (.int .u8 73)) t0 (.int .u8 73)) w fun v10 w =>
 kV P (Instr.build 106 #[(0, v8), (1, (.int .i64 12)), (2, v10), (3, (.int .i64 0))]) w fun v11 w =>
 kU P (Instr.storeAt 106 v2 v11) w fun _ w =>
 retV P 106 v2 w fun r2 =>
 K r2 w)
 (kV P (binV .eql 5 (.tmp 3) (.const (.int .u8 72)) t0 (.int .u8 72)) w fun v13 w =>
 condK v13
 (kV P (Instr.build 169 #[(0, (.int .i64 0)), (1, (.int .i64 6)), (2, (.int .i64 20))]) w fun v14 w =>
 kV P (Instr.buildSlice 104 1 #[(0, v14)]) w fun v15 w =>
 kV P (Instr.build 106 #[(0, v15), (1, (.int .i64 6)), (2, (.bool false)), (3, (.int .i64 0))]) w fun v16 w =>
 kU P (Instr.storeAt 106 v2 v16) w fun _ w =>
 retV P 106 v2 w fun r3 =>
 K r3 w)
 (kV P (binV .eql 5 (.tmp 3) (.const (.int .u8 83)) t0 (.int .u8 83)) w fun v18 w =>
 condK v18
 (kV P (Instr.build 169 #[(0, (.int .i64 0)), (1, (.int .i64 5)), (2, (.int .i64 7))]) w fun v19 w =>
 kV P (Instr.build 169 #[(0, (.int .i64 5)), (1, (.int .i64 7)), (2, (.int .i64 25))]) w fun v20 w =>
 kV P (Instr.buildSlice 104 2 #[(0, v19), (1, v20)]) w fun v21 w =>
 kV P (Instr.build 106 #[(0, v21), (1, (.int .i64 12)), (2, (.bool true)), (3, (.int .i64 0))]) w fun v22 w =>
 kU P (Instr.storeAt 106 v2 v22) w fun _ w =>
 retV P 106 v2 w fun r4 =>
 K r4 w)
 (kV P (binV .eql 5 (.tmp 3) (.const (.int .u8 66)) t0 (.int .u8 66)) w fun v24 w =>
 condK v24
 (kV P (Instr.build 169 #[(0, (.int .i64 1)), (1, (.int .i64 4)), (2, (.int .i64 8))]) w fun v25 w =>
 kV P (Instr.build 169 #[(0, (.int .i64 5)), (1, (.int .i64 6)), (2, (.int .i64 25))]) w fun v26 w =>
 kV P (Instr.build 169 #[(0, (.int .i64 11)), (1, (.int .i64 1)), (2, (.int .i64 7))]) w fun v27 w =>
 kV P (Instr.build 169 #[(0, (.int .i64 12)), (1, (.int .i64 1)), (2, (.int .i64 31))]) w fun v28 w =>
 kV P (Instr.buildSlice 104 4 #[(0, v25), (1, v26), (2, v27), (3, v28)]) w fun v29 w =>
 kV P (Instr.build 106 #[(0, v29), (1, (.int .i64 13)), (2, (.bool true)), (3, (.int .i64 1))]) w fun v30 w =>
 kU P (Instr.storeAt 106 v2 v30) w fun _ w =>
 retV P 106 v2 w fun r5 =>
 K r5 w)
 (kV P (binV .eql 5 (.tmp 3) (.const (.int .u8 85)) t0 (.int .u8 85)) w fun v32 w =>
 condK v32
 (kV P (Instr.build 169 #[(0, (.int .i64 12)), (1, (.int .i64 20)), (2, (.int .i64 12))]) w fun v33 w =>
 kV P (Instr.buildSlice 104 1 #[(0, v33)]) w fun v34 w =>
 kV P (Instr.build 106 #[(0, v34), (1, (.int .i64 32)), (2, (.bool true)), (3, (.int .i64 12))]) w fun v35 w =>
 kU P (Instr.storeAt 106 v2 v35) w fun _ w =>
 retV P 106 v2 w fun r6 =>
 K r6 w)
 (kV P (binV .eql 5 (.tmp 3) (.const (.int .u8 74)) t0 (.int .u8 74)) w fun v37 w =>
 condK v37
 (kV P (Instr.build 169 #[(0, (.int .i64 12)), (1, (.int .i64 8)), (2, (.int .i64 12))]) w fun v38 w =>
 kV P (Instr.build 169 #[(0, (.int .i64 11)), (1, (.int .i64 1)), (2, (.int .i64 20))]) w fun v39 w =>
 kV P (Instr.build 169 #[(0, (.int .i64 1)), (1, (.int .i64 10)), (2, (.int .i64 21))]) w fun v40 w =>
 kV P (Instr.build 169 #[(0, (.int .i64 20)), (1, (.int .i64 1)), (2, (.int .i64 31))]) w fun v41 w =>
 kV P (Instr.buildSlice 104 4 #[(0, v38), (1, v39), (2, v40), (3, v41)]) w fun v42 w =>
 kV P (Instr.build 106 #[(0, v42), (1, (.int .i64 21)), (2, (.bool true)), (3, (.int .i64 1))]) w fun v43 w =>
 kU P (Instr.storeAt 106 v2 v43) w fun _ w =>
 retV P 106 v2 w fun r7 =>
 K r7 w)
 (kV P (Instr.build 106 #[]) w fun v44 w =>
 kU P (Instr.storeAt 106 v2 v44) w fun _ w =>
 retV P 106 v2 w fun r8 =>
 K r8 w))))))
theorem F35_eq (t0 : Value) : funE P ⟨[], [], [(4, [4])]⟩ Tryz.f35 [t0] w K = F35 P w K t0 := by kernel_rfl
theorem F35_ok (t0 : Value) (h : F35 Tryz.prog w K t0) : callsK Tryz.prog 35 #[t0] w K := calls_of_eq mixedX Tryz.func35 (F35_eq _ w K t0) h
def F37 (t0 : Value) : Prop :=
 kV P (Instr.box 101 t0) w fun v1 w =>
 kV P (Instr.alloc 22 true (.tuple #[])) w fun v2 w =>
 kV P (Instr.alloc 22 true (.tuple #[])) w fun v3 w =>
 kV P (Instr.fieldAt 101 v1 2) w fun v7 w =>
 kV P (Instr.loadAt 22 v7) w fun v8 w =>
 kN P (callN (.func (.func 82) #[] #[v2, v3]) #[(.int .i64 0), (.int .i64 7), v8]) w fun v9 w =>
 kV P (Instr.fieldAt 101 v1 1) w fun v10 w =>
 kV P (Instr.loadAt 5 v10) w fun v11 w =>
 joinL (fun J0 =>
 kV P (binV .eql 5 (.tmp 11) (.const (.int .u8 85)) v11 (.int .u8 85)) w fun v13 w =>
 condK v13
 (J0 [v13] w)
 (kV P (binV .eql 5 (.tmp 11) (.const (.int .u8 74)) v11 (.int .u8 74)) w fun v14 w =>
 J0 [v14] w)) fun s0 w => ∀ _ : Nat -> Value,
 condK (s0.getD 0 undef)
 (drewK (fun w =>
 relX fun R2 =>
 postX R2 (fun p2_15 => allX R2 w fun V2 w => True -> kV P (Instr.loadAt 22 v2) w (okX R2 w p2_15)) fun p2_15 =>
 postX R2 (fun p2_16 => allX R2 w fun V2 w => True -> kV P (Instr.loadAt 22 v3) w (okX R2 w p2_16)) fun p2_16 =>
 postX R2 (fun p2_n2 => allX R2 w fun V2 w => p2_15 (V2 15) w /\ True -> kU P (Instr.storeAt 22 v2 (V2 15)) w (okX R2 w p2_n2)) fun p2_n2 =>
 allX R2 w fun V2 w => p2_15 (V2 15) w /\ p2_16 (V2 16) w /\ (∃ u, p2_n2 u w) /\ True -> xDist V2 [] ->
 kU P (Instr.storeAt 22 v3 (V2 16)) w fun _ w =>
 retV P 22 v2 w fun r3 =>
 retV P 22 v3 w fun r4 =>
 K (.tuple #[r3, r4]) w) w)
 (kV P (binV .eql 5 (.tmp 11) (.const (.int .u8 78)) v11 (.int .u8 78)) w fun v18 w =>
 condK v18
 (kN P (callN (.func (.func 82) #[] #[v2, v3]) #[(.int .i64 7), (.int .i64 13), (.int .u64 0)]) w fun v20 w =>
 kV P (Instr.fieldAt 101 v1 4) w fun v22 w =>
 kV P (Instr.loadAt 22 v22) w fun v23 w =>
 kN P (callN (.func (.func 82) #[] #[v2, v3]) #[(.int .i64 20), (.int .i64 12), v23]) w fun v24 w =>
 drewK (fun w =>
 relX fun R5 =>
 postX R5 (fun p5_25 => allX R5 w fun V5 w => True -> kV P (Instr.loadAt 22 v2) w (okX R5 w p5_25)) fun p5_25 =>
 postX R5 (fun p5_26 => allX R5 w fun V5 w => True -> kV P (Instr.loadAt 22 v3) w (okX R5 w p5_26)) fun p5_26 =>
 postX R5 (fun p5_n2 => allX R5 w fun V5 w => p5_25 (V5 25) w /\ True -> kU P (Instr.storeAt 22 v2 (V5 25)) w (okX R5 w p5_n2)) fun p5_n2 =>
 allX R5 w fun V5 w => p5_25 (V5 25) w /\ p5_26 (V5 26) w /\ (∃ u, p5_n2 u w) /\ True -> xDist V5 [] ->
 kU P (Instr.storeAt 22 v3 (V5 26)) w fun _ w =>
 retV P 22 v2 w fun r6 =>
 retV P 22 v3 w fun r7 =>
 K (.tuple #[r6, r7]) w) w)
 (kV P (Instr.fieldAt 101 v1 3) w fun v28 w =>
 kV P (Instr.loadAt 22 v28) w fun v29 w =>
 kN P (callN (.func (.func 82) #[] #[v2, v3]) #[(.int .i64 12), (.int .i64 3), v29]) w fun v30 w =>
 joinL (fun J8 =>
 kV P (Instr.fieldAt 101 v1 1) w fun v31 w =>
 kV P (Instr.loadAt 5 v31) w fun v32 w =>
 kV P (binV .eql 5 (.tmp 32) (.const (.int .u8 82)) v32 (.int .u8 82)) w fun v34 w =>
 condK v34
 (kV P (Instr.fieldAt 101 v1 4) w fun v36 w =>
 kV P (Instr.loadAt 22 v36) w fun v37 w =>
 kN P (callN (.func (.func 82) #[] #[v2, v3]) #[(.int .i64 25), (.int .i64 7), v37]) w fun v38 w =>
 J8 [] w)
 (kV P (binV .eql 5 (.tmp 32) (.const (.int .u8 71)) v32 (.int .u8 71)) w fun v40 w =>
 condK v40
 (kV P (Instr.fieldAt 101 v1 4) w fun v42 w =>
 kV P (Instr.loadAt 22 v42) w fun v43 w =>
 kN P (callN (.func (.func 82) #[] #[v2, v3]) #[(.int .i64 20), (.int .i64 5), v43]) w fun v44 w =>
 kN P (callN (.func (.func 82) #[] #[v2, v3]) #[(.int .i64 25), (.int .i64 7), (.int .u64 127)]) w fun v46 w =>
 J8 [] w)
 (kV P (binV .eql 5 (.tmp 32) (.const (.int .u8 72)) v32 (.int .u8 72)) w fun v48 w =>
 condK v48
 (kV P (Instr.fieldAt 101 v1 4) w fun v50 w =>
 kV P (Instr.loadAt 22 v50) w fun v51 w =>
 kN P (callN (.func (.func 82) #[] #[v2, v3]) #[(.int .i64 26), (.int .i64 6), v51]) w fun v52 w =>
 J8 [] w)
 (J8 [] w)))) fun s8 w => ∀ _ : Nat -> Value,
 drewK (fun w =>
 relX fun R10 =>
 postX R10 (fun p10_53 => allX R10 w fun V10 w => True -> kV P (Instr.loadAt 22 v2) w (okX R10 w p10_53)) fun p10_53 =>
 postX R10 (fun p10_54 => allX R10 w fun V10 w => True -> kV P (Instr.loadAt 22 v3) w (okX R10 w p10_54)) fun p10_54 =>
 postX R10 (fun p10_n2 => allX R10 w fun V10 w => p10_53 (V10 53) w /\ True -> kU P (Instr.storeAt 22 v2 (V10 53)) w (okX R10 w p10_n2)) fun p10_n2 =>
 allX R10 w fun V10 w => p10_53 (V10 53) w /\ p10_54 (V10 54) w /\ (∃ u, p10_n2 u w) /\ True -> xDist V10 [] ->
 kU P (Instr.storeAt 22 v3 (V10 54)) w fun _ w =>
 retV P 22 v2 w fun r11 =>
 retV P 22 v3 w fun r12 =>
 K (.tuple #[r11, r12]) w) w))
theorem F37_eq (t0 : Value) : funE P ⟨[(20, 1003), (10, 1003), (6, 1003)], [], [(6, [12]), (20, [])]⟩ Tryz.f37 [t0] w K = F37 P w K t0 := by kernel_rfl
theorem F37_ok (t0 : Value) (h : F37 Tryz.prog w K t0) : callsK Tryz.prog 37 #[t0] w K := calls_of_eq mixedX Tryz.func37 (F37_eq _ w K t0) h
def F38 (t0 : Value) : Prop :=
 kV P (binV .eql 5 (.tmp 5) (.const (.int .u8 82)) t0 (.int .u8 82)) w fun v7 w =>
 condK v7
 (K (.tuple #[(.bool true), (.bool true), (.bool true)]) w)
 (joinL (fun J0 =>
 kV P (binV .eql 5 (.tmp 5) (.const (.int .u8 71)) t0 (.int .u8 71)) w fun v9 w =>
 condK v9
 (J0 [v9] w)
 (kV P (binV .eql 5 (.tmp 5) (.const (.int .u8 73)) t0 (.int .u8 73)) w fun v10 w =>
 condK v10
 (J0 [v10] w)
 (kV P (binV .eql 5 (.tmp 5) (.const (.int .u8 67)) t0 (.int .u8 67)) w fun v11 w =>
 condK v11
 (J0 [v11] w)
 (kV P (binV .eql 5 (.tmp 5) (.const (.int .u8 72)) t0 (.int .u8 72)) w fun v12 w =>
 J0 [v12] w)))) fun s0 w => ∀ _ : Nat -> Value,
 condK (s0.getD 0 undef)
 (K (.tuple #[(.bool true), (.bool true), (.bool false)]) w)
 (joinL (fun J2 =>
 kV P (binV .eql 5 (.tmp 5) (.const (.int .u8 83)) t0 (.int .u8 83)) w fun v14 w =>
 condK v14
 (J2 [v14] w)
 (kV P (binV .eql 5 (.tmp 5) (.const (.int .u8 66)) t0 (.int .u8 66)) w fun v15 w =>
 J2 [v15] w)) fun s2 w => ∀ _ : Nat -> Value,
 condK (s2.getD 0 undef)
 (K (.tuple #[(.bool false), (.bool true), (.bool true)]) w)
 (joinL (fun J4 =>
 kV P (binV .eql 5 (.tmp 5) (.const (.int .u8 85)) t0 (.int .u8 85)) w fun v17 w =>
 condK v17
 (J4 [v17] w)
 (kV P (binV .eql 5 (.tmp 5) (.const (.int .u8 74)) t0 (.int .u8 74)) w fun v18 w =>
 J4 [v18] w)) fun s4 w => ∀ _ : Nat -> Value,
 condK (s4.getD 0 undef)
 (K (.tuple #[(.bool true), (.bool false), (.bool false)]) w)
 (K (.tuple #[(.bool false), (.bool false), (.bool false)]) w))))
theorem F38_eq (t0 : Value) : funE P ⟨[], [], [(8, [8]), (11, [13]), (14, [16])]⟩ Tryz.f38 [t0] w K = F38 P w K t0 := by kernel_rfl
theorem F38_ok (t0 : Value) (h : F38 Tryz.prog w K t0) : callsK Tryz.prog 38 #[t0] w K := calls_of_eq mixedX Tryz.func38 (F38_eq _ w K t0) h
def F44 (t0 t1 : Value) : Prop :=
 kV P (Instr.box 24 t0) w fun v2 w =>
 kV P (Instr.alloc 24 true (.tuple #[])) w fun v4 w =>
 kV P (Instr.loadAt 24 v2) w fun v8 w =>
 kN P (callN (.func (.func 45) #[] #[]) #[v8]) w fun v9 w =>
 kV P (Instr.alloc 121 true (.tuple #[])) w fun v5 w =>
 kU P (Instr.storeAt 121 v5 v9) w fun _ w =>
 kV P (Instr.fieldAt 24 v2 2) w fun v11 w =>
 kU P (Instr.storeAt 22 v11 t1) w fun _ w =>
 kV P (Instr.loadAt 24 v2) w fun v13 w =>
 kN P (callN (.func (.func 15) #[] #[]) #[v13]) w fun v14 w =>
 kV P (Instr.extract v14 0) w fun v15 w =>
 kV P (Instr.extract v14 1) w fun v16 w =>
 kV P (Instr.alloc 28 true (.tuple #[])) w fun v6 w =>
 kU P (Instr.storeAt 28 v6 v15) w fun _ w =>
 kV P (Instr.loadAt 121 v5) w fun v17 w =>
 kN P (callN (.func (.func 64) #[] #[]) #[v17]) w fun v18 w =>
 joinK (fun J0 : Value -> World -> Prop => gdK (yb v18) true (fun k => k v16 w) w fun v20 w =>
 kN P (pickN v18 v20 (.bool false)) w fun v21_1 w =>
 J0 v21_1 w) fun v21 w =>
 joinK (fun J1 : Value -> World -> Prop => gdK (yb v21) true (fun k => kV P (Instr.fieldAt 28 v6 0) w k) w fun v23 w =>
 gdK (yb v21) true (fun k => kV P (Instr.loadAt 26 v23) w k) w fun v24 w =>
 gdK (yb v21) true (fun k => kV P (Instr.fieldAt 121 v5 1) w k) w fun v25 w =>
 gdK (yb v21) true (fun k => kV P (Instr.fieldAt 28 v25 0) w k) w fun v26 w =>
 gdK (yb v21) true (fun k => kV P (Instr.loadAt 26 v26) w k) w fun v27 w =>
 gdK (yb v21) true (fun k => kV P (binV .eql 26 (.tmp 24) (.tmp 27) v24 v27) w k) w fun v28 w =>
 kN P (pickN v21 v28 (.bool false)) w fun v29_1 w =>
 J1 v29_1 w) fun v29 w =>
 kV P (Instr.fieldAt 24 v2 0) w fun v30 w =>
 kU P (Instr.storeAt 4 v30 v29) w fun _ w =>
 kV P (Instr.loadAt 24 v2) w fun v31 w =>
 kU P (Instr.storeAt 24 v4 v31) w fun _ w =>
 retV P 24 v4 w fun r2 =>
 K r2 w
theorem F44_eq (t0 t1 : Value) : funE P ⟨[], [], []⟩ Tryz.f44 [t0, t1] w K = F44 P w K t0 t1 := by kernel_rfl
theorem F44_ok (t0 t1 : Value) (h : F44 Tryz.prog w K t0 t1) : callsK Tryz.prog 44 #[t0, t1] w K := calls_of_eq mixedX Tryz.func44 (F44_eq _ w K t0 t1) h
def F45 (t0 : Value) : Prop :=
 kV P (Instr.box 24 t0) w fun v1 w =>
 kV P (Instr.alloc 121 true (.tuple #[])) w fun v2 w =>
 kV P (Instr.loadAt 24 v1) w fun v6 w =>
 kN P (callN (.func (.func 15) #[] #[]) #[v6]) w fun v7 w =>
 kV P (Instr.extract v7 0) w fun v8 w =>
 kV P (Instr.extract v7 1) w fun v9 w =>
 kV P (Instr.alloc 28 true (.tuple #[])) w fun v3 w =>
 kU P (Instr.storeAt 28 v3 v8) w fun _ w =>
 drewK (fun w =>
 relX fun R0 =>
 postX R0 (fun p0_10 => allX R0 w fun V0 w => True -> kV P (Instr.loadAt 24 v1) w (okX R0 w p0_10)) fun p0_10 =>
 postX R0 (fun p0_11 => allX R0 w fun V0 w => True -> kV P (Instr.loadAt 28 v3) w (okX R0 w p0_11)) fun p0_11 =>
 postX R0 (fun p0_12 => allX R0 w fun V0 w => True -> kV P (Instr.fieldAt 24 v1 0) w (okX R0 w p0_12)) fun p0_12 =>
 postX R0 (fun p0_13 => allX R0 w fun V0 w => p0_12 (V0 12) w /\ True -> kV P (Instr.loadAt 4 (V0 12)) w (okX R0 w p0_13)) fun p0_13 =>
 postX R0 (fun p0_14 => allX R0 w fun V0 w => p0_13 (V0 13) w /\ True -> (okX R0 w p0_14) (V0 13) w) fun p0_14 =>
 postX R0 (fun p0_15 => allX R0 w fun V0 w => p0_14 (V0 14) w /\ True -> gdK (yb (V0 14)) true (fun k => kV P (Instr.loadAt 24 v1) w k) w (okX R0 w p0_15)) fun p0_15 =>
 postX R0 (fun p0_16 => allX R0 w fun V0 w => p0_14 (V0 14) w /\ p0_15 (V0 15) w /\ True -> gdK (yb (V0 14)) true (fun k => kN P (callN (.func (.func 86) #[] #[]) #[(V0 15)]) w k) w (okX R0 w p0_16)) fun p0_16 =>
 postX R0 (fun p0_17 => allX R0 w fun V0 w => p0_14 (V0 14) w /\ p0_16 (V0 16) w /\ True -> kN P (pickN (V0 14) (V0 16) (.bool false)) w (okX R0 w p0_17)) fun p0_17 =>
 allX R0 w fun V0 w => p0_10 (V0 10) w /\ p0_11 (V0 11) w /\ p0_12 (V0 12) w /\ p0_13 (V0 13) w /\ p0_14 (V0 14) w /\ p0_15 (V0 15) w /\ p0_16 (V0 16) w /\ p0_17 (V0 17) w /\ True -> xDist V0 [] ->
 kV P (Instr.build 121 #[(0, (V0 10)), (1, (V0 11)), (2, (V0 17))]) w fun v18 w =>
 kU P (Instr.storeAt 121 v2 v18) w fun _ w =>
 retV P 121 v2 w fun r1 =>
 K r1 w) w
theorem F45_eq (t0 : Value) : funE P ⟨[(2, 1008)], [], []⟩ Tryz.f45 [t0] w K = F45 P w K t0 := by kernel_rfl
theorem F45_ok (t0 : Value) (h : F45 Tryz.prog w K t0) : callsK Tryz.prog 45 #[t0] w K := calls_of_eq mixedX Tryz.func45 (F45_eq _ w K t0) h
def F47 (t0 : Value) : Prop :=
 kV P (Instr.box 26 t0) w fun v1 w =>
 kV P (Instr.fieldAt 26 v1 0) w fun v3 w =>
 kV P (Instr.loadAt 22 v3) w fun v4 w =>
 kV P (Instr.fieldAt 26 v1 1) w fun v5 w =>
 kV P (Instr.loadAt 22 v5) w fun v6 w =>
 kV P (binV .leq 22 (.tmp 4) (.tmp 6) v4 v6) w fun v7 w =>
 joinK (fun J0 : Value -> World -> Prop => gdK (yb v7) true (fun k => kV P (Instr.fieldAt 26 v1 1) w k) w fun v9 w =>
 gdK (yb v7) true (fun k => kV P (Instr.loadAt 22 v9) w k) w fun v10 w =>
 gdK (yb v7) true (fun k => kV P (binV .leq 22 (.tmp 10) (.const (.int .u64 281474976710656)) v10 (.int .u64 281474976710656)) w k) w fun v11 w =>
 kN P (pickN v7 v11 (.bool false)) w fun v12_1 w =>
 J0 v12_1 w) fun v12 w =>
 K v12 w
theorem F47_eq (t0 : Value) : funE P ⟨[], [], []⟩ Tryz.f47 [t0] w K = F47 P w K t0 := by kernel_rfl
theorem F47_ok (t0 : Value) (h : F47 Tryz.prog w K t0) : callsK Tryz.prog 47 #[t0] w K := calls_of_eq mixedX Tryz.func47 (F47_eq _ w K t0) h
def F48 (t0 : Value) : Prop :=
 kV P (Instr.box 26 t0) w fun v1 w =>
 kV P (Instr.alloc 26 true (.tuple #[])) w fun v3 w =>
 kV P (Instr.fieldAt 26 v1 1) w fun v8 w =>
 kV P (Instr.loadAt 22 v8) w fun v9 w =>
 kV P (Instr.fieldAt 26 v1 0) w fun v10 w =>
 kV P (Instr.loadAt 22 v10) w fun v11 w =>
 kV P (binV .sub 22 (.tmp 9) (.tmp 11) v9 v11) w fun v12 w =>
 kV P (binV .lss 22 (.tmp 13) (.const (.int .u64 4096)) v12 (.int .u64 4096)) w fun v14 w =>
 condK v14
 (drewK (fun w =>
 sV P (Instr.loadAt 26 v1) w fun v15 =>
 kU P (Instr.storeAt 26 v3 v15) w fun _ w =>
 retV P 26 v3 w fun r0 =>
 K (.tuple #[(.int .u64 0), r0]) w) w)
 (kN P (callN (.func (.func 88) #[] #[]) #[v12]) w fun v17 w =>
 kV P (binV .sub 3 (.tmp 17) (.const (.int .i64 12)) v17 (.int .i64 12)) w fun v18 w =>
 kV P (Instr.loadAt 26 v1) w fun v20 w =>
 kN P (callN (.func (.func 89) #[] #[]) #[v20, v18]) w fun v22 w =>
 kV P (Instr.extract v22 0) w fun v23 w =>
 kV P (Instr.extract v22 1) w fun v24 w =>
 kV P (Instr.alloc 26 true (.tuple #[])) w fun v6 w =>
 kU P (Instr.storeAt 26 v6 v23) w fun _ w =>
 joinL (fun J1 =>
 kV P (binV .geq 22 (.tmp 25) (.const (.int .u64 8192)) v24 (.int .u64 8192)) w fun v26 w =>
 condK v26
 (kV P (binV .add 3 (.tmp 27) (.const (.int .i64 1)) v18 (.int .i64 1)) w fun v28 w =>
 kV P (Instr.loadAt 26 v1) w fun v30 w =>
 kN P (callN (.func (.func 89) #[] #[]) #[v30, v28]) w fun v32 w =>
 kV P (Instr.extract v32 0) w fun v33 w =>
 kV P (Instr.extract v32 1) w fun v34 w =>
 kU P (Instr.storeAt 26 v6 v33) w fun _ w =>
 J1 [v28] w)
 (J1 [v18] w)) fun s1 w => ∀ _ : Nat -> Value,
 drewK (fun w =>
 sV P (convert 3 22 (s1.getD 0 undef)) w fun v36 =>
 sV P (binV .add 22 (.tmp 36) (.const (.int .u64 1)) v36 (.int .u64 1)) w fun v37 =>
 sV P (Instr.loadAt 26 v6) w fun v38 =>
 kU P (Instr.storeAt 26 v3 v38) w fun _ w =>
 retV P 26 v3 w fun r3 =>
 K (.tuple #[v37, r3]) w) w)
theorem F48_eq (t0 : Value) : funE P ⟨[(9, 5), (3, 2)], [], [(9, [5])]⟩ Tryz.f48 [t0] w K = F48 P w K t0 := by kernel_rfl
theorem F48_ok (t0 : Value) (h : F48 Tryz.prog w K t0) : callsK Tryz.prog 48 #[t0] w K := calls_of_eq mixedX Tryz.func48 (F48_eq _ w K t0) h
def F51 (t0 : Value) : Prop :=
 kV P (Instr.alloc 22 true (.tuple #[])) w fun v3 w =>
 kU P (Instr.storeAt 22 v3 (.int .u64 0)) w fun _ w =>
 kV P (Builtin.len_ #[179] 3 #[t0]) w fun v9 w =>
 loopT (fun R0 s0 w => ∀ _ : Nat -> Value,
 kV P (binV .lss 3 (.tmp 10) (.tmp 9) (s0.getD 0 undef) v9) w fun v11 w =>
 condK v11
 (kV P (Instr.indexAt 179 t0 (s0.getD 0 undef)) w fun v12 w =>
 kV P (Instr.loadAt 131 v12) w fun v13 w =>
 kV P (Instr.alloc 131 true (.tuple #[])) w fun v6 w =>
 kU P (Instr.storeAt 131 v6 v13) w fun _ w =>
 kV P (Instr.loadAt 131 v6) w fun v15 w =>
 kN P (callN (.func (.func 90) #[] #[v3]) #[v15]) w fun v16 w =>
 kV P (binV .add 3 (.tmp 10) (.const (.int .i64 1)) (s0.getD 0 undef) (.int .i64 1)) w fun v17 w =>
 R0 [v17] w)
 (kV P (Instr.loadAt 22 v3) w fun v18 w =>
 K v18 w)) [(.int .i64 0)] w
theorem F51_eq (t0 : Value) : funE P ⟨[], [(4, [10])], []⟩ Tryz.f51 [t0] w K = F51 P w K t0 := by kernel_rfl
theorem F51_ok (t0 : Value) (h : F51 Tryz.prog w K t0) : callsK Tryz.prog 51 #[t0] w K := calls_of_eq mixedX Tryz.func51 (F51_eq _ w K t0) h
def F58 (t0 t1 t2 : Value) : Prop :=
 kV P (Instr.box 35 t0) w fun v3 w =>
 kV P (binV .eql 3 (.tmp 7) (.const (.int .i64 1)) t2 (.int .i64 1)) w fun v8 w =>
 joinK (fun J0 : Value -> World -> Prop => gdK (yb v8) false (fun k => k t2 w) w fun v10 w =>
 gdK (yb v8) false (fun k => kV P (binV .eql 3 (.tmp 10) (.const (.int .i64 2)) v10 (.int .i64 2)) w k) w fun v11 w =>
 kN P (pickN v8 (.bool true) v11) w fun v12_1 w =>
 J0 v12_1 w) fun v12 w =>
 joinK (fun J1 : Value -> World -> Prop => gdK (yb v12) false (fun k => k t2 w) w fun v14 w =>
 gdK (yb v12) false (fun k => kV P (binV .eql 3 (.tmp 14) (.const (.int .i64 4)) v14 (.int .i64 4)) w k) w fun v15 w =>
 kN P (pickN v12 (.bool true) v15) w fun v16_1 w =>
 J1 v16_1 w) fun v16 w =>
 joinK (fun J2 : Value -> World -> Prop => gdK (yb v16) false (fun k => k t2 w) w fun v18 w =>
 gdK (yb v16) false (fun k => kV P (binV .eql 3 (.tmp 18) (.const (.int .i64 8)) v18 (.int .i64 8)) w k) w fun v19 w =>
 kN P (pickN v16 (.bool true) v19) w fun v20_1 w =>
 J2 v20_1 w) fun v20 w =>
 joinK (fun J3 : Value -> World -> Prop => gdK (yb v20) true (fun k => k t1 w) w fun v22 w =>
 gdK (yb v20) true (fun k => k t2 w) w fun v23 w =>
 gdK (yb v20) true (fun k => kV P (convert 3 22 v23) w k) w fun v24 w =>
 gdK (yb v20) true (fun k => kV P (binV .rem 22 (.tmp 22) (.tmp 24) v22 v24) w k) w fun v25 w =>
 gdK (yb v20) true (fun k => kV P (binV .eql 22 (.tmp 25) (.const (.int .u64 0)) v25 (.int .u64 0)) w k) w fun v26 w =>
 kN P (pickN v20 v26 (.bool false)) w fun v27_1 w =>
 J3 v27_1 w) fun v27 w =>
 joinK (fun J4 : Value -> World -> Prop => gdK (yb v27) true (fun k => k t1 w) w fun v29 w =>
 gdK (yb v27) true (fun k => kV P (Instr.loadAt 35 v3) w k) w fun v30 w =>
 gdK (yb v27) true (fun k => kN P (callN (.func (.func 62) #[] #[]) #[v30]) w k) w fun v31 w =>
 gdK (yb v27) true (fun k => kV P (binV .lss 22 (.tmp 29) (.tmp 31) v29 v31) w k) w fun v32 w =>
 kN P (pickN v27 v32 (.bool false)) w fun v33_1 w =>
 J4 v33_1 w) fun v33 w =>
 K v33 w
theorem F58_eq (t0 t1 t2 : Value) : funE P ⟨[], [], []⟩ Tryz.f58 [t0, t1, t2] w K = F58 P w K t0 t1 t2 := by kernel_rfl
theorem F58_ok (t0 t1 t2 : Value) (h : F58 Tryz.prog w K t0 t1 t2) : callsK Tryz.prog 58 #[t0, t1, t2] w K := calls_of_eq mixedX Tryz.func58 (F58_eq _ w K t0 t1 t2) h
def F59 (t0 t1 t2 : Value) : Prop :=
 kV P (Instr.box 35 t0) w fun v3 w =>
 kV P (Instr.alloc 35 true (.tuple #[])) w fun v6 w =>
 kV P (Instr.buildSlice 32 0 #[]) w fun v7 w =>
 kV P (Instr.fieldAt 35 v3 1) w fun v8 w =>
 kV P (Instr.loadAt 32 v8) w fun v9 w =>
 kV P (Builtin.append_ #[32, 32] 32 #[v7, v9]) w fun v10 w =>
 kV P (Instr.buildSlice 32 1 #[(0, t1)]) w fun v12 w =>
 kV P (Builtin.append_ #[32, 32] 32 #[v10, v12]) w fun v13 w =>
 kV P (Instr.fieldAt 35 v3 1) w fun v14 w =>
 kU P (Instr.storeAt 32 v14 v13) w fun _ w =>
 kV P (Instr.buildSlice 33 0 #[]) w fun v15 w =>
 kV P (Instr.fieldAt 35 v3 2) w fun v16 w =>
 kV P (Instr.loadAt 33 v16) w fun v17 w =>
 kV P (Builtin.append_ #[33, 33] 33 #[v15, v17]) w fun v18 w =>
 kV P (Instr.buildSlice 33 1 #[(0, t2)]) w fun v20 w =>
 kV P (Builtin.append_ #[33, 33] 33 #[v18, v20]) w fun v21 w =>
 kV P (Instr.fieldAt 35 v3 2) w fun v22 w =>
 kU P (Instr.storeAt 33 v22 v21) w fun _ w =>
 kV P (Instr.loadAt 35 v3) w fun v23 w =>
 kV P (binV .quo 22 (.tmp 24) (.const (.int .u64 16)) t1 (.int .u64 16)) w fun v25 w =>
 kV P (binV .mul 22 (.tmp 25) (.const (.int .u64 16)) v25 (.int .u64 16)) w fun v26 w =>
 kN P (callN (.func (.func 92) #[] #[]) #[v23, v26]) w fun v27 w =>
 kU P (Instr.storeAt 35 v6 v27) w fun _ w =>
 retV P 35 v6 w fun r0 =>
 K r0 w
theorem F59_eq (t0 t1 t2 : Value) : funE P ⟨[], [], []⟩ Tryz.f59 [t0, t1, t2] w K = F59 P w K t0 t1 t2 := by kernel_rfl
theorem F59_ok (t0 t1 t2 : Value) (h : F59 Tryz.prog w K t0 t1 t2) : callsK Tryz.prog 59 #[t0, t1, t2] w K := calls_of_eq mixedX Tryz.func59 (F59_eq _ w K t0 t1 t2) h
def F62 (t0 : Value) : Prop :=
 kV P (Instr.box 35 t0) w fun v1 w =>
 kV P (Instr.fieldAt 35 v1 0) w fun v3 w =>
 kV P (Instr.loadAt 3 v3) w fun v4 w =>
 kV P (convert 3 22 v4) w fun v5 w =>
 kV P (binV .mul 22 (.tmp 5) (.const (.int .u64 4096)) v5 (.int .u64 4096)) w fun v6 w =>
 K v6 w
theorem F62_eq (t0 : Value) : funE P ⟨[], [], []⟩ Tryz.f62 [t0] w K = F62 P w K t0 := by kernel_rfl
theorem F62_ok (t0 : Value) (h : F62 Tryz.prog w K t0) : callsK Tryz.prog 62 #[t0] w K := calls_of_eq mixedX Tryz.func62 (F62_eq _ w K t0) h
def F64 (t0 : Value) : Prop :=
 kV P (Instr.box 121 t0) w fun v1 w =>
 kV P (Instr.fieldAt 121 v1 2) w fun v3 w =>
 kV P (Instr.loadAt 4 v3) w fun v4 w =>
 joinK (fun J0 : Value -> World -> Prop => gdK (yb v4) true (fun k => kV P (Instr.fieldAt 121 v1 1) w k) w fun v6 w =>
 gdK (yb v4) true (fun k => kV P (Instr.fieldAt 28 v6 2) w k) w fun v7 w =>
 gdK (yb v4) true (fun k => kV P (Instr.loadAt 22 v7) w k) w fun v8 w =>
 gdK (yb v4) true (fun k => kV P (binV .eql 22 (.tmp 8) (.const (.int .u64 0)) v8 (.int .u64 0)) w k) w fun v9 w =>
 kN P (pickN v4 v9 (.bool false)) w fun v10_1 w =>
 J0 v10_1 w) fun v10 w =>
 K v10 w
theorem F64_eq (t0 : Value) : funE P ⟨[], [], []⟩ Tryz.f64 [t0] w K = F64 P w K t0 := by kernel_rfl
theorem F64_ok (t0 : Value) (h : F64 Tryz.prog w K t0) : callsK Tryz.prog 64 #[t0] w K := calls_of_eq mixedX Tryz.func64 (F64_eq _ w K t0) h
def F65 (t0 t1 : Value) : Prop :=
 kV P (binV .andNot 22 (.tmp 5) (.tmp 6) t0 t1) w fun v7 w =>
 kV P (binV .eql 22 (.tmp 7) (.const (.int .u64 0)) v7 (.int .u64 0)) w fun v8 w =>
 K v8 w
theorem F65_eq (t0 t1 : Value) : funE P ⟨[], [], []⟩ Tryz.f65 [t0, t1] w K = F65 P w K t0 t1 := by kernel_rfl
theorem F65_ok (t0 t1 : Value) (h : F65 Tryz.prog w K t0 t1) : callsK Tryz.prog 65 #[t0, t1] w K := calls_of_eq mixedX Tryz.func65 (F65_eq _ w K t0 t1) h
def F66 (t0 : Value) : Prop :=
 kV P (binV .eql 3 (.tmp 3) (.const (.int .i64 0)) t0 (.int .i64 0)) w fun v5 w =>
 condK v5
 (K (.int .u64 4) w)
 (kV P (binV .eql 3 (.tmp 3) (.const (.int .i64 1)) t0 (.int .i64 1)) w fun v7 w =>
 condK v7
 (K (.int .u64 1) w)
 (kV P (binV .eql 3 (.tmp 3) (.const (.int .i64 2)) t0 (.int .i64 2)) w fun v9 w =>
 condK v9
 (K (.int .u64 2) w)
 (kV P (binV .eql 3 (.tmp 3) (.const (.int .i64 3)) t0 (.int .i64 3)) w fun v11 w =>
 condK v11
 (K (.int .u64 9) w)
 (kV P (binV .eql 3 (.tmp 3) (.const (.int .i64 4)) t0 (.int .i64 4)) w fun v13 w =>
 condK v13
 (K (.int .u64 18) w)
 (K (.int .u64 511) w)))))
theorem F66_eq (t0 : Value) : funE P ⟨[], [], []⟩ Tryz.f66 [t0] w K = F66 P w K t0 := by kernel_rfl
theorem F66_ok (t0 : Value) (h : F66 Tryz.prog w K t0) : callsK Tryz.prog 66 #[t0] w K := calls_of_eq mixedX Tryz.func66 (F66_eq _ w K t0) h
def F67 (t0 t1 t2 t3 : Value) : Prop :=
 kN P (callN (.func (.func 94) #[] #[]) #[t0, t1]) w fun v14 w =>
 kV P (Instr.extract v14 0) w fun v15 w =>
 kV P (Instr.extract v14 1) w fun v16 w =>
 kV P (Op.unary .not v16) w fun v18 w =>
 joinK (fun J0 : Value -> World -> Prop => gdK (yb v18) true (fun k => k t2 w) w fun v20 w =>
 gdK (yb v18) true (fun k => k t0 w) w fun v21 w =>
 gdK (yb v18) true (fun k => kV P (binV .leq 22 (.tmp 20) (.tmp 21) v20 v21) w k) w fun v22 w =>
 kN P (pickN v18 v22 (.bool false)) w fun v23_1 w =>
 J0 v23_1 w) fun v23 w =>
 joinK (fun J1 : Value -> World -> Prop => gdK (yb v23) true (fun k => k v15 w) w fun v25 w =>
 gdK (yb v23) true (fun k => k t3 w) w fun v26 w =>
 gdK (yb v23) true (fun k => kV P (binV .leq 22 (.tmp 25) (.tmp 26) v25 v26) w k) w fun v27 w =>
 kN P (pickN v23 v27 (.bool false)) w fun v28_1 w =>
 J1 v28_1 w) fun v28 w =>
 K v28 w
theorem F67_eq (t0 t1 t2 t3 : Value) : funE P ⟨[], [], []⟩ Tryz.f67 [t0, t1, t2, t3] w K = F67 P w K t0 t1 t2 t3 := by kernel_rfl
theorem F67_ok (t0 t1 t2 t3 : Value) (h : F67 Tryz.prog w K t0 t1 t2 t3) : callsK Tryz.prog 67 #[t0, t1, t2, t3] w K := calls_of_eq mixedX Tryz.func67 (F67_eq _ w K t0 t1 t2 t3) h
def F68 : Prop :=
 kV P (Instr.alloc 160 true (.tuple #[])) w fun v0 w =>
 kV P (Instr.build 101 #[(0, (.string ⟨#[108, 117, 105]⟩)), (1, (.int .u8 85)), (2, (.int .u64 55)), (3, (.int .u64 0)), (4, (.int .u64 0))]) w fun v1 w =>
 kV P (Instr.build 101 #[(0, (.string ⟨#[97, 117, 105, 112, 99]⟩)), (1, (.int .u8 85)), (2, (.int .u64 23)), (3, (.int .u64 0)), (4, (.int .u64 0))]) w fun v2 w =>
 kV P (Instr.build 101 #[(0, (.string ⟨#[106, 97, 108]⟩)), (1, (.int .u8 74)), (2, (.int .u64 111)), (3, (.int .u64 0)), (4, (.int .u64 0))]) w fun v3 w =>
 kV P (Instr.build 101 #[(0, (.string ⟨#[106, 97, 108, 114]⟩)), (1, (.int .u8 73)), (2, (.int .u64 103)), (3, (.int .u64 0)), (4, (.int .u64 0))]) w fun v4 w =>
 kV P (Instr.build 101 #[(0, (.string ⟨#[98, 101, 113]⟩)), (1, (.int .u8 66)), (2, (.int .u64 99)), (3, (.int .u64 0)), (4, (.int .u64 0))]) w fun v5 w =>
 kV P (Instr.build 101 #[(0, (.string ⟨#[98, 110, 101]⟩)), (1, (.int .u8 66)), (2, (.int .u64 99)), (3, (.int .u64 1)), (4, (.int .u64 0))]) w fun v6 w =>
 kV P (Instr.build 101 #[(0, (.string ⟨#[98, 108, 116]⟩)), (1, (.int .u8 66)), (2, (.int .u64 99)), (3, (.int .u64 4)), (4, (.int .u64 0))]) w fun v7 w =>
 kV P (Instr.build 101 #[(0, (.string ⟨#[98, 103, 101]⟩)), (1, (.int .u8 66)), (2, (.int .u64 99)), (3, (.int .u64 5)), (4, (.int .u64 0))]) w fun v8 w =>
 kV P (Instr.build 101 #[(0, (.string ⟨#[98, 108, 116, 117]⟩)), (1, (.int .u8 66)), (2, (.int .u64 99)), (3, (.int .u64 6)), (4, (.int .u64 0))]) w fun v9 w =>
 kV P (Instr.build 101 #[(0, (.string ⟨#[98, 103, 101, 117]⟩)), (1, (.int .u8 66)), (2, (.int .u64 99)), (3, (.int .u64 7)), (4, (.int .u64 0))]) w fun v10 w =>
 kV P (Instr.build 101 #[(0, (.string ⟨#[108, 98]⟩)), (1, (.int .u8 73)), (2, (.int .u64 3)), (3, (.int .u64 0)), (4, (.int .u64 0))]) w fun v11 w =>
 kV P (Instr.build 101 #[(0, (.string ⟨#[108, 104]⟩)), (1, (.int .u8 73)), (2, (.int .u64 3)), (3, (.int .u64 1)), (4, (.int .u64 0))]) w fun v12 w =>
 kV P (Instr.build 101 #[(0, (.string ⟨#[108, 119]⟩)), (1, (.int .u8 73)), (2, (.int .u64 3)), (3, (.int .u64 2)), (4, (.int .u64 0))]) w fun v13 w =>
 kV P (Instr.build 101 #[(0, (.string ⟨#[108, 100]⟩)), (1, (.int .u8 73)), (2, (.int .u64 3)), (3, (.int .u64 3)), (4, (.int .u64 0))]) w fun v14 w =>
 kV P (Instr.build 101 #[(0, (.string ⟨#[108, 98, 117]⟩)), (1, (.int .u8 73)), (2, (.int .u64 3)), (3, (.int .u64 4)), (4, (.int .u64 0))]) w fun v15 w =>
 kV P (Instr.build 101 #[(0, (.string ⟨#[108, 104, 117]⟩)), (1, (.int .u8 73)), (2, (.int .u64 3)), (3, (.int .u64 5)), (4, (.int .u64 0))]) w fun v16 w =>
 kV P (Instr.build 101 #[(0, (.string ⟨#[108, 119, 117]⟩)), (1, (.int .u8 73)), (2, (.int .u64 3)), (3, (.int .u64 6)), (4, (.int .u64 0))]) w fun v17 w =>
 kV P (Instr.build 101 #[(0, (.string ⟨#[115, 98]⟩)), (1, (.int .u8 83)), (2, (.int .u64 35)), (3, (.int .u64 0)), (4, (.int .u64 0))]) w fun v18 w =>
 kV P (Instr.build 101 #[(0, (.string ⟨#[115, 104]⟩)), (1, (.int .u8 83)), (2, (.int .u64 35)), (3, (.int .u64 1)), (4, (.int .u64 0))]) w fun v19 w =>
 kV P (Instr.build 101 #[(0, (.string ⟨#[115, 119]⟩)), (1, (.int .u8 83)), (2, (.int .u64 35)), (3, (.int .u64 2)), (4, (.int .u64 0))]) w fun v20 w =>
 kV P (Instr.build 101 #[(0, (.string ⟨#[115, 100]⟩)), (1, (.int .u8 83)), (2, (.int .u64 35)), (3, (.int .u64 3)), (4, (.int .u64 0))]) w fun v21 w =>
 kV P (Instr.build 101 #[(0, (.string ⟨#[97, 100, 100, 105]⟩)), (1, (.int .u8 73)), (2, (.int .u64 19)), (3, (.int .u64 0)), (4, (.int .u64 0))]) w fun v22 w =>
 kV P (Instr.build 101 #[(0, (.string ⟨#[115, 108, 116, 105]⟩)), (1, (.int .u8 73)), (2, (.int .u64 19)), (3, (.int .u64 2)), (4, (.int .u64 0))]) w fun v23 w =>
 kV P (Instr.build 101 #[(0, (.string ⟨#[115, 108, 116, 105, 117]⟩)), (1, (.int .u8 73)), (2, (.int .u64 19)), (3, (.int .u64 3)), (4, (.int .u64 0))]) w fun v24 w =>
 kV P (Instr.build 101 #[(0, (.string ⟨#[120, 111, 114, 105]⟩)), (1, (.int .u8 73)), (2, (.int .u64 19)), (3, (.int .u64 4)), (4, (.int .u64 0))]) w fun v25 w =>
 kV P (Instr.build 101 #[(0, (.string ⟨#[111, 114, 105]⟩)), (1, (.int .u8 73)), (2, (.int .u64 19)), (3, (.int .u64 6)), (4, (.int .u64 0))]) w fun v26 w =>
 kV P (Instr.build 101 #[(0, (.string ⟨#[97, 110, 100, 105]⟩)), (1, (.int .u8 73)), (2, (.int .u64 19)), (3, (.int .u64 7)), (4, (.int .u64 0))]) w fun v27 w =>
 kV P (Instr.build 101 #[(0, (.string ⟨#[115, 108, 108, 105]⟩)), (1, (.int .u8 72)), (2, (.int .u64 19)), (3, (.int .u64 1)), (4, (.int .u64 0))]) w fun v28 w =>
 kV P (Instr.build 101 #[(0, (.string ⟨#[115, 114, 108, 105]⟩)), (1, (.int .u8 72)), (2, (.int .u64 19)), (3, (.int .u64 5)), (4, (.int .u64 0))]) w fun v29 w =>
 kV P (Instr.build 101 #[(0, (.string ⟨#[115, 114, 97, 105]⟩)), (1, (.int .u8 72)), (2, (.int .u64 19)), (3, (.int .u64 5)), (4, (.int .u64 16))]) w fun v30 w =>
 kV P (Instr.build 101 #[(0, (.string ⟨#[97, 100, 100]⟩)), (1, (.int .u8 82)), (2, (.int .u64 51)), (3, (.int .u64 0)), (4, (.int .u64 0))]) w fun v31 w =>
 kV P (Instr.build 101 #[(0, (.string ⟨#[115, 117, 98]⟩)), (1, (.int .u8 82)), (2, (.int .u64 51)), (3, (.int .u64 0)), (4, (.int .u64 32))]) w fun v32 w =>
 kV P (Instr.build 101 #[(0, (.string ⟨#[115, 108, 108]⟩)), (1, (.int .u8 82)), (2, (.int .u64 51)), (3, (.int .u64 1)), (4, (.int .u64 0))]) w fun v33 w =>
 kV P (Instr.build 101 #[(0, (.string ⟨#[115, 108, 116]⟩)), (1, (.int .u8 82)), (2, (.int .u64 51)), (3, (.int .u64 2)), (4, (.int .u64 0))]) w fun v34 w =>
 kV P (Instr.build 101 #[(0, (.string ⟨#[115, 108, 116, 117]⟩)), (1, (.int .u8 82)), (2, (.int .u64 51)), (3, (.int .u64 3)), (4, (.int .u64 0))]) w fun v35 w =>
 kV P (Instr.build 101 #[(0, (.string ⟨#[120, 111, 114]⟩)), (1, (.int .u8 82)), (2, (.int .u64 51)), (3, (.int .u64 4)), (4, (.int .u64 0))]) w fun v36 w =>
 kV P (Instr.build 101 #[(0, (.string ⟨#[115, 114, 108]⟩)), (1, (.int .u8 82)), (2, (.int .u64 51)), (3, (.int .u64 5)), (4, (.int .u64 0))]) w fun v37 w =>
 kV P (Instr.build 101 #[(0, (.string ⟨#[115, 114, 97]⟩)), (1, (.int .u8 82)), (2, (.int .u64 51)), (3, (.int .u64 5)), (4, (.int .u64 32))]) w fun v38 w =>
 kV P (Instr.build 101 #[(0, (.string ⟨#[111, 114]⟩)), (1, (.int .u8 82)), (2, (.int .u64 51)), (3, (.int .u64 6)), (4, (.int .u64 0))]) w fun v39 w =>
 kV P (Instr.build 101 #[(0, (.string ⟨#[97, 110, 100]⟩)), (1, (.int .u8 82)), (2, (.int .u64 51)), (3, (.int .u64 7)), (4, (.int .u64 0))]) w fun v40 w =>
 kV P (Instr.build 101 #[(0, (.string ⟨#[101, 99, 97, 108, 108]⟩)), (1, (.int .u8 78)), (2, (.int .u64 115)), (3, (.int .u64 0)), (4, (.int .u64 0))]) w fun v41 w =>
 kV P (Instr.build 101 #[(0, (.string ⟨#[101, 98, 114, 101, 97, 107]⟩)), (1, (.int .u8 78)), (2, (.int .u64 115)), (3, (.int .u64 0)), (4, (.int .u64 1))]) w fun v42 w =>
 kV P (Instr.build 101 #[(0, (.string ⟨#[99, 108, 99]⟩)), (1, (.int .u8 73)), (2, (.int .u64 15)), (3, (.int .u64 2)), (4, (.int .u64 0))]) w fun v43 w =>
 kV P (Instr.build 101 #[(0, (.string ⟨#[99, 115, 99]⟩)), (1, (.int .u8 83)), (2, (.int .u64 35)), (3, (.int .u64 4)), (4, (.int .u64 0))]) w fun v44 w =>
 kV P (Instr.build 101 #[(0, (.string ⟨#[99, 115, 101, 116, 98, 111, 117, 110, 100, 115]⟩)), (1, (.int .u8 82)), (2, (.int .u64 91)), (3, (.int .u64 0)), (4, (.int .u64 8))]) w fun v45 w =>
 kV P (Instr.build 101 #[(0, (.string ⟨#[99, 115, 101, 116, 98, 111, 117, 110, 100, 115, 101, 120, 97, 99, 116]⟩)), (1, (.int .u8 82)), (2, (.int .u64 91)), (3, (.int .u64 0)), (4, (.int .u64 9))]) w fun v46 w =>
 kV P (Instr.build 101 #[(0, (.string ⟨#[99, 115, 101, 97, 108]⟩)), (1, (.int .u8 82)), (2, (.int .u64 91)), (3, (.int .u64 0)), (4, (.int .u64 11))]) w fun v47 w =>
 kV P (Instr.build 101 #[(0, (.string ⟨#[99, 117, 110, 115, 101, 97, 108]⟩)), (1, (.int .u8 82)), (2, (.int .u64 91)), (3, (.int .u64 0)), (4, (.int .u64 12))]) w fun v48 w =>
 kV P (Instr.build 101 #[(0, (.string ⟨#[99, 97, 110, 100, 112, 101, 114, 109]⟩)), (1, (.int .u8 82)), (2, (.int .u64 91)), (3, (.int .u64 0)), (4, (.int .u64 13))]) w fun v49 w =>
 kV P (Instr.build 101 #[(0, (.string ⟨#[99, 115, 101, 116, 97, 100, 100, 114]⟩)), (1, (.int .u8 82)), (2, (.int .u64 91)), (3, (.int .u64 0)), (4, (.int .u64 16))]) w fun v50 w =>
 kV P (Instr.build 101 #[(0, (.string ⟨#[99, 105, 110, 99, 111, 102, 102, 115, 101, 116]⟩)), (1, (.int .u8 82)), (2, (.int .u64 91)), (3, (.int .u64 0)), (4, (.int .u64 17))]) w fun v51 w =>
 kV P (Instr.build 101 #[(0, (.string ⟨#[99, 115, 117, 98]⟩)), (1, (.int .u8 82)), (2, (.int .u64 91)), (3, (.int .u64 0)), (4, (.int .u64 20))]) w fun v52 w =>
 kV P (Instr.build 101 #[(0, (.string ⟨#[99, 98, 117, 105, 108, 100, 99, 97, 112]⟩)), (1, (.int .u8 82)), (2, (.int .u64 91)), (3, (.int .u64 0)), (4, (.int .u64 29))]) w fun v53 w =>
 kV P (Instr.build 101 #[(0, (.string ⟨#[99, 116, 101, 115, 116, 115, 117, 98, 115, 101, 116]⟩)), (1, (.int .u8 82)), (2, (.int .u64 91)), (3, (.int .u64 0)), (4, (.int .u64 32))]) w fun v54 w =>
 kV P (Instr.build 101 #[(0, (.string ⟨#[99, 115, 101, 116, 101, 113, 117, 97, 108]⟩)), (1, (.int .u8 82)), (2, (.int .u64 91)), (3, (.int .u64 0)), (4, (.int .u64 33))]) w fun v55 w =>
 kV P (Instr.build 101 #[(0, (.string ⟨#[99, 103, 101, 116, 112, 101, 114, 109]⟩)), (1, (.int .u8 71)), (2, (.int .u64 91)), (3, (.int .u64 0)), (4, (.int .u64 0))]) w fun v56 w =>
 kV P (Instr.build 101 #[(0, (.string ⟨#[99, 103, 101, 116, 116, 121, 112, 101]⟩)), (1, (.int .u8 71)), (2, (.int .u64 91)), (3, (.int .u64 0)), (4, (.int .u64 1))]) w fun v57 w =>
 kV P (Instr.build 101 #[(0, (.string ⟨#[99, 103, 101, 116, 98, 97, 115, 101]⟩)), (1, (.int .u8 71)), (2, (.int .u64 91)), (3, (.int .u64 0)), (4, (.int .u64 2))]) w fun v58 w =>
 kV P (Instr.build 101 #[(0, (.string ⟨#[99, 103, 101, 116, 108, 101, 110]⟩)), (1, (.int .u8 71)), (2, (.int .u64 91)), (3, (.int .u64 0)), (4, (.int .u64 3))]) w fun v59 w =>
 kV P (Instr.build 101 #[(0, (.string ⟨#[99, 103, 101, 116, 116, 97, 103]⟩)), (1, (.int .u8 71)), (2, (.int .u64 91)), (3, (.int .u64 0)), (4, (.int .u64 4))]) w fun v60 w =>
 kV P (Instr.build 101 #[(0, (.string ⟨#[99, 103, 101, 116, 111, 102, 102, 115, 101, 116]⟩)), (1, (.int .u8 71)), (2, (.int .u64 91)), (3, (.int .u64 0)), (4, (.int .u64 6))]) w fun v61 w =>
 kV P (Instr.build 101 #[(0, (.string ⟨#[99, 114, 114, 108]⟩)), (1, (.int .u8 71)), (2, (.int .u64 91)), (3, (.int .u64 0)), (4, (.int .u64 8))]) w fun v62 w =>
 kV P (Instr.build 101 #[(0, (.string ⟨#[99, 114, 97, 109]⟩)), (1, (.int .u8 71)), (2, (.int .u64 91)), (3, (.int .u64 0)), (4, (.int .u64 9))]) w fun v63 w =>
 kV P (Instr.build 101 #[(0, (.string ⟨#[99, 109, 111, 118, 101]⟩)), (1, (.int .u8 71)), (2, (.int .u64 91)), (3, (.int .u64 0)), (4, (.int .u64 10))]) w fun v64 w =>
 kV P (Instr.build 101 #[(0, (.string ⟨#[99, 99, 108, 101, 97, 114, 116, 97, 103]⟩)), (1, (.int .u8 71)), (2, (.int .u64 91)), (3, (.int .u64 0)), (4, (.int .u64 11))]) w fun v65 w =>
 kV P (Instr.build 101 #[(0, (.string ⟨#[99, 103, 101, 116, 97, 100, 100, 114]⟩)), (1, (.int .u8 71)), (2, (.int .u64 91)), (3, (.int .u64 0)), (4, (.int .u64 15))]) w fun v66 w =>
 kV P (Instr.build 101 #[(0, (.string ⟨#[99, 115, 101, 97, 108, 101, 110, 116, 114, 121]⟩)), (1, (.int .u8 71)), (2, (.int .u64 91)), (3, (.int .u64 0)), (4, (.int .u64 17))]) w fun v67 w =>
 kV P (Instr.build 101 #[(0, (.string ⟨#[99, 105, 110, 99, 111, 102, 102, 115, 101, 116, 105, 109, 109]⟩)), (1, (.int .u8 73)), (2, (.int .u64 91)), (3, (.int .u64 1)), (4, (.int .u64 0))]) w fun v68 w =>
 kV P (Instr.build 101 #[(0, (.string ⟨#[99, 115, 101, 116, 98, 111, 117, 110, 100, 115, 105, 109, 109]⟩)), (1, (.int .u8 67)), (2, (.int .u64 91)), (3, (.int .u64 2)), (4, (.int .u64 0))]) w fun v69 w =>
 kV P (Instr.build 160 #[(0, v1), (1, v2), (2, v3), (3, v4), (4, v5), (5, v6), (6, v7), (7, v8), (8, v9), (9, v10), (10, v11), (11, v12), (12, v13), (13, v14), (14, v15), (15, v16), (16, v17), (17, v18), (18, v19), (19, v20), (20, v21), (21, v22), (22, v23), (23, v24), (24, v25), (25, v26), (26, v27), (27, v28), (28, v29), (29, v30), (30, v31), (31, v32), (32, v33), (33, v34), (34, v35), (35, v36), (36, v37), (37, v38), (38, v39), (39, v40), (40, v41), (41, v42), (42, v43), (43, v44), (44, v45), (45, v46), (46, v47), (47, v48), (48, v49), (49, v50), (50, v51), (51, v52), (52, v53), (53, v54), (54, v55), (55, v56), (56, v57), (57, v58), (58, v59), (59, v60), (60, v61), (61, v62), (62, v63), (63, v64), (64, v65), (65, v66), (66, v67), (67, v68), (68, v69)]) w fun v70 w =>
 kU P (Instr.storeAt 160 v0 v70) w fun _ w =>
 retV P 160 v0 w fun r0 =>
 K r0 w
theorem F68_eq : funE P ⟨[], [], []⟩ Tryz.f68 [] w K = F68 P w K  := by kernel_rfl
theorem F68_ok  (h : F68 Tryz.prog w K ) : callsK Tryz.prog 68 #[] w K := calls_of_eq mixedX Tryz.func68 (F68_eq _ w K ) h
def F69 (t0 t1 : Value) : Prop :=
 kV P (Instr.box 106 t0) w fun v2 w =>
 kV P (Instr.fieldAt 106 v2 0) w fun v8 w =>
 kV P (Instr.loadAt 104 v8) w fun v9 w =>
 kV P (Builtin.len_ #[104] 3 #[v9]) w fun v10 w =>
 loopT (fun R0 s0 w => ∀ _ : Nat -> Value,
 kV P (binV .lss 3 (.tmp 11) (.tmp 10) (s0.getD 1 undef) v10) w fun v12 w =>
 condK v12
 (joinL (fun J2 =>
 kV P (Instr.indexAt 104 v9 (s0.getD 1 undef)) w fun v13 w =>
 kV P (Instr.loadAt 169 v13) w fun v14 w =>
 kV P (Instr.alloc 169 true (.tuple #[])) w fun v7 w =>
 kU P (Instr.storeAt 169 v7 v14) w fun _ w =>
 drewK (fun w =>
 relX fun R4 =>
 postX R4 (fun p4_15 => allX R4 w fun V4 w => True -> (okX R4 w p4_15) (s0.getD 0 undef) w) fun p4_15 =>
 postX R4 (fun p4_16 => allX R4 w fun V4 w => True -> kV P (Instr.fieldAt 169 v7 0) w (okX R4 w p4_16)) fun p4_16 =>
 postX R4 (fun p4_17 => allX R4 w fun V4 w => p4_16 (V4 16) w /\ True -> kV P (Instr.loadAt 3 (V4 16)) w (okX R4 w p4_17)) fun p4_17 =>
 postX R4 (fun p4_18 => allX R4 w fun V4 w => True -> kV P (Instr.fieldAt 169 v7 1) w (okX R4 w p4_18)) fun p4_18 =>
 postX R4 (fun p4_19 => allX R4 w fun V4 w => p4_18 (V4 18) w /\ True -> kV P (Instr.loadAt 3 (V4 18)) w (okX R4 w p4_19)) fun p4_19 =>
 postX R4 (fun p4_20 => allX R4 w fun V4 w => True -> (okX R4 w p4_20) t1 w) fun p4_20 =>
 postX R4 (fun p4_21 => allX R4 w fun V4 w => True -> kV P (Instr.fieldAt 169 v7 2) w (okX R4 w p4_21)) fun p4_21 =>
 postX R4 (fun p4_22 => allX R4 w fun V4 w => p4_21 (V4 21) w /\ True -> kV P (Instr.loadAt 3 (V4 21)) w (okX R4 w p4_22)) fun p4_22 =>
 postX R4 (fun p4_23 => allX R4 w fun V4 w => True -> kV P (Instr.fieldAt 169 v7 1) w (okX R4 w p4_23)) fun p4_23 =>
 postX R4 (fun p4_24 => allX R4 w fun V4 w => p4_23 (V4 23) w /\ True -> kV P (Instr.loadAt 3 (V4 23)) w (okX R4 w p4_24)) fun p4_24 =>
 postX R4 (fun p4_25 => allX R4 w fun V4 w => p4_20 (V4 20) w /\ p4_22 (V4 22) w /\ p4_24 (V4 24) w /\ True -> kN P (callN (.func (.func 43) #[] #[]) #[(V4 20), (V4 22), (V4 24)]) w (okX R4 w p4_25)) fun p4_25 =>
 allX R4 w fun V4 w => p4_15 (V4 15) w /\ p4_16 (V4 16) w /\ p4_17 (V4 17) w /\ p4_18 (V4 18) w /\ p4_19 (V4 19) w /\ p4_20 (V4 20) w /\ p4_21 (V4 21) w /\ p4_22 (V4 22) w /\ p4_23 (V4 23) w /\ p4_24 (V4 24) w /\ p4_25 (V4 25) w /\ True -> xDist V4 [] ->
 kN P (callN (.func (.func 41) #[] #[]) #[(V4 15), (V4 17), (V4 19), (V4 25)]) w fun v26 w =>
 J2 [v26] w) w) fun s2 w => ∀ _ : Nat -> Value,
 kV P (binV .add 3 (.tmp 11) (.const (.int .i64 1)) (s0.getD 1 undef) (.int .i64 1)) w fun v27 w =>
 R0 [(s2.getD 0 undef), v27] w)
 (joinL (fun J5 =>
 kV P (Instr.fieldAt 106 v2 2) w fun v28 w =>
 kV P (Instr.loadAt 4 v28) w fun v29 w =>
 condK v29
 (kV P (Instr.fieldAt 106 v2 1) w fun v31 w =>
 kV P (Instr.loadAt 3 v31) w fun v32 w =>
 kN P (callN (.func (.func 83) #[] #[]) #[(s0.getD 0 undef), v32]) w fun v33 w =>
 J5 [v33] w)
 (J5 [(s0.getD 0 undef)] w)) fun s5 w => ∀ _ : Nat -> Value,
 kV P (convert 22 2 (s5.getD 0 undef)) w fun v35 w =>
 K v35 w)) [(.int .u64 0), (.int .i64 0)] w
theorem F69_eq (t0 t1 : Value) : funE P ⟨[(5, 1011)], [(3, [5, 11])], [(9, [5]), (6, [5])]⟩ Tryz.f69 [t0, t1] w K = F69 P w K t0 t1 := by kernel_rfl
theorem F69_ok (t0 t1 : Value) (h : F69 Tryz.prog w K t0 t1) : callsK Tryz.prog 69 #[t0, t1] w K := calls_of_eq mixedX Tryz.func69 (F69_eq _ w K t0 t1) h
def F70 (t0 : Value) : Prop :=
 kV P (binV .geq 3 (.tmp 3) (.const (.int .i64 5)) t0 (.int .i64 5)) w fun v4 w =>
 joinK (fun J0 : Value -> World -> Prop => gdK (yb v4) true (fun k => k t0 w) w fun v6 w =>
 gdK (yb v4) true (fun k => kV P (binV .leq 3 (.tmp 6) (.const (.int .i64 10)) v6 (.int .i64 10)) w k) w fun v7 w =>
 kN P (pickN v4 v7 (.bool false)) w fun v8_1 w =>
 J0 v8_1 w) fun v8 w =>
 K v8 w
theorem F70_eq (t0 : Value) : funE P ⟨[], [], []⟩ Tryz.f70 [t0] w K = F70 P w K t0 := by kernel_rfl
theorem F70_ok (t0 : Value) (h : F70 Tryz.prog w K t0) : callsK Tryz.prog 70 #[t0] w K := calls_of_eq mixedX Tryz.func70 (F70_eq _ w K t0) h
def F72 (t0 : Value) : Prop :=
 kV P (Instr.build 185 #[(0, (.int .i64 1)), (1, (.int .i64 2)), (2, (.int .i64 4)), (3, (.int .i64 8))]) w fun v5 w =>
 kV P (Instr.alloc 185 true (.tuple #[])) w fun v3 w =>
 kU P (Instr.storeAt 185 v3 v5) w fun _ w =>
 kV P (Instr.build 186 #[(0, (.int .i64 1)), (1, (.int .i64 2)), (2, (.int .i64 4)), (3, (.int .i64 8)), (4, (.int .i64 1)), (5, (.int .i64 2)), (6, (.int .i64 4))]) w fun v6 w =>
 kV P (Instr.alloc 186 true (.tuple #[])) w fun v4 w =>
 kU P (Instr.storeAt 186 v4 v6) w fun _ w =>
 kN P (callN (.func (.func 97) #[] #[]) #[t0]) w fun v9 w =>
 condK v9
 (kV P (binV .sub 3 (.tmp 10) (.const (.int .i64 11)) t0 (.int .i64 11)) w fun v11 w =>
 kV P (Instr.indexAt 186 v4 v11) w fun v12 w =>
 kV P (Instr.loadAt 3 v12) w fun v13 w =>
 K v13 w)
 (kN P (callN (.func (.func 98) #[] #[]) #[t0]) w fun v16 w =>
 condK v16
 (kV P (binV .sub 3 (.tmp 17) (.const (.int .i64 18)) t0 (.int .i64 18)) w fun v18 w =>
 kV P (Instr.indexAt 185 v3 v18) w fun v19 w =>
 kV P (Instr.loadAt 3 v19) w fun v20 w =>
 K v20 w)
 (kV P (binV .eql 3 (.tmp 22) (.const (.int .i64 43)) t0 (.int .i64 43)) w fun v23 w =>
 joinK (fun J0 : Value -> World -> Prop => gdK (yb v23) false (fun k => k t0 w) w fun v25 w =>
 gdK (yb v23) false (fun k => kV P (binV .eql 3 (.tmp 25) (.const (.int .i64 44)) v25 (.int .i64 44)) w k) w fun v26 w =>
 kN P (pickN v23 (.bool true) v26) w fun v27_1 w =>
 J0 v27_1 w) fun v27 w =>
 condK v27
 (K (.int .i64 16) w)
 (K (.int .i64 0) w)))
theorem F72_eq (t0 : Value) : funE P ⟨[], [], []⟩ Tryz.f72 [t0] w K = F72 P w K t0 := by kernel_rfl
theorem F72_ok (t0 : Value) (h : F72 Tryz.prog w K t0) : callsK Tryz.prog 72 #[t0] w K := calls_of_eq mixedX Tryz.func72 (F72_eq _ w K t0) h
def F74 (t0 t1 : Value) : Prop :=
 kV P (Instr.box 24 t1) w fun v3 w =>
 kV P (Instr.alloc 42 true (.tuple #[])) w fun v4 w =>
 kV P (Instr.alloc 51 true (.tuple #[])) w fun v5 w =>
 joinL (fun J0 =>
 drewK (fun w =>
 relX fun R4 =>
 postX R4 (fun p4_6 => allX R4 w fun V4 w => True -> (okX R4 w p4_6) t0 w) fun p4_6 =>
 postX R4 (fun p4_7 => allX R4 w fun V4 w => True -> (okX R4 w p4_7) t0 w) fun p4_7 =>
 postX R4 (fun p4_8 => allX R4 w fun V4 w => p4_7 (V4 7) w /\ True -> kN P (nilN (V4 7)) w (okX R4 w p4_8)) fun p4_8 =>
 postX R4 (fun p4_9 => allX R4 w fun V4 w => p4_8 (V4 8) w /\ True -> kV P (Instr.fieldAt 91 (V4 8) 0) w (okX R4 w p4_9)) fun p4_9 =>
 postX R4 (fun p4_10 => allX R4 w fun V4 w => p4_9 (V4 9) w /\ True -> kV P (Instr.loadAt 42 (V4 9)) w (okX R4 w p4_10)) fun p4_10 =>
 postX R4 (fun p4_11 => allX R4 w fun V4 w => True -> (okX R4 w p4_11) t0 w) fun p4_11 =>
 postX R4 (fun p4_12 => allX R4 w fun V4 w => p4_11 (V4 11) w /\ True -> kN P (nilN (V4 11)) w (okX R4 w p4_12)) fun p4_12 =>
 postX R4 (fun p4_13 => allX R4 w fun V4 w => p4_12 (V4 12) w /\ True -> kV P (Instr.fieldAt 91 (V4 12) 3) w (okX R4 w p4_13)) fun p4_13 =>
 postX R4 (fun p4_14 => allX R4 w fun V4 w => p4_13 (V4 13) w /\ True -> kV P (Instr.fieldAt 49 (V4 13) 1) w (okX R4 w p4_14)) fun p4_14 =>
 postX R4 (fun p4_15 => allX R4 w fun V4 w => p4_14 (V4 14) w /\ True -> kV P (Instr.loadAt 3 (V4 14)) w (okX R4 w p4_15)) fun p4_15 =>
 postX R4 (fun p4_16 => allX R4 w fun V4 w => True -> kV P (Instr.loadAt 24 v3) w (okX R4 w p4_16)) fun p4_16 =>
 postX R4 (fun p4_17 => allX R4 w fun V4 w => p4_10 (V4 10) w /\ p4_15 (V4 15) w /\ p4_16 (V4 16) w /\ True -> kN P (callN (.func (.func 9) #[] #[]) #[(V4 10), (V4 15), (V4 16)]) w (okX R4 w p4_17)) fun p4_17 =>
 allX R4 w fun V4 w => p4_6 (V4 6) w /\ p4_7 (V4 7) w /\ p4_8 (V4 8) w /\ p4_9 (V4 9) w /\ p4_10 (V4 10) w /\ p4_11 (V4 11) w /\ p4_12 (V4 12) w /\ p4_13 (V4 13) w /\ p4_14 (V4 14) w /\ p4_15 (V4 15) w /\ p4_16 (V4 16) w /\ p4_17 (V4 17) w /\ True -> xDist V4 [] ->
 kN P (nilN (V4 6)) w fun v18 w =>
 kV P (Instr.fieldAt 91 v18 0) w fun v19 w =>
 kU P (Instr.storeAt 42 v19 (V4 17)) w fun _ w =>
 J0 [] w) w) fun s0 w => ∀ _ : Nat -> Value,
 kN P (callN (.func (.func 96) #[] #[]) #[t0]) w fun v21 w =>
 kV P (Instr.extract v21 0) w fun v22 w =>
 kV P (Instr.extract v21 1) w fun v23 w =>
 kU P (Instr.storeAt 42 v4 v22) w fun _ w =>
 kU P (Instr.storeAt 51 v5 v23) w fun _ w =>
 retV P 42 v4 w fun r2 =>
 retV P 51 v5 w fun r3 =>
 K (.tuple #[r2, r3]) w
theorem F74_eq (t0 t1 : Value) : funE P ⟨[(1, 1012)], [], [(2, [])]⟩ Tryz.f74 [t0, t1] w K = F74 P w K t0 t1 := by kernel_rfl
theorem F74_ok (t0 t1 : Value) (h : F74 Tryz.prog w K t0 t1) : callsK Tryz.prog 74 #[t0, t1] w K := calls_of_eq mixedX Tryz.func74 (F74_eq _ w K t0 t1) h
def F77 (t0 t1 : Value) : Prop :=
 kV P (Instr.alloc 42 true (.tuple #[])) w fun v4 w =>
 kV P (Instr.alloc 51 true (.tuple #[])) w fun v5 w =>
 kN P (callN (.func (.func 33) #[] #[]) #[t1]) w fun v8 w =>
 kN P (callN (.func (.func 74) #[] #[]) #[t0, v8]) w fun v9 w =>
 kV P (Instr.extract v9 0) w fun v10 w =>
 kV P (Instr.extract v9 1) w fun v11 w =>
 kU P (Instr.storeAt 42 v4 v10) w fun _ w =>
 kU P (Instr.storeAt 51 v5 v11) w fun _ w =>
 retV P 42 v4 w fun r0 =>
 retV P 51 v5 w fun r1 =>
 K (.tuple #[r0, r1]) w
theorem F77_eq (t0 t1 : Value) : funE P ⟨[], [], []⟩ Tryz.f77 [t0, t1] w K = F77 P w K t0 t1 := by kernel_rfl
theorem F77_ok (t0 t1 : Value) (h : F77 Tryz.prog w K t0 t1) : callsK Tryz.prog 77 #[t0, t1] w K := calls_of_eq mixedX Tryz.func77 (F77_eq _ w K t0 t1) h
def F78 (t0 : Value) : Prop :=
 kV P (binV .geq 3 (.tmp 3) (.const (.int .i64 22)) t0 (.int .i64 22)) w fun v4 w =>
 joinK (fun J0 : Value -> World -> Prop => gdK (yb v4) true (fun k => k t0 w) w fun v6 w =>
 gdK (yb v4) true (fun k => kV P (binV .leq 3 (.tmp 6) (.const (.int .i64 30)) v6 (.int .i64 30)) w k) w fun v7 w =>
 kN P (pickN v4 v7 (.bool false)) w fun v8_1 w =>
 J0 v8_1 w) fun v8 w =>
 K v8 w
theorem F78_eq (t0 : Value) : funE P ⟨[], [], []⟩ Tryz.f78 [t0] w K = F78 P w K t0 := by kernel_rfl
theorem F78_ok (t0 : Value) (h : F78 Tryz.prog w K t0) : callsK Tryz.prog 78 #[t0] w K := calls_of_eq mixedX Tryz.func78 (F78_eq _ w K t0) h
def F79 (t0 t1 t2 : Value) : Prop :=
 kV P (binV .rem 22 (.tmp 9) (.const (.int .u64 64)) t2 (.int .u64 64)) w fun v10 w =>
 joinL (fun J0 =>
 kV P (binV .eql 3 (.tmp 11) (.const (.int .i64 31)) t0 (.int .i64 31)) w fun v13 w =>
 condK v13
 (J0 [v13] w)
 (kV P (binV .eql 3 (.tmp 11) (.const (.int .i64 22)) t0 (.int .i64 22)) w fun v14 w =>
 J0 [v14] w)) fun s0 w => ∀ _ : Nat -> Value,
 condK (s0.getD 0 undef)
 (kV P (binV .add 22 (.tmp 15) (.tmp 16) t1 t2) w fun v17 w =>
 K (.tuple #[v17, (.bool true)]) w)
 (kV P (binV .eql 3 (.tmp 11) (.const (.int .i64 32)) t0 (.int .i64 32)) w fun v19 w =>
 condK v19
 (kV P (binV .sub 22 (.tmp 20) (.tmp 21) t1 t2) w fun v22 w =>
 K (.tuple #[v22, (.bool true)]) w)
 (joinL (fun J2 =>
 kV P (binV .eql 3 (.tmp 11) (.const (.int .i64 40)) t0 (.int .i64 40)) w fun v24 w =>
 condK v24
 (J2 [v24] w)
 (kV P (binV .eql 3 (.tmp 11) (.const (.int .i64 27)) t0 (.int .i64 27)) w fun v25 w =>
 J2 [v25] w)) fun s2 w => ∀ _ : Nat -> Value,
 condK (s2.getD 0 undef)
 (kV P (binV .and 22 (.tmp 26) (.tmp 27) t1 t2) w fun v28 w =>
 K (.tuple #[v28, (.bool true)]) w)
 (joinL (fun J4 =>
 kV P (binV .eql 3 (.tmp 11) (.const (.int .i64 39)) t0 (.int .i64 39)) w fun v30 w =>
 condK v30
 (J4 [v30] w)
 (kV P (binV .eql 3 (.tmp 11) (.const (.int .i64 26)) t0 (.int .i64 26)) w fun v31 w =>
 J4 [v31] w)) fun s4 w => ∀ _ : Nat -> Value,
 condK (s4.getD 0 undef)
 (kV P (binV .or 22 (.tmp 32) (.tmp 33) t1 t2) w fun v34 w =>
 K (.tuple #[v34, (.bool true)]) w)
 (joinL (fun J6 =>
 kV P (binV .eql 3 (.tmp 11) (.const (.int .i64 36)) t0 (.int .i64 36)) w fun v36 w =>
 condK v36
 (J6 [v36] w)
 (kV P (binV .eql 3 (.tmp 11) (.const (.int .i64 25)) t0 (.int .i64 25)) w fun v37 w =>
 J6 [v37] w)) fun s6 w => ∀ _ : Nat -> Value,
 condK (s6.getD 0 undef)
 (kV P (binV .xor 22 (.tmp 38) (.tmp 39) t1 t2) w fun v40 w =>
 K (.tuple #[v40, (.bool true)]) w)
 (joinL (fun J8 =>
 kV P (binV .eql 3 (.tmp 11) (.const (.int .i64 33)) t0 (.int .i64 33)) w fun v42 w =>
 condK v42
 (J8 [v42] w)
 (kV P (binV .eql 3 (.tmp 11) (.const (.int .i64 28)) t0 (.int .i64 28)) w fun v43 w =>
 J8 [v43] w)) fun s8 w => ∀ _ : Nat -> Value,
 condK (s8.getD 0 undef)
 (kV P (binV .shl 22 (.tmp 44) (.tmp 45) t1 v10) w fun v46 w =>
 K (.tuple #[v46, (.bool true)]) w)
 (joinL (fun J10 =>
 kV P (binV .eql 3 (.tmp 11) (.const (.int .i64 37)) t0 (.int .i64 37)) w fun v48 w =>
 condK v48
 (J10 [v48] w)
 (kV P (binV .eql 3 (.tmp 11) (.const (.int .i64 29)) t0 (.int .i64 29)) w fun v49 w =>
 J10 [v49] w)) fun s10 w => ∀ _ : Nat -> Value,
 condK (s10.getD 0 undef)
 (kV P (binV .shr 22 (.tmp 50) (.tmp 51) t1 v10) w fun v52 w =>
 K (.tuple #[v52, (.bool true)]) w)
 (joinL (fun J12 =>
 kV P (binV .eql 3 (.tmp 11) (.const (.int .i64 38)) t0 (.int .i64 38)) w fun v54 w =>
 condK v54
 (J12 [v54] w)
 (kV P (binV .eql 3 (.tmp 11) (.const (.int .i64 30)) t0 (.int .i64 30)) w fun v55 w =>
 J12 [v55] w)) fun s12 w => ∀ _ : Nat -> Value,
 condK (s12.getD 0 undef)
 (kV P (convert 22 2 t1) w fun v57 w =>
 kV P (binV .shr 2 (.tmp 57) (.tmp 58) v57 v10) w fun v59 w =>
 kV P (convert 2 22 v59) w fun v60 w =>
 K (.tuple #[v60, (.bool true)]) w)
 (joinL (fun J14 =>
 kV P (binV .eql 3 (.tmp 11) (.const (.int .i64 34)) t0 (.int .i64 34)) w fun v62 w =>
 condK v62
 (J14 [v62] w)
 (kV P (binV .eql 3 (.tmp 11) (.const (.int .i64 23)) t0 (.int .i64 23)) w fun v63 w =>
 J14 [v63] w)) fun s14 w => ∀ _ : Nat -> Value,
 condK (s14.getD 0 undef)
 (kV P (convert 22 2 t1) w fun v65 w =>
 kV P (convert 22 2 t2) w fun v67 w =>
 kV P (binV .lss 2 (.tmp 65) (.tmp 67) v65 v67) w fun v68 w =>
 kN P (callN (.func (.func 102) #[] #[]) #[v68]) w fun v69 w =>
 K (.tuple #[v69, (.bool true)]) w)
 (joinL (fun J16 =>
 kV P (binV .eql 3 (.tmp 11) (.const (.int .i64 35)) t0 (.int .i64 35)) w fun v71 w =>
 condK v71
 (J16 [v71] w)
 (kV P (binV .eql 3 (.tmp 11) (.const (.int .i64 24)) t0 (.int .i64 24)) w fun v72 w =>
 J16 [v72] w)) fun s16 w => ∀ _ : Nat -> Value,
 condK (s16.getD 0 undef)
 (kV P (binV .lss 22 (.tmp 73) (.tmp 74) t1 t2) w fun v75 w =>
 kN P (callN (.func (.func 102) #[] #[]) #[v75]) w fun v76 w =>
 K (.tuple #[v76, (.bool true)]) w)
 (K (.tuple #[(.int .u64 0), (.bool false)]) w))))))))))
theorem F79_eq (t0 t1 t2 : Value) : funE P ⟨[], [], [(5, [12]), (10, [23]), (13, [29]), (16, [35]), (19, [41]), (22, [47]), (25, [53]), (28, [61]), (31, [70])]⟩ Tryz.f79 [t0, t1, t2] w K = F79 P w K t0 t1 t2 := by kernel_rfl
theorem F79_ok (t0 t1 t2 : Value) (h : F79 Tryz.prog w K t0 t1 t2) : callsK Tryz.prog 79 #[t0, t1, t2] w K := calls_of_eq mixedX Tryz.func79 (F79_eq _ w K t0 t1 t2) h
def F82 (t0 t1 t2 t3 t4 : Value) : Prop :=
 drewK (fun w =>
 relX fun R0 =>
 postX R0 (fun p0_8 => allX R0 w fun V0 w => True -> kV P (Instr.loadAt 22 t3) w (okX R0 w p0_8)) fun p0_8 =>
 postX R0 (fun p0_9 => allX R0 w fun V0 w => True -> (okX R0 w p0_9) t0 w) fun p0_9 =>
 postX R0 (fun p0_10 => allX R0 w fun V0 w => True -> (okX R0 w p0_10) t1 w) fun p0_10 =>
 postX R0 (fun p0_11 => allX R0 w fun V0 w => True -> (okX R0 w p0_11) t2 w) fun p0_11 =>
 postX R0 (fun p0_12 => allX R0 w fun V0 w => p0_8 (V0 8) w /\ p0_9 (V0 9) w /\ p0_10 (V0 10) w /\ p0_11 (V0 11) w /\ True -> kN P (callN (.func (.func 41) #[] #[]) #[(V0 8), (V0 9), (V0 10), (V0 11)]) w (okX R0 w p0_12)) fun p0_12 =>
 postX R0 (fun p0_13 => allX R0 w fun V0 w => True -> kV P (Instr.loadAt 22 t4) w (okX R0 w p0_13)) fun p0_13 =>
 postX R0 (fun p0_14 => allX R0 w fun V0 w => True -> (okX R0 w p0_14) t0 w) fun p0_14 =>
 postX R0 (fun p0_15 => allX R0 w fun V0 w => True -> (okX R0 w p0_15) t1 w) fun p0_15 =>
 allX R0 w fun V0 w => p0_8 (V0 8) w /\ p0_9 (V0 9) w /\ p0_10 (V0 10) w /\ p0_11 (V0 11) w /\ p0_12 (V0 12) w /\ p0_13 (V0 13) w /\ p0_14 (V0 14) w /\ p0_15 (V0 15) w /\ True -> xDist V0 [] ->
 kN P (callN (.func (.func 41) #[] #[]) #[(V0 13), (V0 14), (V0 15), (.int .u64 18446744073709551615)]) w fun v16 w =>
 kU P (Instr.storeAt 22 t3 (V0 12)) w fun _ w =>
 kU P (Instr.storeAt 22 t4 v16) w fun _ w =>
 K (.tuple #[]) w) w
theorem F82_eq (t0 t1 t2 t3 t4 : Value) : funE P ⟨[(0, 1008)], [], []⟩ Tryz.f82 [t0, t1, t2, t3, t4] w K = F82 P w K t0 t1 t2 t3 t4 := by kernel_rfl
theorem F82_ok (t0 t1 t2 t3 t4 : Value) (h : F82 Tryz.prog w K t0 t1 t2 t3 t4) : callsK Tryz.prog 82 #[t0, t1, t2, t3, t4] w K := calls_of_eq mixedX Tryz.func82 (F82_eq _ w K t0 t1 t2 t3 t4) h
def F83 (t0 t1 : Value) : Prop :=
 kV P (binV .lss 3 (.tmp 6) (.const (.int .i64 1)) t1 (.int .i64 1)) w fun v7 w =>
 joinK (fun J0 : Value -> World -> Prop => gdK (yb v7) false (fun k => k t1 w) w fun v9 w =>
 gdK (yb v7) false (fun k => kV P (binV .gtr 3 (.tmp 9) (.const (.int .i64 64)) v9 (.int .i64 64)) w k) w fun v10 w =>
 kN P (pickN v7 (.bool true) v10) w fun v11_1 w =>
 J0 v11_1 w) fun v11 w =>
 condK v11
 (K (.int .u64 0) w)
 (kV P (binV .sub 3 (.const (.int .i64 64)) (.tmp 12) (.int .i64 64) t1) w fun v13 w =>
 kV P (binV .shl 22 (.tmp 14) (.tmp 15) t0 v13) w fun v16 w =>
 kV P (convert 22 2 v16) w fun v17 w =>
 kV P (binV .shr 2 (.tmp 17) (.tmp 18) v17 v13) w fun v19 w =>
 kV P (convert 2 22 v19) w fun v20 w =>
 K v20 w)
theorem F83_eq (t0 t1 : Value) : funE P ⟨[], [], []⟩ Tryz.f83 [t0, t1] w K = F83 P w K t0 t1 := by kernel_rfl
theorem F83_ok (t0 t1 : Value) (h : F83 Tryz.prog w K t0 t1) : callsK Tryz.prog 83 #[t0, t1] w K := calls_of_eq mixedX Tryz.func83 (F83_eq _ w K t0 t1) h
def F86 (t0 : Value) : Prop :=
 kV P (Instr.box 24 t0) w fun v1 w =>
 kV P (Instr.loadAt 24 v1) w fun v6 w =>
 kN P (callN (.func (.func 15) #[] #[]) #[v6]) w fun v7 w =>
 kV P (Instr.extract v7 0) w fun v8 w =>
 kV P (Instr.extract v7 1) w fun v9 w =>
 kV P (Instr.alloc 28 true (.tuple #[])) w fun v3 w =>
 kU P (Instr.storeAt 28 v3 v8) w fun _ w =>
 drewK (fun w =>
 relX fun R0 =>
 postX R0 (fun p0_10 => allX R0 w fun V0 w => True -> (okX R0 w p0_10) v9 w) fun p0_10 =>
 postX R0 (fun p0_11 => allX R0 w fun V0 w => p0_10 (V0 10) w /\ True -> (okX R0 w p0_11) (V0 10) w) fun p0_11 =>
 postX R0 (fun p0_12 => allX R0 w fun V0 w => p0_11 (V0 11) w /\ True -> gdK (yb (V0 11)) true (fun k => kV P (Instr.fieldAt 24 v1 1) w k) w (okX R0 w p0_12)) fun p0_12 =>
 postX R0 (fun p0_13 => allX R0 w fun V0 w => p0_11 (V0 11) w /\ p0_12 (V0 12) w /\ True -> gdK (yb (V0 11)) true (fun k => kV P (Instr.loadAt 22 (V0 12)) w k) w (okX R0 w p0_13)) fun p0_13 =>
 postX R0 (fun p0_14 => allX R0 w fun V0 w => p0_11 (V0 11) w /\ p0_13 (V0 13) w /\ True -> gdK (yb (V0 11)) true (fun k => kN P (callN (.func (.func 42) #[] #[]) #[(V0 13)]) w k) w (okX R0 w p0_14)) fun p0_14 =>
 postX R0 (fun p0_15 => allX R0 w fun V0 w => p0_11 (V0 11) w /\ True -> gdK (yb (V0 11)) true (fun k => kV P (Instr.loadAt 28 v3) w k) w (okX R0 w p0_15)) fun p0_15 =>
 postX R0 (fun p0_16 => allX R0 w fun V0 w => p0_11 (V0 11) w /\ p0_14 (V0 14) w /\ p0_15 (V0 15) w /\ True -> gdK (yb (V0 11)) true (fun k => kN P (callN (.func (.func 20) #[] #[]) #[(V0 14), (V0 15)]) w k) w (okX R0 w p0_16)) fun p0_16 =>
 postX R0 (fun p0_17 => allX R0 w fun V0 w => p0_11 (V0 11) w /\ True -> gdK (yb (V0 11)) true (fun k => kV P (Instr.fieldAt 24 v1 1) w k) w (okX R0 w p0_17)) fun p0_17 =>
 postX R0 (fun p0_18 => allX R0 w fun V0 w => p0_11 (V0 11) w /\ p0_17 (V0 17) w /\ True -> gdK (yb (V0 11)) true (fun k => kV P (Instr.loadAt 22 (V0 17)) w k) w (okX R0 w p0_18)) fun p0_18 =>
 postX R0 (fun p0_19 => allX R0 w fun V0 w => p0_11 (V0 11) w /\ p0_16 (V0 16) w /\ p0_18 (V0 18) w /\ True -> gdK (yb (V0 11)) true (fun k => kV P (binV .eql 22 (.tmp 16) (.tmp 18) (V0 16) (V0 18)) w k) w (okX R0 w p0_19)) fun p0_19 =>
 postX R0 (fun p0_20 => allX R0 w fun V0 w => p0_11 (V0 11) w /\ p0_19 (V0 19) w /\ True -> kN P (pickN (V0 11) (V0 19) (.bool false)) w (okX R0 w p0_20)) fun p0_20 =>
 allX R0 w fun V0 w => p0_10 (V0 10) w /\ p0_11 (V0 11) w /\ p0_12 (V0 12) w /\ p0_13 (V0 13) w /\ p0_14 (V0 14) w /\ p0_15 (V0 15) w /\ p0_16 (V0 16) w /\ p0_17 (V0 17) w /\ p0_18 (V0 18) w /\ p0_19 (V0 19) w /\ p0_20 (V0 20) w /\ True -> xDist V0 [] ->
 K (V0 20) w) w
theorem F86_eq (t0 : Value) : funE P ⟨[(2, 1011)], [], []⟩ Tryz.f86 [t0] w K = F86 P w K t0 := by kernel_rfl
theorem F86_ok (t0 : Value) (h : F86 Tryz.prog w K t0) : callsK Tryz.prog 86 #[t0] w K := calls_of_eq mixedX Tryz.func86 (F86_eq _ w K t0) h
def F87 (t0 : Value) : Prop :=
 kV P (Instr.box 24 t0) w fun v1 w =>
 kV P (Instr.alloc 24 true (.tuple #[])) w fun v2 w =>
 kV P (Instr.fieldAt 24 v1 1) w fun v3 w =>
 kV P (Instr.loadAt 22 v3) w fun v4 w =>
 kV P (Instr.fieldAt 24 v1 2) w fun v5 w =>
 kV P (Instr.loadAt 22 v5) w fun v6 w =>
 kV P (Instr.build 24 #[(1, v4), (2, v6)]) w fun v7 w =>
 kU P (Instr.storeAt 24 v2 v7) w fun _ w =>
 retV P 24 v2 w fun r0 =>
 K r0 w
theorem F87_eq (t0 : Value) : funE P ⟨[], [], []⟩ Tryz.f87 [t0] w K = F87 P w K t0 := by kernel_rfl
theorem F87_ok (t0 : Value) (h : F87 Tryz.prog w K t0) : callsK Tryz.prog 87 #[t0] w K := calls_of_eq mixedX Tryz.func87 (F87_eq _ w K t0) h
def F88 (t0 : Value) : Prop :=
 kN P (callN (.func (.func 109) #[] #[]) #[t0]) w fun v4 w =>
 kV P (binV .sub 3 (.tmp 4) (.const (.int .i64 1)) v4 (.int .i64 1)) w fun v5 w =>
 K v5 w
theorem F88_eq (t0 : Value) : funE P ⟨[], [], []⟩ Tryz.f88 [t0] w K = F88 P w K t0 := by kernel_rfl
theorem F88_ok (t0 : Value) (h : F88 Tryz.prog w K t0) : callsK Tryz.prog 88 #[t0] w K := calls_of_eq mixedX Tryz.func88 (F88_eq _ w K t0) h
def F89 (t0 t1 : Value) : Prop :=
 kV P (Instr.box 26 t0) w fun v2 w =>
 kV P (Instr.alloc 26 true (.tuple #[])) w fun v4 w =>
 kV P (Instr.fieldAt 26 v2 1) w fun v10 w =>
 kV P (Instr.loadAt 22 v10) w fun v11 w =>
 kN P (callN (.func (.func 110) #[] #[]) #[v11, t1]) w fun v13 w =>
 kV P (Instr.extract v13 0) w fun v14 w =>
 kV P (Instr.extract v13 1) w fun v15 w =>
 kV P (Instr.fieldAt 26 v2 0) w fun v16 w =>
 kV P (Instr.loadAt 22 v16) w fun v17 w =>
 kN P (callN (.func (.func 111) #[] #[]) #[v17, t1]) w fun v19 w =>
 kV P (Instr.build 26 #[(0, v19), (1, v14)]) w fun v21 w =>
 kV P (Instr.alloc 26 true (.tuple #[])) w fun v8 w =>
 kU P (Instr.storeAt 26 v8 v21) w fun _ w =>
 drewK (fun w =>
 relX fun R0 =>
 postX R0 (fun p0_22 => allX R0 w fun V0 w => True -> kV P (Instr.loadAt 26 v8) w (okX R0 w p0_22)) fun p0_22 =>
 postX R0 (fun p0_23 => allX R0 w fun V0 w => True -> kV P (Instr.fieldAt 26 v8 1) w (okX R0 w p0_23)) fun p0_23 =>
 postX R0 (fun p0_24 => allX R0 w fun V0 w => p0_23 (V0 23) w /\ True -> kV P (Instr.loadAt 22 (V0 23)) w (okX R0 w p0_24)) fun p0_24 =>
 postX R0 (fun p0_25 => allX R0 w fun V0 w => True -> kV P (Instr.fieldAt 26 v8 0) w (okX R0 w p0_25)) fun p0_25 =>
 postX R0 (fun p0_26 => allX R0 w fun V0 w => p0_25 (V0 25) w /\ True -> kV P (Instr.loadAt 22 (V0 25)) w (okX R0 w p0_26)) fun p0_26 =>
 postX R0 (fun p0_27 => allX R0 w fun V0 w => p0_24 (V0 24) w /\ p0_26 (V0 26) w /\ True -> kV P (binV .sub 22 (.tmp 24) (.tmp 26) (V0 24) (V0 26)) w (okX R0 w p0_27)) fun p0_27 =>
 postX R0 (fun p0_28 => allX R0 w fun V0 w => True -> (okX R0 w p0_28) t1 w) fun p0_28 =>
 postX R0 (fun p0_29 => allX R0 w fun V0 w => p0_27 (V0 27) w /\ p0_28 (V0 28) w /\ True -> kV P (binV .shr 22 (.tmp 27) (.tmp 28) (V0 27) (V0 28)) w (okX R0 w p0_29)) fun p0_29 =>
 postX R0 (fun p0_n8 => allX R0 w fun V0 w => p0_22 (V0 22) w /\ True -> kU P (Instr.storeAt 26 v4 (V0 22)) w (okX R0 w p0_n8)) fun p0_n8 =>
 allX R0 w fun V0 w => p0_22 (V0 22) w /\ p0_23 (V0 23) w /\ p0_24 (V0 24) w /\ p0_25 (V0 25) w /\ p0_26 (V0 26) w /\ p0_27 (V0 27) w /\ p0_28 (V0 28) w /\ p0_29 (V0 29) w /\ (∃ u, p0_n8 u w) /\ True -> xDist V0 [] ->
 retV P 26 v4 w fun r1 =>
 K (.tuple #[r1, (V0 29)]) w) w
theorem F89_eq (t0 t1 : Value) : funE P ⟨[(3, 1009)], [], []⟩ Tryz.f89 [t0, t1] w K = F89 P w K t0 t1 := by kernel_rfl
theorem F89_ok (t0 t1 : Value) (h : F89 Tryz.prog w K t0 t1) : callsK Tryz.prog 89 #[t0, t1] w K := calls_of_eq mixedX Tryz.func89 (F89_eq _ w K t0 t1) h
def F90 (t0 t1 : Value) : Prop :=
 kV P (Instr.box 131 t0) w fun v2 w =>
 kV P (Instr.loadAt 22 t1) w fun v3 w =>
 kV P (Instr.fieldAt 131 v2 0) w fun v4 w =>
 kV P (Instr.loadAt 3 v4) w fun v5 w =>
 kV P (Instr.fieldAt 131 v2 1) w fun v6 w =>
 kV P (Instr.loadAt 3 v6) w fun v7 w =>
 kV P (Instr.fieldAt 131 v2 2) w fun v8 w =>
 kV P (Instr.loadAt 22 v8) w fun v9 w =>
 kN P (callN (.func (.func 41) #[] #[]) #[v3, v5, v7, v9]) w fun v10 w =>
 kU P (Instr.storeAt 22 t1 v10) w fun _ w =>
 K (.tuple #[]) w
theorem F90_eq (t0 t1 : Value) : funE P ⟨[], [], []⟩ Tryz.f90 [t0, t1] w K = F90 P w K t0 t1 := by kernel_rfl
theorem F90_ok (t0 t1 : Value) (h : F90 Tryz.prog w K t0 t1) : callsK Tryz.prog 90 #[t0, t1] w K := calls_of_eq mixedX Tryz.func90 (F90_eq _ w K t0 t1) h
def F92 (t0 t1 : Value) : Prop :=
 kV P (Instr.box 35 t0) w fun v2 w =>
 kV P (Instr.alloc 35 true (.tuple #[])) w fun v4 w =>
 loopT (fun R0 s0 w => ∀ _ : Nat -> Value,
 kV P (Instr.fieldAt 35 v2 3) w fun v8 w =>
 kV P (Instr.loadAt 32 v8) w fun v9 w =>
 kV P (Builtin.len_ #[32] 3 #[v9]) w fun v10 w =>
 kV P (binV .lss 3 (.tmp 7) (.tmp 10) (s0.getD 1 undef) v10) w fun v11 w =>
 condK v11
 (joinL (fun J2 =>
 kV P (Instr.fieldAt 35 v2 3) w fun v14 w =>
 kV P (Instr.loadAt 32 v14) w fun v15 w =>
 kV P (Instr.indexAt 32 v15 (s0.getD 1 undef)) w fun v17 w =>
 kV P (Instr.loadAt 22 v17) w fun v18 w =>
 kV P (binV .neq 22 (.tmp 18) (.tmp 19) v18 t1) w fun v20 w =>
 condK v20
 (kV P (Instr.fieldAt 35 v2 3) w fun v22 w =>
 kV P (Instr.loadAt 32 v22) w fun v23 w =>
 kV P (Instr.indexAt 32 v23 (s0.getD 1 undef)) w fun v25 w =>
 kV P (Instr.loadAt 22 v25) w fun v26 w =>
 kV P (Instr.buildSlice 32 1 #[(0, v26)]) w fun v27 w =>
 kV P (Builtin.append_ #[32, 32] 32 #[(s0.getD 0 undef), v27]) w fun v28 w =>
 J2 [v28] w)
 (J2 [(s0.getD 0 undef)] w)) fun s2 w => ∀ _ : Nat -> Value,
 kV P (binV .add 3 (.tmp 12) (.const (.int .i64 1)) (s0.getD 1 undef) (.int .i64 1)) w fun v13 w =>
 R0 [(s2.getD 0 undef), v13] w)
 (kV P (Instr.fieldAt 35 v2 3) w fun v30 w =>
 kU P (Instr.storeAt 32 v30 (s0.getD 0 undef)) w fun _ w =>
 kV P (Instr.loadAt 35 v2) w fun v31 w =>
 kU P (Instr.storeAt 35 v4 v31) w fun _ w =>
 retV P 35 v4 w fun r4 =>
 K r4 w)) [(.slice none 0 0), (.int .i64 0)] w
theorem F92_eq (t0 t1 : Value) : funE P ⟨[], [(3, [5, 6])], [(4, [5])]⟩ Tryz.f92 [t0, t1] w K = F92 P w K t0 t1 := by kernel_rfl
theorem F92_ok (t0 t1 : Value) (h : F92 Tryz.prog w K t0 t1) : callsK Tryz.prog 92 #[t0, t1] w K := calls_of_eq mixedX Tryz.func92 (F92_eq _ w K t0 t1) h
def F94 (t0 t1 : Value) : Prop :=
 kN P (callN (.func (.func 112) #[] #[]) #[t0, t1, (.int .u64 0)]) w fun v11 w =>
 kV P (Instr.extract v11 0) w fun v12 w =>
 kV P (Instr.extract v11 1) w fun v13 w =>
 kV P (binV .neq 22 (.tmp 15) (.const (.int .u64 0)) v13 (.int .u64 0)) w fun v16 w =>
 K (.tuple #[v12, v16]) w
theorem F94_eq (t0 t1 : Value) : funE P ⟨[], [], []⟩ Tryz.f94 [t0, t1] w K = F94 P w K t0 t1 := by kernel_rfl
theorem F94_ok (t0 t1 : Value) (h : F94 Tryz.prog w K t0 t1) : callsK Tryz.prog 94 #[t0, t1] w K := calls_of_eq mixedX Tryz.func94 (F94_eq _ w K t0 t1) h
def F96 (t0 : Value) : Prop :=
 kV P (Instr.alloc 42 true (.tuple #[])) w fun v2 w =>
 kV P (Instr.alloc 51 true (.tuple #[])) w fun v3 w =>
 drewK (fun w =>
 relX fun R0 =>
 postX R0 (fun p0_4 => allX R0 w fun V0 w => True -> (okX R0 w p0_4) t0 w) fun p0_4 =>
 postX R0 (fun p0_5 => allX R0 w fun V0 w => p0_4 (V0 4) w /\ True -> kN P (nilN (V0 4)) w (okX R0 w p0_5)) fun p0_5 =>
 postX R0 (fun p0_6 => allX R0 w fun V0 w => p0_5 (V0 5) w /\ True -> kV P (Instr.fieldAt 91 (V0 5) 0) w (okX R0 w p0_6)) fun p0_6 =>
 postX R0 (fun p0_7 => allX R0 w fun V0 w => p0_6 (V0 6) w /\ True -> kV P (Instr.loadAt 42 (V0 6)) w (okX R0 w p0_7)) fun p0_7 =>
 postX R0 (fun p0_8 => allX R0 w fun V0 w => True -> (okX R0 w p0_8) t0 w) fun p0_8 =>
 postX R0 (fun p0_9 => allX R0 w fun V0 w => p0_8 (V0 8) w /\ True -> kN P (nilN (V0 8)) w (okX R0 w p0_9)) fun p0_9 =>
 postX R0 (fun p0_10 => allX R0 w fun V0 w => p0_9 (V0 9) w /\ True -> kV P (Instr.fieldAt 91 (V0 9) 3) w (okX R0 w p0_10)) fun p0_10 =>
 postX R0 (fun p0_11 => allX R0 w fun V0 w => p0_10 (V0 10) w /\ True -> kV P (Instr.loadAt 49 (V0 10)) w (okX R0 w p0_11)) fun p0_11 =>
 postX R0 (fun p0_12 => allX R0 w fun V0 w => p0_11 (V0 11) w /\ True -> kV P (Instr.build 51 #[(3, (V0 11))]) w (okX R0 w p0_12)) fun p0_12 =>
 postX R0 (fun p0_n9 => allX R0 w fun V0 w => p0_4 (V0 4) w /\ p0_5 (V0 5) w /\ p0_6 (V0 6) w /\ p0_7 (V0 7) w /\ True -> kU P (Instr.storeAt 42 v2 (V0 7)) w (okX R0 w p0_n9)) fun p0_n9 =>
 allX R0 w fun V0 w => p0_4 (V0 4) w /\ p0_5 (V0 5) w /\ p0_6 (V0 6) w /\ p0_7 (V0 7) w /\ p0_8 (V0 8) w /\ p0_9 (V0 9) w /\ p0_10 (V0 10) w /\ p0_11 (V0 11) w /\ p0_12 (V0 12) w /\ (∃ u, p0_n9 u w) /\ True -> xDist V0 [] ->
 kU P (Instr.storeAt 51 v3 (V0 12)) w fun _ w =>
 retV P 42 v2 w fun r1 =>
 retV P 51 v3 w fun r2 =>
 K (.tuple #[r1, r2]) w) w
theorem F96_eq (t0 : Value) : funE P ⟨[(1, 1010)], [], []⟩ Tryz.f96 [t0] w K = F96 P w K t0 := by kernel_rfl
theorem F96_ok (t0 : Value) (h : F96 Tryz.prog w K t0) : callsK Tryz.prog 96 #[t0] w K := calls_of_eq mixedX Tryz.func96 (F96_eq _ w K t0) h
def F97 (t0 : Value) : Prop :=
 kV P (binV .geq 3 (.tmp 3) (.const (.int .i64 11)) t0 (.int .i64 11)) w fun v4 w =>
 joinK (fun J0 : Value -> World -> Prop => gdK (yb v4) true (fun k => k t0 w) w fun v6 w =>
 gdK (yb v4) true (fun k => kV P (binV .leq 3 (.tmp 6) (.const (.int .i64 17)) v6 (.int .i64 17)) w k) w fun v7 w =>
 kN P (pickN v4 v7 (.bool false)) w fun v8_1 w =>
 J0 v8_1 w) fun v8 w =>
 K v8 w
theorem F97_eq (t0 : Value) : funE P ⟨[], [], []⟩ Tryz.f97 [t0] w K = F97 P w K t0 := by kernel_rfl
theorem F97_ok (t0 : Value) (h : F97 Tryz.prog w K t0) : callsK Tryz.prog 97 #[t0] w K := calls_of_eq mixedX Tryz.func97 (F97_eq _ w K t0) h
def F98 (t0 : Value) : Prop :=
 kV P (binV .geq 3 (.tmp 3) (.const (.int .i64 18)) t0 (.int .i64 18)) w fun v4 w =>
 joinK (fun J0 : Value -> World -> Prop => gdK (yb v4) true (fun k => k t0 w) w fun v6 w =>
 gdK (yb v4) true (fun k => kV P (binV .leq 3 (.tmp 6) (.const (.int .i64 21)) v6 (.int .i64 21)) w k) w fun v7 w =>
 kN P (pickN v4 v7 (.bool false)) w fun v8_1 w =>
 J0 v8_1 w) fun v8 w =>
 K v8 w
theorem F98_eq (t0 : Value) : funE P ⟨[], [], []⟩ Tryz.f98 [t0] w K = F98 P w K t0 := by kernel_rfl
theorem F98_ok (t0 : Value) (h : F98 Tryz.prog w K t0) : callsK Tryz.prog 98 #[t0] w K := calls_of_eq mixedX Tryz.func98 (F98_eq _ w K t0) h
def F99 (t0 : Value) : Prop :=
 kN P (nilN t0) w fun v5 w =>
 kV P (Instr.fieldAt 91 v5 3) w fun v6 w =>
 kV P (Instr.fieldAt 49 v6 0) w fun v7 w =>
 kV P (Instr.loadAt 3 v7) w fun v8 w =>
 kV P (binV .eql 3 (.tmp 8) (.const (.int .i64 44)) v8 (.int .i64 44)) w fun v9 w =>
 joinK (fun J0 : Value -> World -> Prop => gdK (yb v9) true (fun k => k t0 w) w fun v11 w =>
 gdK (yb v9) true (fun k => kN P (nilN v11) w k) w fun v12 w =>
 gdK (yb v9) true (fun k => kV P (Instr.fieldAt 91 v12 5) w k) w fun v13 w =>
 gdK (yb v9) true (fun k => kV P (Instr.fieldAt 24 v13 0) w k) w fun v14 w =>
 gdK (yb v9) true (fun k => kV P (Instr.loadAt 4 v14) w k) w fun v15 w =>
 kN P (pickN v9 v15 (.bool false)) w fun v16_1 w =>
 J0 v16_1 w) fun v16 w =>
 condK v16
 (K (.int .i64 4) w)
 (kN P (nilN t0) w fun v19 w =>
 kV P (Instr.fieldAt 91 v19 3) w fun v20 w =>
 kV P (Instr.fieldAt 49 v20 0) w fun v21 w =>
 kV P (Instr.loadAt 3 v21) w fun v22 w =>
 kV P (binV .eql 3 (.tmp 22) (.const (.int .i64 44)) v22 (.int .i64 44)) w fun v23 w =>
 joinK (fun J1 : Value -> World -> Prop => gdK (yb v23) false (fun k => k t0 w) w fun v25 w =>
 gdK (yb v23) false (fun k => kN P (nilN v25) w k) w fun v26 w =>
 gdK (yb v23) false (fun k => kV P (Instr.fieldAt 91 v26 3) w k) w fun v27 w =>
 gdK (yb v23) false (fun k => kV P (Instr.fieldAt 49 v27 0) w k) w fun v28 w =>
 gdK (yb v23) false (fun k => kV P (Instr.loadAt 3 v28) w k) w fun v29 w =>
 gdK (yb v23) false (fun k => kN P (callN (.func (.func 98) #[] #[]) #[v29]) w k) w fun v30 w =>
 kN P (pickN v23 (.bool true) v30) w fun v31_1 w =>
 J1 v31_1 w) fun v31 w =>
 condK v31
 (K (.int .i64 2) w)
 (K (.int .i64 1) w))
theorem F99_eq (t0 : Value) : funE P ⟨[], [], []⟩ Tryz.f99 [t0] w K = F99 P w K t0 := by kernel_rfl
theorem F99_ok (t0 : Value) (h : F99 Tryz.prog w K t0) : callsK Tryz.prog 99 #[t0] w K := calls_of_eq mixedX Tryz.func99 (F99_eq _ w K t0) h
def F102 (P : Program) (t0 : Value) (w : World) (K : Value -> World -> Prop) : Prop :=
 condK t0
 (K (.int .u64 1) w)
 (K (.int .u64 0) w)
theorem F102_eq (P : Program) (t0 : Value) (w : World) (K : Value -> World -> Prop) : funE P ⟨[], [], []⟩ Tryz.f102 [t0] w K = F102 P t0 w K := by kernel_rfl
theorem F102_ok (t0 : Value) (w : World) (K : Value -> World -> Prop) (h : F102 Tryz.prog t0 w K) : callsK Tryz.prog 102 #[t0] w K := calls_of_eq mixedX Tryz.func102 (F102_eq _ t0 w K) h
def F109 (t0 : Value) : Prop :=
 joinL (fun J0 =>
 kV P (binV .geq 22 (.tmp 3) (.const (.int .u64 4294967296)) t0 (.int .u64 4294967296)) w fun v4 w =>
 condK v4
 (kV P (binV .shr 22 (.tmp 5) (.const (.int .u64 32)) t0 (.int .u64 32)) w fun v6 w =>
 J0 [v6, (.int .i64 32)] w)
 (J0 [t0, (.int .i64 0)] w)) fun s0 w => ∀ _ : Nat -> Value,
 joinL (fun J2 =>
 kV P (binV .geq 22 (.tmp 7) (.const (.int .u64 65536)) (s0.getD 0 undef) (.int .u64 65536)) w fun v8 w =>
 condK v8
 (kV P (binV .shr 22 (.tmp 9) (.const (.int .u64 16)) (s0.getD 0 undef) (.int .u64 16)) w fun v10 w =>
 kV P (binV .add 3 (.tmp 11) (.const (.int .i64 16)) (s0.getD 1 undef) (.int .i64 16)) w fun v12 w =>
 J2 [v10, v12] w)
 (J2 [(s0.getD 0 undef), (s0.getD 1 undef)] w)) fun s2 w => ∀ _ : Nat -> Value,
 joinL (fun J4 =>
 kV P (binV .geq 22 (.tmp 13) (.const (.int .u64 256)) (s2.getD 0 undef) (.int .u64 256)) w fun v14 w =>
 condK v14
 (kV P (binV .shr 22 (.tmp 15) (.const (.int .u64 8)) (s2.getD 0 undef) (.int .u64 8)) w fun v16 w =>
 kV P (binV .add 3 (.tmp 17) (.const (.int .i64 8)) (s2.getD 1 undef) (.int .i64 8)) w fun v18 w =>
 J4 [v16, v18] w)
 (J4 [(s2.getD 0 undef), (s2.getD 1 undef)] w)) fun s4 w => ∀ _ : Nat -> Value,
 kV P (convert 22 5 (s4.getD 0 undef)) w fun v21 w =>
 kV P (Instr.index 9 (.string ⟨#[0, 1, 2, 2, 3, 3, 3, 3, 4, 4, 4, 4, 4, 4, 4, 4, 5, 5, 5, 5, 5, 5, 5, 5, 5, 5, 5, 5, 5, 5, 5, 5, 6, 6, 6, 6, 6, 6, 6, 6, 6, 6, 6, 6, 6, 6, 6, 6, 6, 6, 6, 6, 6, 6, 6, 6, 6, 6, 6, 6, 6, 6, 6, 6, 7, 7, 7, 7, 7, 7, 7, 7, 7, 7, 7, 7, 7, 7, 7, 7, 7, 7, 7, 7, 7, 7, 7, 7, 7, 7, 7, 7, 7, 7, 7, 7, 7, 7, 7, 7, 7, 7, 7, 7, 7, 7, 7, 7, 7, 7, 7, 7, 7, 7, 7, 7, 7, 7, 7, 7, 7, 7, 7, 7, 7, 7, 7, 7, 8, 8, 8, 8, 8, 8, 8, 8, 8, 8, 8, 8, 8, 8, 8, 8, 8, 8, 8, 8, 8, 8, 8, 8, 8, 8, 8, 8, 8, 8, 8, 8, 8, 8, 8, 8, 8, 8, 8, 8, 8, 8, 8, 8, 8, 8, 8, 8, 8, 8, 8, 8, 8, 8, 8, 8, 8, 8, 8, 8, 8, 8, 8, 8, 8, 8, 8, 8, 8, 8, 8, 8, 8, 8, 8, 8, 8, 8, 8, 8, 8, 8, 8, 8, 8, 8, 8, 8, 8, 8, 8, 8, 8, 8, 8, 8, 8, 8, 8, 8, 8, 8, 8, 8, 8, 8, 8, 8, 8, 8, 8, 8, 8, 8, 8, 8, 8, 8, 8, 8, 8, 8, 8, 8, 8, 8, 8, 8]⟩) v21) w fun v22 w =>
 kV P (convert 5 3 v22) w fun v23 w =>
 kV P (binV .add 3 (.tmp 19) (.tmp 23) (s4.getD 1 undef) v23) w fun v24 w =>
 K v24 w
theorem F109_eq (t0 : Value) : funE P ⟨[], [], [(4, [0, 2]), (7, [0, 2]), (10, [0, 2])]⟩ Tryz.f109 [t0] w K = F109 P w K t0 := by kernel_rfl
theorem F109_ok (t0 : Value) (h : F109 Tryz.prog w K t0) : callsK Tryz.prog 109 #[t0] w K := calls_of_eq mixedX Tryz.func109 (F109_eq _ w K t0) h
def F110 (t0 t1 : Value) : Prop :=
 kN P (callN (.func (.func 124) #[] #[]) #[t1]) w fun v10 w =>
 kV P (binV .and 22 (.tmp 11) (.tmp 12) t0 v10) w fun v13 w =>
 kV P (binV .eql 22 (.tmp 13) (.const (.int .u64 0)) v13 (.int .u64 0)) w fun v14 w =>
 condK v14
 (K (.tuple #[t0, (.bool true)]) w)
 (kN P (callN (.func (.func 94) #[] #[]) #[t0, v10]) w fun v19 w =>
 kV P (Instr.extract v19 0) w fun v20 w =>
 kV P (Instr.extract v19 1) w fun v21 w =>
 condK v21
 (K (.tuple #[(.int .u64 0), (.bool false)]) w)
 (kV P (binV .andNot 22 (.tmp 23) (.tmp 24) v20 v10) w fun v25 w =>
 K (.tuple #[v25, (.bool true)]) w))
theorem F110_eq (t0 t1 : Value) : funE P ⟨[], [], []⟩ Tryz.f110 [t0, t1] w K = F110 P w K t0 t1 := by kernel_rfl
theorem F110_ok (t0 t1 : Value) (h : F110 Tryz.prog w K t0 t1) : callsK Tryz.prog 110 #[t0, t1] w K := calls_of_eq mixedX Tryz.func110 (F110_eq _ w K t0 t1) h
def F111 (t0 t1 : Value) : Prop :=
 kN P (callN (.func (.func 124) #[] #[]) #[t1]) w fun v7 w =>
 kV P (binV .andNot 22 (.tmp 5) (.tmp 7) t0 v7) w fun v8 w =>
 K v8 w
theorem F111_eq (t0 t1 : Value) : funE P ⟨[], [], []⟩ Tryz.f111 [t0, t1] w K = F111 P w K t0 t1 := by kernel_rfl
theorem F111_ok (t0 t1 : Value) (h : F111 Tryz.prog w K t0 t1) : callsK Tryz.prog 111 #[t0, t1] w K := calls_of_eq mixedX Tryz.func111 (F111_eq _ w K t0 t1) h
def F124 (t0 : Value) : Prop :=
 kV P (binV .leq 3 (.tmp 4) (.const (.int .i64 0)) t0 (.int .i64 0)) w fun v5 w =>
 condK v5
 (K (.int .u64 0) w)
 (kV P (binV .geq 3 (.tmp 7) (.const (.int .i64 64)) t0 (.int .i64 64)) w fun v8 w =>
 condK v8
 (K (.int .u64 18446744073709551615) w)
 (kV P (binV .shl 22 (.const (.int .u64 1)) (.tmp 9) (.int .u64 1) t0) w fun v10 w =>
 kV P (binV .sub 22 (.tmp 10) (.const (.int .u64 1)) v10 (.int .u64 1)) w fun v11 w =>
 K v11 w))
theorem F124_eq (t0 : Value) : funE P ⟨[], [], []⟩ Tryz.f124 [t0] w K = F124 P w K t0 := by kernel_rfl
theorem F124_ok (t0 : Value) (h : F124 Tryz.prog w K t0) : callsK Tryz.prog 124 #[t0] w K := calls_of_eq mixedX Tryz.func124 (F124_eq _ w K t0) h
def F158 (t0 t1 : Value) : Prop :=
 kV P (Instr.box 55 t0) w fun v2 w =>
 kV P (Instr.fieldAt 55 v2 0) w fun v9 w =>
 kV P (Instr.loadAt 31 v9) w fun v10 w =>
 kN P (callN (.func (.func 147) #[] #[]) #[v10, t1, (.int .i64 4)]) w fun v12 w =>
 kV P (Instr.extract v12 0) w fun v13 w =>
 kV P (Instr.extract v12 1) w fun v14 w =>
 kV P (convert 22 38 v13) w fun v16 w =>
 kN P (callN (.func (.func 163) #[] #[]) #[v14]) w fun v18 w =>
 K (.tuple #[v16, v18]) w
theorem F158_eq (t0 t1 : Value) : funE P ⟨[], [], []⟩ Tryz.f158 [t0, t1] w K = F158 P w K t0 t1 := by kernel_rfl
theorem F158_ok (t0 t1 : Value) (h : F158 Tryz.prog w K t0 t1) : callsK Tryz.prog 158 #[t0, t1] w K := calls_of_eq mixedX Tryz.func158 (F158_eq _ w K t0 t1) h
def F160 (t0 t1 : Value) : Prop :=
 kV P (Instr.box 55 t0) w fun v2 w =>
 kV P (Instr.alloc 24 true (.tuple #[])) w fun v4 w =>
 kV P (Instr.fieldAt 55 v2 0) w fun v9 w =>
 kV P (Instr.loadAt 31 v9) w fun v10 w =>
 kN P (callN (.func (.func 148) #[] #[]) #[v10, t1]) w fun v12 w =>
 kV P (Instr.extract v12 0) w fun v13 w =>
 kV P (Instr.extract v12 1) w fun v14 w =>
 kV P (Instr.alloc 24 true (.tuple #[])) w fun v6 w =>
 kU P (Instr.storeAt 24 v6 v13) w fun _ w =>
 drewK (fun w =>
 sV P (Instr.loadAt 24 v6) w fun v15 =>
 sN P (callN (.func (.func 163) #[] #[]) #[v14]) w fun v17 =>
 kU P (Instr.storeAt 24 v4 v15) w fun _ w =>
 retV P 24 v4 w fun r0 =>
 K (.tuple #[r0, v17]) w) w
theorem F160_eq (t0 t1 : Value) : funE P ⟨[(2, 3)], [], []⟩ Tryz.f160 [t0, t1] w K = F160 P w K t0 t1 := by kernel_rfl
theorem F160_ok (t0 t1 : Value) (h : F160 Tryz.prog w K t0 t1) : callsK Tryz.prog 160 #[t0, t1] w K := calls_of_eq mixedX Tryz.func160 (F160_eq _ w K t0 t1) h
def F162 (t0 t1 t2 : Value) : Prop :=
 kV P (Instr.box 55 t0) w fun v3 w =>
 kV P (Instr.box 24 t2) w fun v5 w =>
 kV P (Instr.fieldAt 55 v3 0) w fun v7 w =>
 kV P (Instr.loadAt 31 v7) w fun v8 w =>
 kV P (Instr.loadAt 24 v5) w fun v10 w =>
 kN P (callN (.func (.func 25) #[] #[]) #[v8, t1, v10]) w fun v11 w =>
 kN P (callN (.func (.func 163) #[] #[]) #[v11]) w fun v12 w =>
 K v12 w
theorem F162_eq (t0 t1 t2 : Value) : funE P ⟨[], [], []⟩ Tryz.f162 [t0, t1, t2] w K = F162 P w K t0 t1 t2 := by kernel_rfl
theorem F162_ok (t0 t1 t2 : Value) (h : F162 Tryz.prog w K t0 t1 t2) : callsK Tryz.prog 162 #[t0, t1, t2] w K := calls_of_eq mixedX Tryz.func162 (F162_eq _ w K t0 t1 t2) h
def F163 (t0 : Value) : Prop :=
 kV P (binV .neq 3 (.tmp 3) (.const (.int .i64 0)) t0 (.int .i64 0)) w fun v4 w =>
 condK v4
 (K (.int .i64 1) w)
 (K (.int .i64 0) w)
theorem F163_eq (t0 : Value) : funE P ⟨[], [], []⟩ Tryz.f163 [t0] w K = F163 P w K t0 := by kernel_rfl
theorem F163_ok (t0 : Value) (h : F163 Tryz.prog w K t0) : callsK Tryz.prog 163 #[t0] w K := calls_of_eq mixedX Tryz.func163 (F163_eq _ w K t0) h
end
end Go.Proofs.YtplfniijbeinmaaGreat
