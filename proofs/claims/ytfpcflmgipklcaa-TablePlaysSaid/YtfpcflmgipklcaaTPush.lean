/- Numbers appended: where the new slice lies; a slice of numbers that is cut ahead and appended to; conditions: those of each theorem. -/
import Derived.Test.YtfpcflmgipklcaaPAll
import Derived.Maps.AppendAt
import Derived.ArgAppend
namespace Go.Proofs.Ytfpcflmgipklcaa
open Go.Fx
set_option maxRecDepth 100000
set_option linter.unusedSimpArgs false
set_option linter.unusedVariables false
theorem info_int : ∃ (i : TypeInfo) (z : Value), Try.prog.info? 3 = some i ∧ i.zero = some z ∧ i.size = 1 ∧ i.bytes = 8 ∧ z.cells.size = 1 := by
  have h : (Try.prog.info? 3).map (fun i => (i.size, i.bytes, i.zero.map (fun z => z.cells.size))) = some (1, 8, some 1) := by kernel_rfl
  obtain ⟨i, h2, h3⟩ := Option.map_eq_some_iff.1 h
  simp only [Prod.mk.injEq] at h3
  obtain ⟨h4, h5, h6⟩ := h3
  obtain ⟨z, h7, h8⟩ := Option.map_eq_some_iff.1 h6
  exact ⟨i, z, h2, h7, h4, h5, h8⟩
theorem appI2 {base k : Nat} {v : Value} {rows : List (List Value)} {w : World} {g : Nat} (hown : OwnR w base 3 1 v rows) (hx : w.heap[g]? = some (.cells (kC k).toArray 3 (0, 0)))
    (hl : rows.length + 1 ≤ 1000000) (hbase : base ≤ w.heap.size) {K : Value → World → Prop} (hK : ∀ v' w', OwnR w' base 3 1 v' (rows ++ [kC k]) → App base v w w' → (∀ b, blockOf v' = some b → blockOf v = some b ∨ b = w.heap.size) → K v' w') : resV K ((Builtin.append_ #[38, 38] 38 #[v, .slice (some ⟨g, 0, none⟩) 1 1]).run Try.prog w) := by
  obtain ⟨i, z, i1, i2, i3, i4, i5⟩ := info_int
  have hO : w.ownsRow base 3 1 v rows.length rows.flatten := by
    obtain ⟨h1, h2⟩ := hown.own
    refine ⟨h1, h2.imp id ?_⟩
    rintro ⟨g, cap, cur, rfl, h3, h4, h5, h6, h7, h8⟩
    exact ⟨g, cap, cur.toArray, rfl, h3, h4, h5, h6, by simpa using h7, by simpa using h8⟩
  obtain ⟨v2, w2, hr, -, -, -, hb⟩ := run_append_own_at (P := Try.prog) w base 38 38 3 i z 1 8 Try.underlying38 i1 i2 i3 i4 i5 (by omega) v rows.length rows.flatten hO ⟨g, 0, none⟩ 1 1 (kC k) rfl (fun j u hj => by
      refine cell_list (n := 1) hx j u ?_
      rw [show sub (kC k) 0 1 = kC k from rfl]
      exact hj) (by simp [kC]; rfl) (by simp only [maxLen]; omega) (by omega) hbase
  have h := appI (K := fun v' w' => OwnR w' base 3 1 v' (rows ++ [kC k]) ∧ App base v w w') hown (RowsAt.one (l := kC k) hx rfl) (kC_all [k]) (by simp; omega) hbase (fun v' w' h1 h2 => ⟨h1, h2⟩)
  rw [hr] at h ⊢
  refine hK _ _ h.1 h.2 fun b hv => ?_
  have e : ∀ v : Value, v.ownBlock = blockOf v := fun v => by
    unfold Value.ownBlock blockOf
    rfl
  rw [e, e] at hb
  rcases hb with h3 | h3
  · exact .inl (by rw [← h3]; exact hv)
  · rw [h3] at hv
    exact .inr (Option.some.inj hv).symm
/-- numbers, wherever they begin in their block. -/
def OthS (w : World) (base : Nat) (v : Value) (oth : List Nat) : Prop := (v = .slice none 0 0 ∧ oth = []) ∨ ∃ (g o cap : Nat) (cur : List Value), v = .slice (some ⟨g, o, none⟩) oth.length cap ∧ base ≤ g ∧ w.heap[g]? = some (.cells cur.toArray 3 (0, 0)) ∧ oth.length ≤ cap ∧ cap ≤ maxLen ∧ o + cap ≤ cur.length ∧ sub cur o oth.length = oth.map fun k => Value.int .i64 (k : Nat)
theorem OthS.ext {w w' : World} {base : Nat} {v : Value} {oth : List Nat} {S : List Nat} (h : OthS w base v oth) (hx : Ext S w w') (hs : ∀ b, blockOf v = some b → b ∉ S) : OthS w' base v oth := by
  refine h.imp id ?_
  rintro ⟨g, o, cap, cur, rfl, h1, h2, h3⟩
  exact ⟨g, o, cap, cur, rfl, h1, hx.at h2 (hs g rfl), h3⟩
theorem OthS.len {w : World} {base : Nat} {v : Value} {oth : List Nat} (h : OthS w base v oth) (w2 : World) : (Builtin.len_ #[38] 3 #[v]).run Try.prog w2 = .ok (.int .i64 (oth.length : Nat)) w2 := by
  rcases h with ⟨rfl, rfl⟩ | ⟨g, o, cap, cur, rfl, -⟩ <;> simp [Builtin.len_, Sem.run_bind, run_underlying Try.underlying38, goInt]
theorem OthS.blt {w : World} {base : Nat} {v : Value} {oth : List Nat} (h : OthS w base v oth) : ∀ b, blockOf v = some b → base ≤ b ∧ ∃ l : Array Value, w.heap[b]? = some (.cells l 3 (0, 0)) := by
  intro b hb
  rcases h with ⟨rfl, -⟩ | ⟨g, o, cap, cur, rfl, h1, h2, -⟩
  · cases hb
  · cases hb
    exact ⟨h1, _, h2⟩
theorem OthS.push {w : World} {base g : Nat} {v : Value} {oth : List Nat} {k : Nat} (h : OthS w base v oth) (hx : w.heap[g]? = some (.cells (kC k).toArray 3 (0, 0))) (hg : blockOf v ≠ some g) (hl : oth.length + 1 ≤ 1000000) (hbase : base ≤ w.heap.size) {K : Value → World → Prop}
    (hK : ∀ v' w', OthS w' base v' (oth ++ [k]) → Ext (blockOf v).toList w w' → (∀ b, blockOf v' = some b → blockOf v = some b ∨ w.heap.size ≤ b) → K v' w') : resV K ((Builtin.append_ #[38, 38] 38 #[v, .slice (some ⟨g, 0, none⟩) 1 1]).run Try.prog w) := by
  obtain ⟨i, z, i1, i2, i3, i4, i5⟩ := info_int
  have hn : ∀ j u, (kC k)[j]? = some u → w.cell? (Addr.add ⟨g, 0, none⟩ j) = some u := fun j u hj => by
    refine cell_list (n := 1) hx j u ?_
    rw [show sub (kC k) 0 1 = kC k from rfl]
    exact hj
  have hfl : ∀ l : List Nat, (l.map kC).flatten = l.map fun k => Value.int .i64 (k : Nat) := fun l => by
    induction l with
    | nil => rfl
    | cons a l ih => rw [List.map_cons, List.flatten_cons, ih]; rfl
  have hnew : ∀ (b0 : Nat) v' w', OwnR w' b0 3 1 v' ((oth ++ [k]).map kC) → base ≤ b0 → OthS w' base v' (oth ++ [k]) := fun b0 v' w' ho hb0 => by
    obtain ⟨h1, ⟨rfl, h2⟩ | ⟨g', cap, cur, rfl, h3, h4, h5, h6, h7, h8⟩⟩ := ho.own
    · simp at h2
    · rw [List.length_map] at h5 h8
      refine .inr ⟨g', 0, cap, cur, by rw [List.length_map], by omega, h4, h5, h6, by omega, ?_⟩
      unfold sub
      rw [List.drop_zero, ← Nat.mul_one (oth ++ [k]).length, h8, hfl]
  rcases h with ⟨rfl, rfl⟩ | ⟨g0, o, cap, cur, rfl, h1, h2, h3, h4, h5, h6⟩
  · refine appI (base := w.heap.size) OwnR.nil (RowsAt.one (l := kC k) hx rfl) (kC_all [k]) (by simp) (Nat.le_refl _) fun v' w' ho hp => ?_
    refine hK v' w' (hnew _ v' w' ho hbase) (hp.step.mono (by simp [blockOf])) fun b hb => .inr (ho.block b hb)
  · have hgg : g0 ≠ g := fun e => hg (by rw [← e]; rfl)
    have hlen6 : (sub cur o oth.length).length = oth.length := by rw [h6, List.length_map]
    by_cases hroom : oth.length + 1 ≤ cap
    · have hc0 : w.cell? ⟨g0, o + oth.length, none⟩ = some (cur[o + oth.length]'(by omega)) := by
        rw [cell_of_block h2]
        simp
      have hr := run_append_room_cells (P := Try.prog) w 38 38 3 i Try.underlying38 i1 g0 o oth.length cap ⟨g, 0, none⟩ 1 1 (kC k) (by rw [i3]; rfl) hn (by simp [kC]; rfl) hroom (fun j hj => by
        have : j = 0 := by simp [kC] at hj; omega
        subst this
        rw [i3, Nat.mul_one, Nat.add_zero, hc0]
        rfl) (fun j hj => by
        have : j = 0 := by simp [kC] at hj; omega
        subst this
        exact frozen_of_block h2 _)
      rw [hr]
      rw [i3, Nat.mul_one]
      have hu : w.setCells g0 (o + oth.length) (kC k) = World.upd w g0 (cur.set (o + oth.length) (.int .i64 (k : Nat))) := setCell_upd h2 _
      rw [hu]
      refine hK _ _ (.inr ⟨g0, o, cap, _, by simp, h1, upd_at h2, by simp; omega, h4, by simp; omega, ?_⟩) (Ext.updI (by simp [blockOf]) Ext.refl) fun b hb => .inl hb
      rw [List.length_append, List.length_singleton, List.map_append, ← h6]
      apply List.ext_getElem?
      intro j
      unfold sub
      rw [List.getElem?_take, List.getElem?_drop, List.getElem?_set]
      by_cases c1 : j < oth.length
      · rw [if_pos (by omega), if_neg (by omega), List.getElem?_append_left (by simp; omega), List.getElem?_take_of_lt c1, List.getElem?_drop]
      · by_cases c2 : j = oth.length
        · subst c2
          rw [if_pos (by omega), if_pos rfl, if_pos (by omega), List.getElem?_append_right (by simp; omega), List.length_take, List.length_drop, Nat.min_eq_left (by omega), Nat.sub_self]
          rfl
        · rw [if_neg (by omega), List.getElem?_eq_none (by simp; omega)]
    · obtain ⟨v', w', hr, ⟨ho1, ho2⟩, hgr⟩ := run_append_arg_grows (P := Try.prog) w 38 38 3 i z 1 8 Try.underlying38 i1 i2 i3 i4 i5 (by omega) ⟨g0, o, none⟩ oth.length cap (oth.map fun k => Value.int .i64 (k : Nat)) (by simp) (fun j u hj => cell_list (n := oth.length) h2 j u (by rw [h6]; exact hj)) ⟨g, 0, none⟩ 1 1 (kC k) rfl hn (by omega) (by simp only [maxLen]; omega) (by omega)
      rw [hr]
      have hext : Ext [] w w' := ⟨hgr.os, hgr.tape, hgr.output, hgr.size, fun b hb _ => hgr.block b hb (by simp)⟩
      rcases ho2 with ⟨-, h7⟩ | ⟨g', cap', cur', rfl, h8, h9, h10, h11, h12, h13⟩
      · omega
      · refine hK _ _ (.inr ⟨g', 0, cap', cur'.toList, by simp, by omega, by simpa using h9, by simpa using h10, h11, by simp; omega, ?_⟩) (hext.mono (by simp)) fun b hb => .inr (by cases hb; exact h8)
        unfold sub
        rw [List.drop_zero, List.length_append, List.length_singleton, ← Nat.mul_one (oth.length + 1), h13, List.map_append]
        rfl
theorem OthS.cut {w : World} {base k : Nat} {v : Value} {oth : List Nat} (h : OthS w base v (k :: oth)) : ∃ v' b o, (∀ w2, (Instr.indexAt 38 v (.int .i64 0)).run Try.prog w2 = .ok (.pointer (some ⟨b, o, none⟩)) w2) ∧ (∃ L : List Value, w.heap[b]? = some (.cells L.toArray 3 (0, 0)) ∧ L[o]? = some (.int .i64 (k : Nat)) ∧ o + 1 ≤ L.length) ∧
    (∀ w2, (Instr.sliceAt 38 v (some (.int .i64 1)) none none).run Try.prog w2 = .ok v' w2) ∧ (∀ w2, OthS w2 base v (k :: oth) → OthS w2 base v' oth) ∧ blockOf v' = blockOf v := by
  rcases h with ⟨-, h⟩ | ⟨g, o, cap, cur, rfl, h1, h2, h3, h4, h5, h6⟩
  · cases h
  · rw [List.length_cons] at h3 h6
    have hrow : RowsAt w (.slice (some ⟨g, o, none⟩) (k :: oth).length cap) 1 ((k :: oth).map kC) := by
      refine ⟨some ⟨g, o, none⟩, cap, by rw [List.length_map], ⟨by rw [List.length_map, List.length_cons]; exact h3, h4⟩, .inr ⟨g, o, cur, _, _, rfl, h2, by rw [List.length_map, List.length_cons]; omega, fun i r hi => ?_⟩⟩
      rw [List.getElem?_map] at hi
      obtain ⟨x, hx, rfl⟩ := Option.map_eq_some_iff.1 hi
      have hil : i < oth.length + 1 := by
        have := (List.getElem?_eq_some_iff.1 hx).1
        simpa using this
      have h7 := congrArg (fun l => l[i]?) h6
      simp only [List.getElem?_map, hx, Option.map_some] at h7
      unfold sub at h7 ⊢
      rw [List.getElem?_take_of_lt hil, List.getElem?_drop] at h7
      rw [Nat.mul_one, List.drop_eq_getElem_cons (by omega)]
      rw [List.getElem?_eq_getElem (by omega)] at h7
      rw [Option.some.inj h7]
      rfl
    obtain ⟨b, o2, L, E, ff, hix, hb, hfit, hlt, hblk, hsub, hget⟩ := RowsAt.ixR (P := Try.prog) (t := 38) Try.underlying38 Try.sizeOf3 hrow (k := 0) (r := kC k) rfl
    have hg0 := hget o2 0 (by omega) (by omega)
    simp only [kC, List.getElem?_cons_zero] at hg0
    have hbg : b = g := by
      have : blockOf (.slice (some ⟨g, o, none⟩) (k :: oth).length cap) = some b := hblk
      exact (Option.some.inj this).symm
    subst hbg
    rw [h2] at hb
    simp only [Option.some.injEq, Obj.cells.injEq] at hb
    obtain ⟨e1, rfl, rfl⟩ := hb
    have hLc : L = cur := by
      have := congrArg Array.toList e1
      simpa using this.symm
    subst hLc
    refine ⟨.slice (some (sAt b o cap 1 1)) oth.length (cap - 1), b, o2, fun w2 => hix w2 .i64 0 rfl, ⟨L, h2, hg0, hfit⟩, fun w2 => ?_, fun w2 hw => ?_, ?_⟩
    · rw [sl_slc Try.underlying38 Try.sizeOf3, slR.2.2.1 _ _ _ _ _ _ (by simp; omega)]
      simp
    · rcases hw with ⟨hc, -⟩ | ⟨g, o', cap', cur, he, d1, d2, d3, d4, d5, d6⟩
      · cases hc
      · simp only [Value.slice.injEq, Option.some.injEq, Addr.mk.injEq, and_true, true_and] at he
        obtain ⟨⟨rfl, rfl⟩, rfl⟩ := he
        rw [List.length_cons] at d3 d6
        by_cases hc1 : cap = 1
        · obtain rfl : oth = [] := List.eq_nil_of_length_eq_zero (by omega)
          exact .inr ⟨b, o, cap - 1, cur, by rw [sAt_end hc1], d1, d2, by simp, by omega, by omega, by simp [sub]⟩
        · refine .inr ⟨b, o + 1, cap - 1, cur, by rw [sAt_ne hc1], d1, d2, by omega, by omega, by omega, ?_⟩
          have d7 := congrArg List.tail d6
          rw [List.map_cons, List.tail_cons] at d7
          rw [← d7]
          unfold sub
          apply List.ext_getElem?
          intro j
          rw [List.getElem?_tail, List.getElem?_take, List.getElem?_take, List.getElem?_drop, List.getElem?_drop, show o + 1 + j = o + (j + 1) by omega]
          by_cases hj : j < oth.length
          · rw [if_pos hj, if_pos (by omega)]
          · rw [if_neg hj, if_neg (by omega)]
    · unfold sAt
      split <;> rfl
end Go.Proofs.Ytfpcflmgipklcaa
