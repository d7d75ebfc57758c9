/- Slices that grow to a list that is known ahead: what a region's other operations see of it; conditions: those of each theorem. -/
import Derived.Test.YtfpcflmgipklcaaTRef3
import Derived.Test.YtfpcflmgipklcaaRel
import Derived.ArgAppend
namespace Go.Fx
open Go.Builtin
set_option linter.unusedSimpArgs false
theorem flat_take {n : Nat} : ∀ {F : List (List Value)} {a : Nat}, (∀ r ∈ F, r.length = n) → (F.take a).flatten = F.flatten.take (a * n)
  | [], a, _ => by simp
  | r :: F, 0, _ => by simp
  | r :: F, a + 1, h => by
    have h1 := h r (by simp)
    rw [List.take_succ_cons, List.flatten_cons, List.flatten_cons, flat_take fun r hr => h r (by simp [hr]), Nat.succ_mul, List.take_append, h1, List.take_of_length_le (l := r) (by omega)]
    congr 2
    omega
theorem flat_drop {n : Nat} : ∀ {F : List (List Value)} {a : Nat}, (∀ r ∈ F, r.length = n) → (F.drop a).flatten = F.flatten.drop (a * n)
  | [], a, _ => by simp
  | r :: F, 0, _ => by simp
  | r :: F, a + 1, h => by
    have h1 := h r (by simp)
    rw [List.drop_succ_cons, List.flatten_cons, flat_drop fun r hr => h r (by simp [hr]), Nat.succ_mul, List.drop_append, h1, List.drop_of_length_le (l := r) (by omega), List.nil_append]
    congr 1
    omega
theorem flat_len {n : Nat} : ∀ {F : List (List Value)}, (∀ r ∈ F, r.length = n) → F.flatten.length = F.length * n
  | [], _ => by simp
  | r :: F, h => by
    have h1 := h r (by simp)
    rw [List.flatten_cons, List.length_append, flat_len fun r hr => h r (by simp [hr]), List.length_cons, Nat.succ_mul, h1]
    omega
/-- from N0 on slices grow, to the rows F; all else stays. -/
structure GrowW (N0 : Nat) (E0 : TypeId) (n : Nat) (F : List (List Value)) (w w' : World) : Prop where
  os : w'.os = w.os
  tape : w'.tape = w.tape
  output : w'.output = w.output
  size : w.heap.size ≤ w'.heap.size
  old : ∀ k, k < N0 → k < w.heap.size → w'.heap[k]? = w.heap[k]?
  own : ∀ v m, OwnR w N0 E0 n v (F.take m) → OwnR w' N0 E0 n v (F.take m)
  one : ∀ g (row : List Value), N0 ≤ g → w.heap[g]? = some (.cells row.toArray E0 (0, 0)) → row.length = n → w'.heap[g]? = some (.cells row.toArray E0 (0, 0))
theorem GrowW.refl {N0 : Nat} {E0 : TypeId} {n : Nat} {F : List (List Value)} {w : World} : GrowW N0 E0 n F w w := ⟨rfl, rfl, rfl, Nat.le_refl _, fun _ _ _ => rfl, fun _ _ h => h, fun _ _ _ h _ => h⟩
theorem GrowW.trans {N0 : Nat} {E0 : TypeId} {n : Nat} {F : List (List Value)} {a b c : World} (h : GrowW N0 E0 n F a b) (h' : GrowW N0 E0 n F b c) : GrowW N0 E0 n F a c :=
  ⟨h'.os.trans h.os, h'.tape.trans h.tape, h'.output.trans h.output, Nat.le_trans h.size h'.size, fun k h1 h2 => (h'.old k h1 (Nat.lt_of_lt_of_le h2 h.size)).trans (h.old k h1 h2), fun v m h1 => h'.own v m (h.own v m h1), fun g row h1 h2 h3 => h'.one g row h1 (h.one g row h1 h2 h3) h3⟩
theorem GrowW.of {N0 : Nat} {E0 : TypeId} {n : Nat} {F : List (List Value)} {w w' : World} (h : Ext [] w w') : GrowW N0 E0 n F w w' :=
  ⟨h.os, h.tape, h.output, h.size, fun k _ hk => h.kept k hk (by simp), fun v m ho => ho.ext h (by simp), fun g row _ hg _ => h.at hg (by simp)⟩
theorem GrowW.at {N0 : Nat} {E0 : TypeId} {n : Nat} {F : List (List Value)} {w w' : World} {b : Nat} {o : Obj} (h : GrowW N0 E0 n F w w') (hb : w.heap[b]? = some o) (hN : b < N0) : w'.heap[b]? = some o := (h.old b hN (lt_of_at hb)).trans hb
theorem GrowW.ext {E0 : TypeId} {n : Nat} {F : List (List Value)} {w w' : World} (h : GrowW w.heap.size E0 n F w w') : Ext [] w w' := ⟨h.os, h.tape, h.output, h.size, fun k hk _ => h.old k hk hk⟩
theorem GrowW.rows {N0 : Nat} {E0 : TypeId} {n k : Nat} {F rows : List (List Value)} {w w' : World} {v : Value} (h : GrowW N0 E0 n F w w') (hv : RowsAt w v k rows) (hb : ∀ b, blockOf v = some b → b < N0) : RowsAt w' v k rows := by
  obtain ⟨a, cap, rfl, hm, hr⟩ := hv
  refine ⟨a, cap, rfl, hm, hr.imp id ?_⟩
  rintro ⟨b, o, l, E, f, rfl, h1, h2⟩
  exact ⟨b, o, l, E, f, rfl, h.at h1 (hb b rfl), h2⟩
set_option maxHeartbeats 1000000
theorem appG {P : Program} {t ty E0 : TypeId} {n bytes : Nat} (ht : P.underlying t = some (.slice E0)) (hi : (P.info? E0).map (fun i => (i.size, i.bytes, i.zero.map (fun z => z.cells.size))) = some (n, bytes, some n)) (hsz : 0 < n)
    {N0 m m' : Nat} {F : List (List Value)} {v x : Value} {w : World} {K : Value → World → Prop} (hF : ∀ r ∈ F, r.length = n) (hF1 : ∀ r ∈ F, r.all (fun v => v.oneCell') = true) (hown : OwnR w N0 E0 n v (F.take m)) (hcap : m = 0 → ∃ a, v = .slice a 0 0) (hmm : m ≤ m') (hm' : m' ≤ F.length) (hx : RowsAt w x n ((F.take m').drop m))
    (h63 : F.length ≤ maxLen) (hbytes : F.length * bytes ≤ 140737488355328) (hN : N0 ≤ w.heap.size)
    (hK : ∀ v' w', OwnR w' N0 E0 n v' (F.take m') → (m' = 0 → ∃ a, v' = .slice a 0 0) → GrowW N0 E0 n F w w' → K v' w') : resV K ((append_ #[t, t] ty #[v, x]).run P w) := by
  have hlm : (F.take m).length = m := by rw [List.length_take]; omega
  have hlx : ((F.take m').drop m).length = m' - m := by rw [List.length_drop, List.length_take]; omega
  have hs : ∀ w, (sizeOf E0).run P w = .ok n w := by
    obtain ⟨i, h2, h3⟩ := Option.map_eq_some_iff.1 hi
    simp only [Prod.mk.injEq] at h3
    intro w
    simp [sizeOf, typeInfo, h2, h3.1]
  have hcat : F.take m ++ (F.take m').drop m = F.take m' := by
    have e : F.take m = (F.take m').take m := by rw [List.take_take, Nat.min_eq_left hmm]
    rw [e, List.take_append_drop]
  obtain ⟨a, c, rfl, hc, hrows⟩ := hx
  rw [hlx] at hc
  rcases hown.own.2 with ⟨rfl, h0⟩ | ⟨g, cap, cur, rfl, hg1, hg, hcap1, hcap2, hcl, htake⟩
  · rw [hlm] at h0
    subst h0
    by_cases hmz : m' = 0
    · subst hmz
      rw [hlx, run_append_none ht hs _ _ _ _ _ (Nat.le_refl _)]
      exact hK _ _ hown (fun _ => ⟨none, rfl⟩) GrowW.refl
    · refine kV_appR ht hi hsz (base := w.heap.size) OwnR.nil ⟨a, c, rfl, by rw [hlx]; exact hc, hrows⟩ (fun r hr => hF1 r (List.mem_of_mem_take (List.mem_of_mem_drop hr))) (by rw [hlx]; simp; omega) (Nat.le_trans (Nat.mul_le_mul_right _ (by rw [hlx]; simp; omega)) hbytes) (Nat.le_refl _) fun v' w' ho hp => ?_
      refine hK v' w' ?_ (fun h => absurd h hmz) (GrowW.of (hp.step.mono (by simp [blockOf])))
      rw [List.nil_append] at ho
      rw [List.drop_zero] at ho
      exact ho.low hN
  · rw [hlm] at hcap1 htake ⊢
    by_cases hmz : m' = m
    · subst hmz
      rw [hlx, Nat.sub_self, run_append_none ht hs _ _ _ _ _ hcap1]
      refine hK _ _ (by rw [hlm] at hown; exact hown) (fun h => ?_) GrowW.refl
      obtain ⟨a, ha⟩ := hcap h
      exact ⟨a, by rw [hlm] at ha; exact ha⟩
    have hlt : m < m' := by omega
    rcases hrows with h0 | ⟨b, o, l, E, f, rfl, hb, hfit, hsub⟩
    · have := congrArg List.length h0
      rw [hlx] at this
      simp at this
      omega
    rw [hlx] at hfit
    have hnews : sub l o ((m' - m) * n) = ((F.take m').drop m).flatten := by
      rw [← hlx]
      exact rows_sub (by rw [hlx]; exact hfit) hsub
    have hnl : (sub l o ((m' - m) * n)).length = (m' - m) * n := by unfold sub; simp; omega
    obtain ⟨i, h2, h3⟩ := Option.map_eq_some_iff.1 hi
    simp only [Prod.mk.injEq] at h3
    obtain ⟨h4, h5, h6⟩ := h3
    obtain ⟨z, h7, h8⟩ := Option.map_eq_some_iff.1 h6
    have hcells := cell_list (o := o) (n := (m' - m) * n) hb
    have hone : ∀ u ∈ sub l o ((m' - m) * n), u.oneCell' = true := by
      rw [hnews]
      intro u hu
      obtain ⟨r, hr, hur⟩ := List.mem_flatten.1 hu
      exact List.all_eq_true.1 (hF1 r (List.mem_of_mem_take (List.mem_of_mem_drop hr))) u hur
    have hm0 : m ≠ 0 ∨ cap = 0 := by
      by_cases h : m = 0
      · obtain ⟨a, ha⟩ := hcap h
        rw [hlm] at ha
        simp only [Value.slice.injEq] at ha
        exact .inr ha.2.2
      · exact .inl h
    rw [hlx]
    by_cases hroom : m' ≤ cap
    · have hmn : m * n + (m' - m) * n = m' * n := by rw [← Nat.add_mul]; congr 1; omega
      have hfit2 : m * i.size + (sub l o ((m' - m) * n)).length ≤ cur.toArray.size := by
        rw [hnl, List.size_toArray, hcl, h4, hmn]
        exact Nat.mul_le_mul_right _ hroom
      have hr := run_append_room (P := P) w t ty E0 i ht h2 g m cap cur.toArray hg ⟨b, o, none⟩ (m' - m) c _ (by rw [hnl, h4]) hcells hone (by omega) hfit2
      rw [hr]
      have hspl : (List.take (m * i.size) cur.toArray.toList ++ sub l o ((m' - m) * n) ++ List.drop (m * i.size + (sub l o ((m' - m) * n)).length) cur.toArray.toList) = splice cur (m * n) (sub l o ((m' - m) * n)) := by rw [h4]; rfl
      rw [hspl, setRow_upd, Nat.add_sub_cancel' hmm]
      have hsl : m * n + (sub l o ((m' - m) * n)).length ≤ cur.length := by
        rw [hnl, hcl, hmn]
        exact Nat.mul_le_mul_right _ hroom
      have hcell : ∀ j, (splice cur (m * n) (sub l o ((m' - m) * n)))[j]? = if j < m * n then cur[j]? else if j < m' * n then F.flatten[j]? else cur[j]? := fun j => by
        rw [splice_get hsl, hnl, hmn]
        split
        · rfl
        · split
          · rw [hnews, flat_drop (fun r hr => hF r (List.mem_of_mem_take hr)), flat_take hF, List.getElem?_drop, show m * n + (j - m * n) = j by omega, List.getElem?_take_of_lt (by assumption)]
          · rfl
      have hupd : ∀ (u : Value) (m2 : Nat), OwnR w N0 E0 n u (F.take m2) → OwnR (World.upd w g (splice cur (m * n) (sub l o ((m' - m) * n)))) N0 E0 n u (F.take m2) := fun u m2 hu => by
        refine ⟨⟨hu.own.1, hu.own.2.imp id ?_⟩, hu.size, hu.one⟩
        rintro ⟨g2, cap2, cur2, rfl, d1, d2, d3, d4, d5, d6⟩
        by_cases hgg : g2 = g
        · subst hgg
          rw [hg] at d2
          have hcc : cur2 = cur := by
            simp only [Option.some.injEq, Obj.cells.injEq, and_true] at d2
            have := congrArg Array.toList d2
            simpa using this.symm
          subst hcc
          refine ⟨g2, cap2, _, rfl, d1, upd_at hg, d3, d4, by rw [splice_length hsl]; exact d5, ?_⟩
          rw [← d6]
          apply List.ext_getElem?
          intro j
          rw [List.getElem?_take, List.getElem?_take]
          split
          · rename_i hj
            rw [hcell j]
            split
            · rfl
            · split
              · have e := congrArg (fun x => x[j]?) d6
                simp only [List.getElem?_take_of_lt hj] at e
                rw [e, flat_take hF]
                have : j < m2 * n := by
                  rw [List.length_take] at hj
                  exact Nat.lt_of_lt_of_le hj (Nat.mul_le_mul_right _ (Nat.min_le_left _ _))
                rw [List.getElem?_take_of_lt this]
              · rfl
          · rfl
        · exact ⟨g2, cap2, cur2, rfl, d1, (upd_ne hgg).trans d2, d3, d4, d5, d6⟩
      refine hK _ _ ⟨⟨?_, .inr ⟨g, cap, _, by rw [List.length_take, Nat.min_eq_left hm'], hg1, upd_at hg, by rw [List.length_take, Nat.min_eq_left hm']; exact hroom, hcap2, by rw [splice_length hsl]; exact hcl, ?_⟩⟩, fun r hr => hF r (List.mem_of_mem_take hr), fun r hr => hF1 r (List.mem_of_mem_take hr)⟩ (fun h => absurd h (by omega)) ⟨rfl, rfl, rfl, by rw [upd_size]; exact Nat.le_refl _, fun k hk1 hk2 => upd_ne (by omega), hupd, fun g0 row e1 e2 e3 => ?_⟩
      · rw [flat_len fun r hr => hF r (List.mem_of_mem_take hr)]
      · rw [List.length_take, Nat.min_eq_left hm', flat_take hF]
        apply List.ext_getElem?
        intro j
        rw [List.getElem?_take, List.getElem?_take]
        split
        · rename_i hj
          rw [hcell j]
          split
          · rename_i hj2
            have e := congrArg (fun x => x[j]?) htake
            simp only [List.getElem?_take_of_lt hj2] at e
            rw [e, flat_take hF, List.getElem?_take_of_lt hj2]
          · rfl
        · rfl
      · by_cases hgg : g0 = g
        · exfalso
          subst hgg
          rw [hg] at e2
          have hcc : row = cur := by
            simp only [Option.some.injEq, Obj.cells.injEq, and_true] at e2
            have := congrArg Array.toList e2
            simpa using this.symm
          rw [hcc, hcl] at e3
          have h2n : 2 ≤ cap := by omega
          have := Nat.mul_le_mul_right n h2n
          omega
        · exact (upd_ne hgg).trans e2
    · obtain ⟨v', w', hr, ⟨ho1, ho2⟩, hgr⟩ := run_append_arg_grows (P := P) w t ty E0 i z n bytes ht h2 h7 h4 h5 h8 hsz ⟨g, 0, none⟩ m cap (F.take m).flatten (by rw [flat_len (fun r hr => hF r (List.mem_of_mem_take hr)), hlm]) (fun j u hj => by
        refine cell_list (o := 0) (n := m * n) hg j u ?_
        unfold sub
        rw [List.drop_zero, htake]
        exact hj) ⟨b, o, none⟩ (m' - m) c _ hnl hcells (by omega) (by omega) (Nat.le_trans (Nat.mul_le_mul_right _ (by omega)) hbytes)
      rw [hr]
      have hext : Ext [] w w' := ⟨hgr.os, hgr.tape, hgr.output, hgr.size, fun b hb _ => hgr.block b hb (by simp)⟩
      rw [hnews, Nat.add_sub_cancel' hmm, ← List.flatten_append, hcat] at ho2
      rcases ho2 with ⟨-, h9⟩ | ⟨g', cap', cur', rfl, d1, d2, d3, d4, d5, d6⟩
      · omega
      · refine hK _ _ ⟨⟨by rw [flat_len fun r hr => hF r (List.mem_of_mem_take hr)], .inr ⟨g', cap', cur'.toList, by rw [List.length_take, Nat.min_eq_left hm'], Nat.le_trans hN d1, by simpa using d2, by rw [List.length_take, Nat.min_eq_left hm']; exact d3, d4, by simpa using d5, by rw [List.length_take, Nat.min_eq_left hm']; exact d6⟩⟩, fun r hr => hF r (List.mem_of_mem_take hr), fun r hr => hF1 r (List.mem_of_mem_take hr)⟩ (fun h => absurd h (by omega)) (GrowW.of hext)
end Go.Fx
