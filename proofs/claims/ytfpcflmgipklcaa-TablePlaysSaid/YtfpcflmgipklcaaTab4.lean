/- Tables: an entry laid; conditions: those of each theorem. -/
import Derived.Test.YtfpcflmgipklcaaTab3
import Derived.Test.YtfpcflmgipklcaaTPush
namespace Go.Proofs.Ytfpcflmgipklcaa
open Go.Fx
set_option maxRecDepth 100000
set_option linter.unusedSimpArgs false
set_option linter.unusedVariables false
/-- how many frames tables have, in a world. -/
def tlen (w : World) (tb : Nat) : Nat := match w.heap[tb]? with
  | some (Obj.cells c _ _) => match (c[2]? : Option Value) with
    | some (Value.slice _ n _) => n
    | _ => 0
  | _ => 0
theorem Tab.tlen {w0 w : World} {tb r q p n : Nat} {m g : Nat → Int} {t : Nat} {fs : List Nat} (h : Tab w0 w tb r q p n m g t fs) : Ytfpcflmgipklcaa.tlen w tb = fs.length := by
  obtain ⟨a, c, h1, -⟩ := h.box
  unfold Ytfpcflmgipklcaa.tlen
  rw [h1]
  rfl
/-- the level at which an address's walk ends. -/
def levT (x : Nat × Nat × Bool) : Nat := x.2.1
def lev (m : Nat → Int) (root va : Nat) : Nat := levT (low m va 2 root)
theorem lev_of {m : Nat → Int} {root va f l : Nat} {b : Bool} (h : low m va 2 root = (f, l, b)) : lev m root va = l := congrArg levT h
/-- the levels, once an entry of va is laid (k: the level where its own walk ends now). -/
def levS (lv0 : Nat → Nat) (va k va' : Nat) : Nat := if k ≤ 1 ∧ va' / 1073741824 = va / 1073741824 then (if k = 0 ∧ va' / 2097152 = va / 2097152 then 0 else min (lv0 va') 1) else lv0 va'
theorem low_one {m : Nat → Int} {n : Nat} {fs : List Nat} {lv : Nat → Nat} {par : Nat → Nat × Nat} (hT : Tree m n fs lv par) {root f va : Nat} {b : Bool} (h : low m va 2 root = (f, 1, b)) : fl (ew m root (idx va 2)) 0 = true ∧ fr (ew m root (idx va 2)) = f := by
  rw [low_s m va 1 root] at h
  by_cases hv : fl (ew m root (idx va (1 + 1))) 0 = true
  · rw [if_pos hv, low_s m va 0] at h
    split at h
    · simp [low] at h
    · simp only [Prod.mk.injEq] at h
      exact ⟨hv, h.1⟩
  · rw [if_neg hv] at h
    simp at h
theorem low_two {m : Nat → Int} {n : Nat} {fs : List Nat} {lv : Nat → Nat} {par : Nat → Nat × Nat} (hT : Tree m n fs lv par) {root va : Nat} (hr : root ∈ fs) (hlr : lv root = 2) : (lev m root va = 2 ↔ fl (ew m root (idx va 2)) 0 = false) ∧ (fl (ew m root (idx va 2)) 0 = false → low m va 2 root = (root, 2, false)) := by
  have h2 : fl (ew m root (idx va 2)) 0 = false → low m va 2 root = (root, 2, false) := fun hv => by
    rw [low_s m va 1 root, if_neg (by rw [hv]; simp)]
  refine ⟨⟨fun h => ?_, fun hv => lev_of (h2 hv)⟩, h2⟩
  by_cases hv : fl (ew m root (idx va 2)) 0 = true
  · exfalso
    obtain ⟨h3, h4, -⟩ := hT.ent root hr _ (idx_lt _ _) 1 hlr hv
    have h5 := (low_at hT (va := va) h3 h4).2.2.1
    obtain ⟨y, hy⟩ : ∃ y, low m va 1 (fr (ew m root (idx va 2))) = y := ⟨_, rfl⟩
    have h6 : low m va 2 root = y := by rw [low_s m va 1 root, if_pos hv]; exact hy
    rw [hy] at h5
    have h7 : lev m root va = y.2.1 := by
      obtain ⟨a, b, c⟩ := y
      exact lev_of h6
    omega
  · simpa using hv
theorem low_same {m : Nat → Int} {va va' root : Nat} (h1 : idx va' 1 = idx va 1) (h2 : idx va' 2 = idx va 2) : low m va' 2 root = low m va 2 root := by
  rw [low_s m _ 1 root, low_s m _ 1 root, h2]
  split
  · rw [low_s m _ 0, low_s m _ 0, h1]
    rfl
  · rfl
theorem idx_two {va : Nat} (h : va < 549755813888) : idx va 2 = va / 1073741824 ∧ idx va 2 * 512 + idx va 1 = va / 2097152 := by
  unfold idx
  simp only [Nat.reduceMul, Nat.reduceAdd, Nat.reducePow]
  omega
/-- the levels of all addresses, once a table more is there. -/
theorem lev_grow {m m3 : Nat → Int} {n : Nat} {fs : List Nat} {lv : Nat → Nat} {par : Nat → Nat × Nat} (hT : Tree m n fs lv par) {root f k l va : Nat} (hr : root ∈ fs) (hlr : lv root = 2) (hlow : low m va 2 root = (f, l + 1, false)) (hk : k ∉ fs) (hkn : k < 17592186044416)
    (hE : ∀ f' i', i' < 512 → ew m3 f' i' = if f' = f ∧ i' = idx va (l + 1) then wd (bare false) k else if f' = k then 0 else ew m f' i') (hva : va < 549755813888) {va' : Nat} (hva' : va' < 549755813888) :
    lev m3 root va' = if l = 0 then (if va' / 2097152 = va / 2097152 then 0 else lev m root va') else if lev m root va' = 2 ∧ va' / 1073741824 = va / 1073741824 then 1 else lev m root va' := by
  have hat := low_at hT (va := va) hr hlr
  rw [hlow] at hat
  obtain ⟨a1, a2, a3, a4, a5⟩ := hat
  have a5 := a5 rfl
  simp only at a1 a2 a3 a5
  have hg := low_grow hT a1 a2 a5 hk hkn hE va' hr hlr
  obtain ⟨i1, i2⟩ := idx_two hva
  obtain ⟨j1, j2⟩ := idx_two hva'
  have b1 := idx_lt va 1
  have b2 := idx_lt va' 1
  obtain rfl | rfl : l = 0 ∨ l = 1 := by omega
  · rw [if_pos rfl]
    by_cases hs : va' / 2097152 = va / 2097152
    · rw [if_pos hs]
      have e2 : idx va' 2 = idx va 2 := by omega
      have e1 : idx va' 1 = idx va 1 := by omega
      rw [if_pos ⟨(low_same e1 e2).trans hlow, e1⟩] at hg
      exact lev_of hg
    · rw [if_neg hs]
      rw [if_neg] at hg
      · exact congrArg levT hg
      · rintro ⟨h1, h2⟩
        obtain ⟨c1, c2⟩ := low_one hT h1
        obtain ⟨d1, d2⟩ := low_one hT hlow
        have p1 := (hT.ent root hr _ (idx_lt va' 2) 1 hlr c1).2.2.1
        have p2 := (hT.ent root hr _ (idx_lt va 2) 1 hlr d1).2.2.1
        rw [c2] at p1
        rw [d2, p1] at p2
        simp only [Prod.mk.injEq, true_and] at p2
        have h2' : idx va' 1 = idx va 1 := h2
        omega
  · rw [if_neg (by omega)]
    have hlv2 : lev m root va = 2 := lev_of hlow
    have hv2 := (low_two hT hr hlr).1.1 hlv2
    have hfr : low m va 2 root = (root, 2, false) := (low_two hT hr hlr).2 hv2
    rw [hlow] at hfr
    simp only [Prod.mk.injEq, and_true] at hfr
    obtain rfl : f = root := hfr
    by_cases hs : lev m f va' = 2 ∧ va' / 1073741824 = va / 1073741824
    · rw [if_pos hs]
      have e1 : low m va' 2 f = (f, 2, false) := (low_two hT hr hlr).2 ((low_two hT hr hlr).1.1 hs.1)
      rw [if_pos ⟨e1, by show idx va' 2 = idx va 2; omega⟩] at hg
      exact lev_of hg
    · rw [if_neg hs]
      rw [if_neg] at hg
      · exact congrArg levT hg
      · rintro ⟨h1, h2⟩
        have h2' : idx va' 2 = idx va 2 := h2
        exact hs ⟨lev_of h1, by omega⟩
theorem lev_le2 {m : Nat → Int} {n root va : Nat} {fs : List Nat} {lv : Nat → Nat} {par : Nat → Nat × Nat} (hT : Tree m n fs lv par) (hr : root ∈ fs) (hlr : lv root = 2) : lev m root va ≤ 2 := by
  have hat := low_at hT (va := va) hr hlr
  obtain ⟨y, hy⟩ : ∃ y, low m va 2 root = y := ⟨_, rfl⟩
  obtain ⟨F, l, ok⟩ := y
  rw [hy] at hat
  rw [lev_of hy]
  exact hat.2.2.1
theorem levS_me {m : Nat → Int} {n root va va' : Nat} {fs : List Nat} {lv : Nat → Nat} {par : Nat → Nat × Nat} (hT : Tree m n fs lv par) (hr : root ∈ fs) (hlr : lv root = 2) (hva : va < 549755813888) (hva' : va' < 549755813888) : lev m root va' = levS (lev m root) va (lev m root va) va' := by
  obtain ⟨i1, i2⟩ := idx_two hva
  obtain ⟨j1, j2⟩ := idx_two hva'
  have b1 := idx_lt va 1
  have b2 := idx_lt va' 1
  have t1 := (low_two (va := va) hT hr hlr).1
  have t2 := (low_two (va := va') hT hr hlr).1
  have t3 := lev_le2 (va := va') hT hr hlr
  have t4 : idx va' 1 = idx va 1 → idx va' 2 = idx va 2 → lev m root va' = lev m root va := fun e1 e2 => congrArg levT (low_same e1 e2)
  unfold levS
  generalize lev m root va' = y at t2 t3 t4 ⊢
  generalize lev m root va = x at t1 t4 ⊢
  by_cases h1 : x ≤ 1 ∧ va' / 1073741824 = va / 1073741824
  · rw [if_pos h1]
    have e2 : idx va' 2 = idx va 2 := by omega
    have hne : y ≤ 1 := by
      have h3 : ¬ x = 2 := by omega
      rw [t1, ← e2, ← t2] at h3
      omega
    by_cases h2 : x = 0 ∧ va' / 2097152 = va / 2097152
    · rw [if_pos h2]
      have e1 : idx va' 1 = idx va 1 := by omega
      have := t4 e1 e2
      omega
    · rw [if_neg h2]
      omega
  · rw [if_neg h1]
structure LayI (w0 w w' : World) (tb r q p n root va : Nat) (oth : List Nat) (m : Nat → Int) (fs : List Nat) (m' : Nat → Int) (fs' : List Nat) (lv' : Nat → Nat) (par' : Nat → Nat × Nat) (t' : Nat) (g' : Nat → Int) : Prop where
  tab : Tab w0 w' tb r q p n m' g' t' fs'
  tree : Tree m' n fs' lv' par'
  own : OwnT t' (fs' ++ oth)
  dis : (fs' ++ oth).Nodup
  oth : ∀ f ∈ oth, f < n
  len : fs'.length + lev m' root va = fs.length + lev m root va
  hd : fs'.headD 0 = root
  look : ∀ va', lookW m' root va' = lookW m root va'
  levs : ∀ va', va' < 549755813888 → lev m' root va' = levS (lev m root) va (lev m' root va) va'
  kept : KeptO w w'
  keptI : KeptI tb w w'
theorem LayI.fs {w0 w w' : World} {tb r q p n root va : Nat} {oth : List Nat} {m m' : Nat → Int} {fs fs' : List Nat} {lv' : Nat → Nat} {par' : Nat → Nat × Nat} {t' : Nat} {g' : Nat → Int} (h : LayI w0 w w' tb r q p n root va oth m fs m' fs' lv' par' t' g') : root ∈ fs' ∧ lv' root = 2 ∧ 0 < fs'.length ∧ fs'.length + oth.length ≤ 64 := by
  obtain ⟨f0, l0, h1, h2⟩ := h.tree.top
  have h3 := h.hd
  rw [h1, List.headD_cons] at h3
  subst h3
  refine ⟨by rw [h1]; simp, h2, by rw [h1]; simp, ?_⟩
  have := cnt_fs h.own h.dis (fun f hf => by
    have := h.tab.num
    rcases List.mem_append.1 hf with hf | hf
    · have := h.tree.lt f hf
      omega
    · have := h.oth f hf
      omega)
  rw [← List.length_append, ← this]
  exact cntK_le _ _
/-- one table more. -/
theorem LayI.step {w0 w w' w3 : World} {tb r q p n root va k : Nat} {oth : List Nat} {m m' m3 : Nat → Int} {fs fs' : List Nat} {lv' : Nat → Nat} {par' : Nat → Nat × Nat} {t' : Nat} {g' g3 : Nat → Int} (h : LayI w0 w w' tb r q p n root va oth m fs m' fs' lv' par' t' g') {f l : Nat} (hva : va < 549755813888) (hlow : low m' va 2 root = (f, l + 1, false)) (hk : k < n) (hkf : k ∉ fs' ++ oth)
    (hE : ∀ f' i', i' < 512 → ew m3 f' i' = if f' = f ∧ i' = idx va (l + 1) then wd (bare false) k else if f' = k then 0 else ew m' f' i') (h3 : Tab w0 w3 tb r q p n m3 g3 (t' ||| 2 ^ k) (fs' ++ [k])) (hk3 : KeptO w' w3) (hkI : KeptI tb w' w3) :
    ∃ lv3 par3, LayI w0 w w3 tb r q p n root va oth m fs m3 (fs' ++ [k]) lv3 par3 (t' ||| 2 ^ k) g3 := by
  obtain ⟨hr, hlv, hl1, hl2⟩ := h.fs
  have hn := h.tab.num
  obtain ⟨a1, a2, a3, a4, a5⟩ := low_at h.tree (va := va) hr hlv
  rw [hlow] at a1 a2 a3 a4 a5
  have a5 := a5 rfl
  simp only at a1 a2 a3 a5
  have hkn : k < 17592186044416 := by omega
  have hkf1 : k ∉ fs' := fun hm => hkf (List.mem_append_left _ hm)
  have hkf2 : k ∉ oth := fun hm => hkf (List.mem_append_right _ hm)
  have hg := low_grow h.tree a1 a2 a5 hkf1 hkn hE va hr hlv
  rw [if_pos ⟨hlow, rfl⟩] at hg
  have e1 : lev m' root va = l + 1 := lev_of hlow
  have e2 : lev m3 root va = l := lev_of hg
  refine ⟨_, _, h3, h.tree.grow a1 a2 a5 hkf1 hkn hk hE, ?_, ?_, h.oth, ?_, ?_, fun va' => ?_, fun va' hva' => ?_, h.kept.trans hk3, h.keptI.trans hkI⟩
  · intro i hi
    rw [h.own.grow i hi]
    simp only [List.mem_append, List.mem_singleton]
    exact ⟨fun h => by rcases h with (h | h) | h <;> simp [h], fun h => by rcases h with (h | h) | h <;> simp [h]⟩
  · have hd := h.dis
    rw [List.nodup_append] at hd ⊢
    refine ⟨?_, hd.2.1, fun x hx y hy => ?_⟩
    · rw [List.nodup_append]
      refine ⟨hd.1, by simp, fun x hx y hy => ?_⟩
      rw [List.mem_singleton.1 hy]
      exact fun e => hkf1 (e ▸ hx)
    · rcases List.mem_append.1 hx with hx | hx
      · exact hd.2.2 x hx y hy
      · rw [List.mem_singleton.1 hx]
        exact fun e => hkf2 (e ▸ hy)
  · have hl := h.len
    rw [e1] at hl
    rw [e2, List.length_append, List.length_singleton]
    generalize lev m root va = c at hl ⊢
    omega
  · rw [← h.hd]
    obtain ⟨f0, l0, h1, -⟩ := h.tree.top
    rw [h1]
    rfl
  · rw [← h.look va', ← h.hd]
    exact look_grow h.tree a1 a2 a5 hkf1 hkn hE va'
  · have hgr := lev_grow h.tree hr hlv hlow hkf1 hkn hE hva hva'
    have hold := h.levs va' hva'
    have hle := lev_le2 (va := va') h.tree hr hlv
    rw [hgr, e2]
    rw [e1] at hold
    generalize lev m' root va' = x at *
    generalize lev m root = lv0 at *
    unfold levS at hold ⊢
    obtain rfl | rfl : l = 0 ∨ l = 1 := by omega
    · rw [if_pos rfl]
      by_cases hs : va' / 2097152 = va / 2097152
      · have hs2 : va' / 1073741824 = va / 1073741824 := by omega
        rw [if_pos hs, if_pos ⟨by omega, hs2⟩, if_pos ⟨rfl, hs⟩]
      · rw [if_neg hs]
        by_cases hs2 : va' / 1073741824 = va / 1073741824
        · rw [if_pos ⟨by omega, hs2⟩, if_neg (fun h => by omega)] at hold
          rw [if_pos ⟨by omega, hs2⟩, if_neg (fun h => hs h.2)]
          exact hold
        · rw [if_neg (fun h => hs2 h.2)] at hold
          rw [if_neg (fun h => hs2 h.2)]
          exact hold
    · rw [if_neg (by omega)]
      rw [if_neg (fun h => by omega)] at hold
      by_cases hs2 : va' / 1073741824 = va / 1073741824
      · have e : (if 1 ≤ 1 ∧ va' / 1073741824 = va / 1073741824 then (if 1 = 0 ∧ va' / 2097152 = va / 2097152 then 0 else min (lv0 va') 1) else lv0 va') = min (lv0 va') 1 := by
          rw [if_pos ⟨Nat.le_refl _, hs2⟩, if_neg (fun h => by omega)]
        rw [e]
        by_cases hx : x = 2
        · rw [if_pos ⟨hx, hs2⟩]
          omega
        · rw [if_neg (fun h => hx h.1)]
          omega
      · rw [if_neg (fun h => hs2 h.2), if_neg (fun h => hs2 h.2)]
        exact hold
end Go.Proofs.Ytfpcflmgipklcaa
