/- Tables: an entry laid; conditions: those of each theorem. -/
import Derived.Test.YtfpcflmgipklcaaTab3
namespace Go.Proofs.Ytfpcflmgipklcaa
open Go.Fx
set_option maxRecDepth 100000
set_option linter.unusedSimpArgs false
set_option linter.unusedVariables false
/-- how many frames tables have, in a world. -/
def tlen (w : World) (tb : Nat) : Nat := match w.heap[tb]? with
  | some (Obj.cells c _ _) => match (c[2]? : Option Value) with
    | some (Value.slice _ n _) => n
    | _ => 0
  | _ => 0
theorem Tab.tlen {w0 w : World} {tb r q p n : Nat} {m g : Nat → Int} {t : Nat} {fs : List Nat} (h : Tab w0 w tb r q p n m g t fs) : Ytfpcflmgipklcaa.tlen w tb = fs.length := by
  obtain ⟨a, c, h1, -⟩ := h.box
  unfold Ytfpcflmgipklcaa.tlen
  rw [h1]
  rfl
/-- the level at which an address's walk ends. -/
def levT (x : Nat × Nat × Bool) : Nat := x.2.1
def lev (m : Nat → Int) (root va : Nat) : Nat := levT (low m va 2 root)
theorem lev_of {m : Nat → Int} {root va f l : Nat} {b : Bool} (h : low m va 2 root = (f, l, b)) : lev m root va = l := congrArg levT h
/-- the levels, once an entry of va is laid (k: the level where its own walk ends now). -/
def levS (lv0 : Nat → Nat) (va k va' : Nat) : Nat := if k ≤ 1 ∧ va' / 1073741824 = va / 1073741824 then (if k = 0 ∧ va' / 2097152 = va / 2097152 then 0 else min (lv0 va') 1) else lv0 va'
structure LayI (w0 w w' : World) (tb r q p n root va : Nat) (m : Nat → Int) (fs : List Nat) (m' : Nat → Int) (fs' : List Nat) (lv' : Nat → Nat) (par' : Nat → Nat × Nat) (t' : Nat) (g' : Nat → Int) : Prop where
  tab : Tab w0 w' tb r q p n m' g' t' fs'
  tree : Tree m' n fs' lv' par'
  own : OwnT t' fs'
  len : fs'.length + lev m' root va = fs.length + lev m root va
  hd : fs'.headD 0 = root
  look : ∀ va', lookW m' root va' = lookW m root va'
  kept : KeptO w w'
theorem LayI.fs {w0 w w' : World} {tb r q p n root va : Nat} {m m' : Nat → Int} {fs fs' : List Nat} {lv' : Nat → Nat} {par' : Nat → Nat × Nat} {t' : Nat} {g' : Nat → Int} (h : LayI w0 w w' tb r q p n root va m fs m' fs' lv' par' t' g') : root ∈ fs' ∧ lv' root = 2 ∧ 0 < fs'.length ∧ fs'.length ≤ 64 := by
  obtain ⟨f0, l0, h1, h2⟩ := h.tree.top
  have h3 := h.hd
  rw [h1, List.headD_cons] at h3
  subst h3
  refine ⟨by rw [h1]; simp, h2, by rw [h1]; simp, ?_⟩
  have := cnt_fs h.own h.tree.one (fun f hf => by have := h.tree.lt f hf; have := h.tab.num; omega)
  rw [← this]
  exact cntK_le _ _
/-- one table more. -/
theorem LayI.step {w0 w w' w3 : World} {tb r q p n root va k : Nat} {m m' m3 : Nat → Int} {fs fs' : List Nat} {lv' : Nat → Nat} {par' : Nat → Nat × Nat} {t' : Nat} {g' g3 : Nat → Int} (h : LayI w0 w w' tb r q p n root va m fs m' fs' lv' par' t' g') {f l : Nat} (hlow : low m' va 2 root = (f, l + 1, false)) (hk : k < n) (hkf : k ∉ fs')
    (hE : ∀ f' i', i' < 512 → ew m3 f' i' = if f' = f ∧ i' = idx va (l + 1) then wd (bare false) k else if f' = k then 0 else ew m' f' i') (h3 : Tab w0 w3 tb r q p n m3 g3 (t' ||| 2 ^ k) (fs' ++ [k])) (hk3 : KeptO w' w3) :
    ∃ lv3 par3, LayI w0 w w3 tb r q p n root va m fs m3 (fs' ++ [k]) lv3 par3 (t' ||| 2 ^ k) g3 := by
  obtain ⟨hr, hlv, hl1, hl2⟩ := h.fs
  have hn := h.tab.num
  obtain ⟨a1, a2, a3, a4, a5⟩ := low_at h.tree (va := va) hr hlv
  rw [hlow] at a1 a2 a3 a4 a5
  have a5 := a5 rfl
  simp only at a1 a2 a5
  have hkn : k < 17592186044416 := by omega
  have hg := low_grow h.tree a1 a2 a5 hkf hkn hE va hr hlv
  rw [if_pos ⟨hlow, rfl⟩] at hg
  refine ⟨_, _, h3, h.tree.grow a1 a2 a5 hkf hkn hk hE, h.own.grow, ?_, ?_, fun va' => ?_, h.kept.trans hk3⟩
  · have hl := h.len
    have e1 : lev m' root va = l + 1 := lev_of hlow
    have e2 : lev m3 root va = l := lev_of hg
    rw [e1] at hl
    rw [e2, List.length_append, List.length_singleton]
    generalize lev m root va = c at hl ⊢
    omega
  · rw [← h.hd]
    obtain ⟨f0, l0, h1, -⟩ := h.tree.top
    rw [h1]
    rfl
  · rw [← h.look va', ← h.hd]
    have := look_grow h.tree a1 a2 a5 hkf hkn hE va'
    have e : (fs' ++ [k]).headD 0 = fs'.headD 0 := by
      obtain ⟨f0, l0, h1, -⟩ := h.tree.top
      rw [h1]
      rfl
    exact this
end Go.Proofs.Ytfpcflmgipklcaa
