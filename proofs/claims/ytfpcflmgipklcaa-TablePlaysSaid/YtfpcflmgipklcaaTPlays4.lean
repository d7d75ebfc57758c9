/- TablePlays; conditions: those of each theorem. -/
import Derived.Test.YtfpcflmgipklcaaTPlaysE
namespace Go.Proofs.Ytfpcflmgipklcaa
open Go.Fx
set_option maxRecDepth 100000
set_option linter.unusedSimpArgs false
set_option linter.unusedVariables false
theorem act_drop0 (a : ActE) : actC a ++ List.drop (actC a).length [.int .i64 0, .int .i64 0, .int .u64 0, .bool false, .bool false, .bool false, .bool false, .bool false, .bool false, .bool false, .bool false, .bool false, .bool false, .bool false, .bool false, .int .u64 0] = actC a := by simp [actC, entC]
set_option maxHeartbeats 4000000
theorem plays_spec {w : World} {v : Value} {l : List ActE} (hv : RowsAt w v 16 (l.map actC)) (hl : ∀ c ∈ l, c.va < 18446744073709551616 ∧ c.x < 18446744073709551616) {va : Nat} (hva : va < 18446744073709551616) {K : Value → World → Prop} (hK : ∀ w', Ext [] w w' → K (.bool true) w') :
    callsK Try.prog 3 #[v, .int .u64 (va : Nat)] w K := by
  have hlv := hv.lenR (ty := 3) Try.underlying22
  rw [List.length_map] at hlv
  have hz : ([.slice none 0 0, .slice none 0 0, .slice none 0 0, .slice none 0 0] : List Value) = tvC (.slice none 0 0) (.slice none 0 0) (.slice none 0 0) (.slice none 0 0) := rfl
  apply F3_ok
  unfold F3
  simp (disch := first | assumption | omega | (simp only [szR, tgC_len, tgC_all, entC_len, entC_all, tvC_len, tvC_all, actC_len, actC_all, plC_len, plC_all, tbC_len, tbC_all, fdC_len, fdC_all] <;> omega) | rfl | decide) only [gen0, gen1, gen2, rulesM, rulesT, rulesQ, litR, bolR, Nat.reduceAdd, Nat.reduceLeDiff, numR, memR, valR, heapR, updR, intR, decR, extR, slR, segR, thenR, pnR, Int.reduceToNat, Int.reduceAdd, Int.reduceSub, Int.reduceLT, Int.reduceLE, Nat.reduceSub, Nat.reduceMul, Nat.reduceEqDiff]
  refine New_spec (n := 12) (by omega) fun w1 hM1 hx1 => ?_
  have hs1 := hx1.size
  simp (disch := first | assumption | omega | (simp only [szR, tgC_len, tgC_all, entC_len, entC_all, tvC_len, tvC_all, actC_len, actC_all, plC_len, plC_all, tbC_len, tbC_all, fdC_len, fdC_all] <;> omega) | rfl | decide) only [gen0, gen1, gen2, rulesM, rulesT, rulesQ, litR, bolR, Nat.reduceAdd, Nat.reduceLeDiff, numR, memR, valR, heapR, updR, intR, decR, extR, slR, segR, thenR, pnR, Int.reduceToNat, Int.reduceAdd, Int.reduceSub, Int.reduceLT, Int.reduceLE, Nat.reduceSub, Nat.reduceMul, Nat.reduceEqDiff]
  refine pnew_spec (n := 12) (by omega) fun w2 hp2 hx2 => ?_
  simp (disch := first | assumption | omega | (simp only [szR, tgC_len, tgC_all, entC_len, entC_all, tvC_len, tvC_all, actC_len, actC_all, plC_len, plC_all, tbC_len, tbC_all, fdC_len, fdC_all] <;> omega) | rfl | decide) only [gen0, gen1, gen2, rulesM, rulesT, rulesQ, litR, bolR, Nat.reduceAdd, Nat.reduceLeDiff, numR, memR, valR, heapR, updR, intR, decR, extR, slR, segR, thenR, pnR, Int.reduceToNat, Int.reduceAdd, Int.reduceSub, Int.reduceLT, Int.reduceLE, Nat.reduceSub, Nat.reduceMul, Nat.reduceEqDiff]
  refine tnew_spec (w0 := w) (n := 12) (hM1.ext hx2 (by simp) (by simp)) hp2 (by omega) (by omega) (hx1.trans hx2 (by simp)) fun tb g3 t3 w3 h3 hT3 hO3 hL3 hv3 hk3 => ?_
  simp (disch := first | assumption | omega | (simp only [szR, tgC_len, tgC_all, entC_len, entC_all, tvC_len, tvC_all, actC_len, actC_all, plC_len, plC_all, tbC_len, tbC_all, fdC_len, fdC_all] <;> omega) | rfl | decide) only [gen0, gen1, gen2, rulesM, rulesT, rulesQ, litR, bolR, Nat.reduceAdd, Nat.reduceLeDiff, numR, memR, valR, heapR, updR, intR, decR, extR, slR, segR, thenR, pnR, Int.reduceToNat, Int.reduceAdd, Int.reduceSub, Int.reduceLT, Int.reduceLE, Nat.reduceSub, Nat.reduceMul, Nat.reduceEqDiff, joinBR, Option.isNone_some, hz, tv_drop]
  obtain ⟨W, hW⟩ : ∃ W, W = w3.alloc (.cells (tvC (.slice none 0 0) (.slice none 0 0) (.slice none 0 0) (.slice none 0 0)).toArray 37) := ⟨_, rfl⟩
  have hxW : Ext [] w3 W := by rw [hW]; exact Ext.alloc Ext.refl _ _
  have hbx : W.heap[w3.heap.size]? = some (.cells (tvC (.slice none 0 0) (.slice none 0 0) (.slice none 0 0) (.slice none 0 0)).toArray 37 (0, 0)) := by rw [hW]; exact alloc_at rfl
  rw [← hW]
  have hI0 : Pl w W tb (w.heap.size + 1) w.heap.size w1.heap.size w3.heap.size (wipeM (fun _ => 0) 0) g3 t3 [0] (fun _ => 2) (fun _ => (0, 0)) [] ⟨[], [], []⟩ (.slice none 0 0) (.slice none 0 0) (.slice none 0 0) (.slice none 0 0) (.slice none 0 0) 0 :=
    ⟨h3.step hxW, hT3, hO3, by simp, by simp, rfl, hbx, ⟨OwnR.nil, OwnR.nil, OwnR.nil, OwnR.nil⟩, ⟨fun k _ => hL3 _, fun va' _ => by rw [hv3]; rfl, by simp, rfl⟩, .inl ⟨rfl, rfl⟩, fun b hb => (by cases hb), by simp⟩
  have hbl : w.heap.size ≤ w3.heap.size := h3.ext.size
  generalize hbxd : w3.heap.size = bx at *
  clear hW hxW hbx
  generalize hpd : w1.heap.size = p at *
  refine loopT.intro (fun st w' => ∃ (i : Nat) (m g : Nat → Int) (t : Nat) (fs : List Nat) (lv : Nat → Nat) (par : Nat → Nat × Nat) (oth : List Nat) (R : RT) (vo u0 u1 u2 u3 : Value), i ≤ l.length ∧ i ≤ 50 ∧ st = [vo, .int .i64 (i : Nat)] ∧ Pl w w' tb (w.heap.size + 1) w.heap.size p bx m g t fs lv par oth R vo u0 u1 u2 u3 i)
    (fun st _ => match st with
      | [_, .int _ z] => 50 - z.toNat
      | _ => 0) ⟨0, _, _, _, _, _, _, _, _, _, _, _, _, _, by omega, by omega, rfl, hI0⟩ ?_
  clear hI0
  rintro st w5 ⟨i, m, g, t, fs, lv, par, oth, R, vo, u0, u1, u2, u3, hil, hi50, rfl, hI⟩ _
  have hx5 : Ext [] w w5 := hI.tab.ext
  obtain ⟨hfs, hfo⟩ := hI.fs0
  have hlen := hI.len
  by_cases hc : i < l.length ∧ i < 50
  · obtain ⟨hc1, hc2⟩ := hc
    obtain ⟨a, ha⟩ : ∃ a, l[i]? = some a := ⟨l[i], List.getElem?_eq_getElem hc1⟩
    have ham : a ∈ l := List.mem_of_getElem? ha
    obtain ⟨hava, hax⟩ := hl a ham
    have hv5 := hv.ext hx5 (by simp)
    obtain ⟨b, o, L, E, ff, hix, hb, hfit, hlt, hblk, hsub, hget⟩ := RowsAt.ixR (P := Try.prog) (t := 22) Try.underlying22 Try.sizeOf42 hv5 (k := i) (r := actC a) (by rw [List.getElem?_map, ha]; rfl)
    have hs := hsub o rfl
    have hix' : ∀ w, (Instr.indexAt 22 v (.int .i64 (i : Nat))).run Try.prog w = .ok (.pointer (some ⟨b, o, none⟩)) w := fun w => hix w .i64 i rfl
    have e1 : decide (((i : Nat) : Int) < ((l.length : Nat) : Int)) = true := decide_eq_true (by omega)
    have e2 : decide (((i : Nat) : Int) < 50) = true := decide_eq_true (by omega)
    simp (disch := first | assumption | omega | (simp only [szR, tgC_len, tgC_all, entC_len, entC_all, tvC_len, tvC_all, actC_len, actC_all, plC_len, plC_all, tbC_len, tbC_all, fdC_len, fdC_all] <;> omega) | rfl | decide) only [gen0, gen1, gen2, rulesM, rulesT, rulesQ, litR, bolR, Nat.reduceAdd, Nat.reduceLeDiff, numR, memR, valR, heapR, updR, intR, decR, extR, slR, segR, thenR, pnR, Int.reduceToNat, Int.reduceAdd, Int.reduceSub, Int.reduceLT, Int.reduceLE, Nat.reduceSub, Nat.reduceMul, Nat.reduceEqDiff, joinBR, hlv, e1, e2, hix', hb, hs, act_drop0]
    obtain ⟨w6, hw6⟩ : ∃ w6, w6 = w5.alloc (.cells (actC a).toArray 42) := ⟨_, rfl⟩
    have hx6 : Ext [] w5 w6 := by rw [hw6]; exact Ext.alloc Ext.refl _ _
    have hA6 : w6.heap[w5.heap.size]? = some (.cells (actC a).toArray 42 (0, 0)) := by rw [hw6]; exact alloc_at rfl
    rw [← hw6]
    have hI6 := hI.step hx6
    clear hw6
    have l6 := lt_of_at hA6
    refine joinL.intro fun J6 hJ6 => ?_
    have hgo : ∀ (code : Int) w' m' g' t' fs' lv' par' oth' R' vo' t0 t1 t2 t3, Pl w w' tb (w.heap.size + 1) w.heap.size p bx m' g' t' fs' lv' par' oth' R' vo' t0 t1 t2 t3 (i + 1) → w'.heap[w5.heap.size]? = some (.cells (actC a).toArray 42 (0, 0)) → J6 [.int .i64 code, .int .i64 code, vo'] w' := by
      intro code w' m' g' t' fs' lv' par' oth' R' vo' t0 t1 t2 t3 h' hA'
      apply hJ6
      intro _
      clear hJ6
      have l7 := lt_of_at hA'
      have l8 := lt_of_at h'.box
      obtain ⟨hfs', hfo'⟩ := h'.fs0
      have hlen' := h'.len
      have hb7 := h'.box
      simp (disch := first | assumption | omega | (simp only [szR, tgC_len, tgC_all, entC_len, entC_all, tvC_len, tvC_all, actC_len, actC_all, plC_len, plC_all, tbC_len, tbC_all, fdC_len, fdC_all] <;> omega) | rfl | decide) only [gen0, gen1, gen2, rulesM, rulesT, rulesQ, litR, bolR, Nat.reduceAdd, Nat.reduceLeDiff, numR, memR, valR, heapR, updR, intR, decR, extR, slR, segR, thenR, pnR, Int.reduceToNat, Int.reduceAdd, Int.reduceSub, Int.reduceLT, Int.reduceLE, Nat.reduceSub, Nat.reduceMul, Nat.reduceEqDiff, hb7, hA', actC_2, tvC_sub]
      refine rgot_spec h'.ref (by omega) hava fun w8 hx8 => ?_
      obtain ⟨y, hy⟩ : ∃ y, y = gotF R' a.va := ⟨_, rfl⟩
      rw [← hy]
      obtain ⟨f, x, ok⟩ := y
      unfold gotV
      have hA8 := hx8.at hA' (by simp)
      have l9 := lt_of_at hA8
      simp (disch := first | assumption | omega | (simp only [szR, tgC_len, tgC_all, entC_len, entC_all, tvC_len, tvC_all, actC_len, actC_all, plC_len, plC_all, tbC_len, tbC_all, fdC_len, fdC_all] <;> omega) | rfl | decide) only [gen0, gen1, gen2, rulesM, rulesT, rulesQ, litR, bolR, Nat.reduceAdd, Nat.reduceLeDiff, numR, memR, valR, heapR, updR, intR, decR, extR, slR, segR, thenR, pnR, Int.reduceToNat, Int.reduceAdd, Int.reduceSub, Int.reduceLT, Int.reduceLE, Nat.reduceSub, Nat.reduceMul, Nat.reduceEqDiff, hA8, actC_2, ent_drop0]
      obtain ⟨w9, hw9⟩ : ∃ w9, w9 = w8.alloc (.cells (entC f x).toArray 46) := ⟨_, rfl⟩
      have hx9 : Ext [] w8 w9 := by rw [hw9]; exact Ext.alloc Ext.refl _ _
      have hw9' : w9.heap[w8.heap.size]? = some (.cells (entC f x).toArray 46 (0, 0)) := by rw [hw9]; exact alloc_at rfl
      rw [← hw9]
      have h9 := h'.step (hx8.trans hx9 (by simp))
      clear hw9
      refine tgot_spec h9.tab h9.tree hfs' h9.hd h9.cor fun w10 hx10 => ?_
      rw [← hy]
      unfold gotV
      simp (disch := first | assumption | omega | (simp only [szR, tgC_len, tgC_all, entC_len, entC_all, tvC_len, tvC_all, actC_len, actC_all, plC_len, plC_all, tbC_len, tbC_all, fdC_len, fdC_all] <;> omega) | rfl | decide) only [gen0, gen1, gen2, rulesM, rulesT, rulesQ, litR, bolR, Nat.reduceAdd, Nat.reduceLeDiff, numR, memR, valR, heapR, updR, intR, decR, extR, slR, segR, thenR, pnR, Int.reduceToNat, Int.reduceAdd, Int.reduceSub, Int.reduceLT, Int.reduceLE, Nat.reduceSub, Nat.reduceMul, Nat.reduceEqDiff, ent_drop0]
      obtain ⟨w11, hw11⟩ : ∃ w11, w11 = w10.alloc (.cells (entC f x).toArray 40) := ⟨_, rfl⟩
      have hx11 : Ext [] w10 w11 := by rw [hw11]; exact Ext.alloc Ext.refl _ _
      have hg11 : w11.heap[w10.heap.size]? = some (.cells (entC f x).toArray 40 (0, 0)) := by rw [hw11]; exact alloc_at rfl
      rw [← hw11]
      have h11 := h9.step (hx10.trans hx11 (by simp))
      have hw11' := hx11.at (hx10.at hw9' (by simp)) (by simp)
      clear hw11
      refine joinL.intro fun J8 hJ8 => ?_
      refine same_region h11.tab h11.tree h11.own h11.dis h11.small hfs' h11.box h11.ref (by omega) h11.cor.cnt (h11.ov.low (Nat.zero_le _)) (by omega) hg11 hw11' rfl rfl rfl rfl rfl rfl rfl rfl rfl rfl fun w12 hx12 => ?_
      apply hJ8
      intro _
      simp (disch := first | assumption | omega | (simp only [szR, tgC_len, tgC_all, entC_len, entC_all, tvC_len, tvC_all, actC_len, actC_all, plC_len, plC_all, tbC_len, tbC_all, fdC_len, fdC_all] <;> omega) | rfl | decide) only [gen0, gen1, gen2, rulesM, rulesT, rulesQ, litR, bolR, Nat.reduceAdd, Nat.reduceLeDiff, numR, memR, valR, heapR, updR, intR, decR, extR, slR, segR, thenR, pnR, Int.reduceToNat, Int.reduceAdd, Int.reduceSub, Int.reduceLT, Int.reduceLE, Nat.reduceSub, Nat.reduceMul, Nat.reduceEqDiff]
      exact ⟨⟨i + 1, m', g', t', fs', lv', par', oth', R', vo', t0, t1, t2, t3, by omega, by omega, rfl, h11.step hx12⟩, by omega⟩
    clear hJ6
    by_cases k0 : a.k = 0
    · have d0 : decide (a.k = 0) = true := decide_eq_true k0
      simp (disch := first | assumption | omega | (simp only [szR, tgC_len, tgC_all, entC_len, entC_all, tvC_len, tvC_all, actC_len, actC_all, plC_len, plC_all, tbC_len, tbC_all, fdC_len, fdC_all] <;> omega) | rfl | decide) only [gen0, gen1, gen2, rulesM, rulesT, rulesQ, litR, bolR, Nat.reduceAdd, Nat.reduceLeDiff, numR, memR, valR, heapR, updR, intR, decR, extR, slR, segR, thenR, pnR, Int.reduceToNat, Int.reduceAdd, Int.reduceSub, Int.reduceLT, Int.reduceLE, Nat.reduceSub, Nat.reduceMul, Nat.reduceEqDiff, hA6, actC_0, actC_2, actC_sub, d0]
      obtain ⟨q, hq⟩ : ∃ q, q = outR R a (12 - oth.length - (1 + R.mid.length + R.low.length)) := ⟨_, rfl⟩
      have hcn := hI.cor.cnt
      refine callsK_mono (K := fun v w7 => ∃ (m' g' : Nat → Int) (t' : Nat) (fs' : List Nat) (lv' : Nat → Nat) (par' : Nat → Nat × Nat), v = .int .i64 q.1 ∧ Tab w w7 tb (w.heap.size + 1) w.heap.size p 12 m' g' t' fs' ∧ Tree m' 12 fs' lv' par' ∧ OwnT t' (fs' ++ oth) ∧ (fs' ++ oth).Nodup ∧ fs'.headD 0 = 0 ∧ Cor m' fs' q.2 ∧ KeptO w6 w7 ∧ KeptI tb w6 w7) ?_ ?_
      · by_cases hlt : a.va < 274877906944
        · have hnd := hI.cor.need hlt
          refine Set_tabO hI6.tab hI6.tree hI6.own hI6.dis hI6.small hlt hax (fun hbad w7 hx7 => ?_) (fun hgood hroom w7 hx7 => ?_) fun hgood hok m' g' t' fs' lv' par' w7 h7 hT7 hO7 hD7 hl7 hr7 hlook hlevs hk7 hki7 => ?_
          · have e : q = (2, R) := by rw [hq]; unfold outR; rw [if_pos (.inr hbad)]
            rw [e]
            exact ⟨m, g, t, fs, lv, par, rfl, hI6.tab.step hx7, hI6.tree, hI6.own, hI6.dis, hI6.hd, hI6.cor, KeptO.of hx7 (by simp), hI6.tab.ofI hx7 (by simp)⟩
          · rw [hI6.hd, hnd] at hroom
            have e : q = (15, R) := by rw [hq]; unfold outR; rw [if_neg (by rw [hgood]; simp [hlt]), if_pos (by omega)]
            rw [e]
            exact ⟨m, g, t, fs, lv, par, rfl, hI6.tab.step hx7, hI6.tree, hI6.own, hI6.dis, hI6.hd, hI6.cor, KeptO.of hx7 (by simp), hI6.tab.ofI hx7 (by simp)⟩
          · rw [hI6.hd] at hok hl7 hr7 hlook hlevs
            rw [hnd] at hok
            have e : q = (0, setR R a.va ⟨a.f, a.x⟩) := by rw [hq]; unfold outR; rw [if_neg (by rw [hgood]; simp [hlt]), if_neg (by omega)]
            rw [e]
            exact ⟨m', g', t', fs', lv', par', rfl, h7, hT7, hO7, hD7, hr7, hI6.cor.set hlt (e := ⟨a.f, a.x⟩) hgood hlook hlevs hl7, hk7, hki7⟩
        · refine Set_no hI6.tab hfs hlt fun w7 hx7 => ?_
          have e : q = (2, R) := by rw [hq]; unfold outR; rw [if_pos (.inl hlt)]
          rw [e]
          exact ⟨m, g, t, fs, lv, par, rfl, hI6.tab.step hx7, hI6.tree, hI6.own, hI6.dis, hI6.hd, hI6.cor, KeptO.of hx7 (by simp), hI6.tab.ofI hx7 (by simp)⟩
      · rintro v' w7 ⟨m', g', t', fs', lv', par', rfl, h7, hT7, hO7, hD7, hr7, hC7, hk7, hki7⟩
        have hA7 := hk7.1 _ _ _ hA6 (by decide) (by decide) (by decide) (by decide)
        have hb7 := hk7.1 _ _ _ hI6.box (by decide) (by decide) (by decide) (by decide)
        have hR7 := hI6.ref.kept hk7
        obtain ⟨hov7, hoff7⟩ := hI6.ov.keptI hI6.off hki7
        refine joinL.intro fun J11 hJ11 => ?_
        refine set_region hb7 hR7 (by omega) hA7 hava hax (hov7.low (Nat.zero_le _)) (by omega) rfl rfl rfl fun b' t0 t1 t2 t3 w8 h8 hb8 hle8 hx8 => ?_
        rw [← hq] at h8 ⊢
        apply hJ11
        intro _
        clear hJ11
        have hA8 := hx8.at hA7 (by simp)
        have hbx8 := hx8.at hb7 (by simp)
        obtain ⟨ac, bc, htb7, -⟩ := h7.box
        obtain ⟨b0, b1, b2, b3, c0, c1, c2, c3, rfl, rfl, rfl, rfl⟩ := h8.slices
        have lb8 := lt_of_at hb8
        have lx8 := lt_of_at hbx8
        simp (disch := first | assumption | omega | (simp only [szR, tgC_len, tgC_all, entC_len, entC_all, tvC_len, tvC_all, actC_len, actC_all, plC_len, plC_all, tbC_len, tbC_all, fdC_len, fdC_all] <;> omega) | rfl | decide) only [gen0, gen1, gen2, rulesM, rulesT, rulesQ, litR, bolR, Nat.reduceAdd, Nat.reduceLeDiff, numR, memR, valR, heapR, updR, intR, decR, extR, slR, segR, thenR, pnR, Int.reduceToNat, Int.reduceAdd, Int.reduceSub, Int.reduceLT, Int.reduceLE, Nat.reduceSub, Nat.reduceMul, Nat.reduceEqDiff, hb8, hbx8, tvC_sub, tv_drop]
        have hq2 : q.2.ps.length ≤ i + 1 ∧ q.2.mid.length ≤ i + 1 ∧ q.2.low.length ≤ i + 1 := by
          rw [hq]
          unfold outR
          have h1 := setR_len R a.va ⟨a.f, a.x⟩
          split
          · exact ⟨by show R.ps.length ≤ _; omega, by show R.mid.length ≤ _; omega, by show R.low.length ≤ _; omega⟩
          · split
            · exact ⟨by show R.ps.length ≤ _; omega, by show R.mid.length ≤ _; omega, by show R.low.length ≤ _; omega⟩
            · exact ⟨by show (setR R a.va _).ps.length ≤ _; omega, by show (setR R a.va _).mid.length ≤ _; omega, by show (setR R a.va _).low.length ≤ _; omega⟩
        refine hgo _ _ _ _ _ _ _ _ _ _ _ _ _ _ _ (Pl.put (h7.step hx8) hT7 hO7 hD7 hI6.small hr7 hbx8 h8 hC7 (hov7.ext hx8 (by simp)) (fun b hb => (hoff7 b hb).step htb7 hx8 (by simp)) hq2 hbl) ?_
        exact (Ext.updI (S := [bx]) (by simp) Ext.refl).at hA8 (fun hm => at_ne hA8 hbx8 (by decide) (List.mem_singleton.1 hm))
    have d0 : decide (a.k = 0) = false := decide_eq_false k0
    by_cases k2 : a.k = 2
    · have d2 : decide (a.k = 2) = true := decide_eq_true k2
      simp (disch := first | assumption | omega | (simp only [szR, tgC_len, tgC_all, entC_len, entC_all, tvC_len, tvC_all, actC_len, actC_all, plC_len, plC_all, tbC_len, tbC_all, fdC_len, fdC_all] <;> omega) | rfl | decide) only [gen0, gen1, gen2, rulesM, rulesT, rulesQ, litR, bolR, Nat.reduceAdd, Nat.reduceLeDiff, numR, memR, valR, heapR, updR, intR, decR, extR, slR, segR, thenR, pnR, Int.reduceToNat, Int.reduceAdd, Int.reduceSub, Int.reduceLT, Int.reduceLE, Nat.reduceSub, Nat.reduceMul, Nat.reduceEqDiff, hA6, actC_0, actC_2, d0, d2]
      obtain ⟨q, hq⟩ : ∃ q : Int × RT, q = if a.va < 274877906944 then (0, clr R (a.va / 4096)) else (2, R) := ⟨_, rfl⟩
      refine callsK_mono (K := fun v w7 => ∃ (m' g' : Nat → Int), v = .int .i64 q.1 ∧ Tab w w7 tb (w.heap.size + 1) w.heap.size p 12 m' g' t fs ∧ Tree m' 12 fs lv par ∧ Cor m' fs q.2 ∧ KeptO w6 w7 ∧ KeptI tb w6 w7) ?_ ?_
      · by_cases hlt : a.va < 274877906944
        · rw [if_pos hlt] at hq
          rw [hq]
          refine Clear_tabO hI6.tab hI6.tree hfs hlt fun m' g' w7 h7 hT7 hlook hlow hk7 hki7 => ?_
          rw [hI6.hd] at hlook hlow
          exact ⟨m', g', rfl, h7, hT7, hI6.cor.clear hlt hlook hlow, hk7, hki7⟩
        · rw [if_neg hlt] at hq
          rw [hq]
          exact Clear_no hI6.tab hfs hlt ⟨m, g, rfl, hI6.tab, hI6.tree, hI6.cor, KeptO.refl _, KeptI.refl _ _⟩
      · rintro v' w7 ⟨m', g', rfl, h7, hT7, hC7, hk7, hki7⟩
        have hA7 := hk7.1 _ _ _ hA6 (by decide) (by decide) (by decide) (by decide)
        have hb7 := hk7.1 _ _ _ hI6.box (by decide) (by decide) (by decide) (by decide)
        have hR7 := hI6.ref.kept hk7
        obtain ⟨hov7, hoff7⟩ := hI6.ov.keptI hI6.off hki7
        have lA7 := lt_of_at hA7
        have lb7 := lt_of_at hb7
        obtain ⟨ac, bc, htb7, -⟩ := h7.box
        simp (disch := first | assumption | omega | (simp only [szR, tgC_len, tgC_all, entC_len, entC_all, tvC_len, tvC_all, actC_len, actC_all, plC_len, plC_all, tbC_len, tbC_all, fdC_len, fdC_all] <;> omega) | rfl | decide) only [gen0, gen1, gen2, rulesM, rulesT, rulesQ, litR, bolR, Nat.reduceAdd, Nat.reduceLeDiff, numR, memR, valR, heapR, updR, intR, decR, extR, slR, segR, thenR, pnR, Int.reduceToNat, Int.reduceAdd, Int.reduceSub, Int.reduceLT, Int.reduceLE, Nat.reduceSub, Nat.reduceMul, Nat.reduceEqDiff, hb7, hA7, actC_2, tvC_sub]
        refine callsK_mono (K := fun v w8 => ∃ t0 t1 t2 t3, v = .tuple #[.agg (tvC t0 t1 t2 t3).toArray, .int .i64 q.1] ∧ RefT w8 t0 t1 t2 t3 q.2 ∧ Ext [] w7 w8) ?_ ?_
        · refine rclear_spec hR7 (by omega) hava (fun hlt w8 hx8 => ?_) fun hlt t0 t1 w8 h8 hx8 => ?_
          · rw [if_neg hlt] at hq
            rw [hq]
            exact ⟨_, _, _, _, rfl, hR7.ext hx8 (by simp), hx8⟩
          · rw [if_pos hlt] at hq
            rw [hq]
            exact ⟨_, _, _, _, rfl, h8, hx8⟩
        · rintro v' w8 ⟨t0, t1, t2, t3, rfl, h8, hx8⟩
          obtain ⟨b0, b1, b2, b3, c0, c1, c2, c3, rfl, rfl, rfl, rfl⟩ := h8.slices
          have hA8 := hx8.at hA7 (by simp)
          have hbx8 := hx8.at hb7 (by simp)
          have lx8 := lt_of_at hbx8
          simp (disch := first | assumption | omega | (simp only [szR, tgC_len, tgC_all, entC_len, entC_all, tvC_len, tvC_all, actC_len, actC_all, plC_len, plC_all, tbC_len, tbC_all, fdC_len, fdC_all] <;> omega) | rfl | decide) only [gen0, gen1, gen2, rulesM, rulesT, rulesQ, litR, bolR, Nat.reduceAdd, Nat.reduceLeDiff, numR, memR, valR, heapR, updR, intR, decR, extR, slR, segR, thenR, pnR, Int.reduceToNat, Int.reduceAdd, Int.reduceSub, Int.reduceLT, Int.reduceLE, Nat.reduceSub, Nat.reduceMul, Nat.reduceEqDiff, hbx8, tv_drop]
          have hq2 : q.2.ps.length ≤ i + 1 ∧ q.2.mid.length ≤ i + 1 ∧ q.2.low.length ≤ i + 1 := by
            rw [hq]
            split
            · have h1 := List.length_filter_le (fun p : Nat × EntE => !(p.1 == a.va / 4096)) R.ps
              exact ⟨by show (R.ps.filter _).length ≤ _; omega, by show R.mid.length ≤ _; omega, by show R.low.length ≤ _; omega⟩
            · exact ⟨by show R.ps.length ≤ _; omega, by show R.mid.length ≤ _; omega, by show R.low.length ≤ _; omega⟩
          refine hgo _ _ _ _ _ _ _ _ _ _ _ _ _ _ _ (Pl.put (h7.step hx8) hT7 hI6.own hI6.dis hI6.small hI6.hd hbx8 h8 hC7 (hov7.ext hx8 (by simp)) (fun b hb => (hoff7 b hb).step htb7 hx8 (by simp)) hq2 hbl) ?_
          exact (Ext.updI (S := [bx]) (by simp) Ext.refl).at hA8 (fun hm => at_ne hA8 hbx8 (by decide) (List.mem_singleton.1 hm))
    have d2 : decide (a.k = 2) = false := decide_eq_false k2
    have hn := hI6.tab.num
    have hpt : ∀ {k : Nat} {l : Array Value} {E : TypeId}, w6.heap[k]? = some (.cells l E (0, 0)) → E ≠ 82 → k ≠ p := fun hk hE => at_ne hk hI6.tab.pool hE
    by_cases k3 : a.k = 3
    · have d3 : decide (a.k = 3) = true := decide_eq_true k3
      simp (disch := first | assumption | omega | (simp only [szR, tgC_len, tgC_all, entC_len, entC_all, tvC_len, tvC_all, actC_len, actC_all, plC_len, plC_all, tbC_len, tbC_all, fdC_len, fdC_all] <;> omega) | rfl | decide) only [gen0, gen1, gen2, rulesM, rulesT, rulesQ, litR, bolR, Nat.reduceAdd, Nat.reduceLeDiff, numR, memR, valR, heapR, updR, intR, decR, extR, slR, segR, thenR, pnR, Int.reduceToNat, Int.reduceAdd, Int.reduceSub, Int.reduceLT, Int.reduceLE, Nat.reduceSub, Nat.reduceMul, Nat.reduceEqDiff, hA6, actC_0, d0, d2, d3]
      refine Take_spec hI6.tab.pool hn hI6.tab.bits (fun k w7 hk hbit hj hp7 hx7 => ?_) (fun w7 hj hx7 => ?_)
      · have ht7 : t ||| 2 ^ k < 18446744073709551616 := Nat.or_lt_two_pow (n := 64) hI6.tab.bits (Nat.pow_lt_pow_right (by omega) (by omega))
        obtain ⟨h7, hk7⟩ := hI6.tab.of hx7 (by simp) (hI6.tab.mem.ext hx7 (by simp; exact hpt hI6.tab.mem.head (by decide)) (by simp; exact hpt hI6.tab.mem.body.choose_spec.1 (by decide))) hp7 ht7
        have hki7 := hI6.tab.ofI hx7 (by simp)
        have hA7 := hk7.1 _ _ _ hA6 (by decide) (by decide) (by decide) (by decide)
        have hb7 := hk7.1 _ _ _ hI6.box (by decide) (by decide) (by decide) (by decide)
        have hR7 := hI6.ref.kept hk7
        obtain ⟨hov7, hoff7⟩ := hI6.ov.keptI hI6.off hki7
        obtain ⟨ac, bc, htb7, -⟩ := h7.box
        have hkf : k ∉ fs ++ oth := fun hm => by
          rw [(hI6.own k (by omega)).2 hm] at hbit
          cases hbit
        simp (disch := first | assumption | omega | (simp only [szR, tgC_len, tgC_all, entC_len, entC_all, tvC_len, tvC_all, actC_len, actC_all, plC_len, plC_all, tbC_len, tbC_all, fdC_len, fdC_all] <;> omega) | rfl | decide) only [gen0, gen1, gen2, rulesM, rulesT, rulesQ, litR, bolR, Nat.reduceAdd, Nat.reduceLeDiff, numR, memR, valR, heapR, updR, intR, decR, extR, slR, segR, thenR, pnR, Int.reduceToNat, Int.reduceAdd, Int.reduceSub, Int.reduceLT, Int.reduceLE, Nat.reduceSub, Nat.reduceMul, Nat.reduceEqDiff]
        have hx8 : Ext [] w7 (w7.alloc (.cells (kC k).toArray 3)) := Ext.alloc Ext.refl _ _
        have h8 := h7.step hx8
        have hov8 := hov7.ext hx8 (by simp)
        have hoff8 := fun b hb => (hoff7 b hb).step htb7 hx8 (by simp)
        refine OthS.push hov8 (alloc_at rfl) (fun hb => ?_) (by omega) (Nat.le_trans h7.ext.size hx8.size) fun v' w9 ho9 hx9 hb9 => ?_
        · obtain ⟨-, l', hl⟩ := hov7.blt _ hb
          have := lt_of_at hl
          omega
        refine hgo 0 _ _ _ _ _ _ _ _ _ _ _ _ _ _ (Pl.oths h8 hI6.tree ?_ ?_ ?_ hI6.hd (hx8.at hb7 (by simp)) (hR7.ext hx8 (by simp)) hI6.cor hov8 hoff8 hI6.mono.len hx9 ho9 hb9) (hx9.at (hx8.at hA7 (by simp)) fun hm => ?_)
        · rw [← List.append_assoc]
          exact hI6.own.grow
        · rw [← List.append_assoc, List.nodup_append]
          refine ⟨hI6.dis, by simp, fun x hx y hy => ?_⟩
          rw [List.mem_singleton.1 hy]
          exact fun e => hkf (e ▸ hx)
        · intro f hf
          rcases List.mem_append.1 hf with hf | hf
          · exact hI6.small f hf
          · rw [List.mem_singleton.1 hf]
            exact hk
        · obtain ⟨-, l', hl⟩ := hov8.blt _ (by simpa using hm)
          exact at_ne (hx8.at hA7 (by simp)) hl (by decide) rfl
      · simp (disch := first | assumption | omega | (simp only [szR, tgC_len, tgC_all, entC_len, entC_all, tvC_len, tvC_all, actC_len, actC_all, plC_len, plC_all, tbC_len, tbC_all, fdC_len, fdC_all] <;> omega) | rfl | decide) only [gen0, gen1, gen2, rulesM, rulesT, rulesQ, litR, bolR, Nat.reduceAdd, Nat.reduceLeDiff, numR, memR, valR, heapR, updR, intR, decR, extR, slR, segR, thenR, pnR, Int.reduceToNat, Int.reduceAdd, Int.reduceSub, Int.reduceLT, Int.reduceLE, Nat.reduceSub, Nat.reduceMul, Nat.reduceEqDiff]
        exact hgo 0 _ _ _ _ _ _ _ _ _ _ _ _ _ _ (hI6.step hx7).mono (hx7.at hA6 (by simp))
    have d3 : decide (a.k = 3) = false := decide_eq_false k3
    by_cases k4 : a.k = 4
    · have d4 : decide (a.k = 4) = true := decide_eq_true k4
      have hol := hI6.ov.len
      rcases oth with _ | ⟨k, oth⟩
      · have e0 : decide ((0 : Int) < (([] : List Nat).length : Nat)) = false := by simp
        simp (disch := first | assumption | omega | (simp only [szR, tgC_len, tgC_all, entC_len, entC_all, tvC_len, tvC_all, actC_len, actC_all, plC_len, plC_all, tbC_len, tbC_all, fdC_len, fdC_all] <;> omega) | rfl | decide) only [gen0, gen1, gen2, rulesM, rulesT, rulesQ, litR, bolR, Nat.reduceAdd, Nat.reduceLeDiff, numR, memR, valR, heapR, updR, intR, decR, extR, slR, segR, thenR, pnR, Int.reduceToNat, Int.reduceAdd, Int.reduceSub, Int.reduceLT, Int.reduceLE, Nat.reduceSub, Nat.reduceMul, Nat.reduceEqDiff, hA6, actC_0, d0, d2, d3, d4, hol, e0]
        exact hgo 0 _ _ _ _ _ _ _ _ _ _ _ _ _ _ hI6.mono hA6
      · have e0 : decide ((0 : Int) < ((k :: oth).length : Nat)) = true := decide_eq_true (by rw [List.length_cons]; omega)
        obtain ⟨v', b4, o4, hix4, ⟨L4, hb4, hL4, hfit4⟩, hcut, hoth4, hblk4⟩ := hI6.ov.cut
        have hkm : k ∈ fs ++ k :: oth := by simp
        have hk12 := hI6.small k (by simp)
        simp (disch := first | assumption | omega | (simp only [szR, tgC_len, tgC_all, entC_len, entC_all, tvC_len, tvC_all, actC_len, actC_all, plC_len, plC_all, tbC_len, tbC_all, fdC_len, fdC_all] <;> omega) | rfl | decide) only [gen0, gen1, gen2, rulesM, rulesT, rulesQ, litR, bolR, Nat.reduceAdd, Nat.reduceLeDiff, numR, memR, valR, heapR, updR, intR, decR, extR, slR, segR, thenR, pnR, Int.reduceToNat, Int.reduceAdd, Int.reduceSub, Int.reduceLT, Int.reduceLE, Nat.reduceSub, Nat.reduceMul, Nat.reduceEqDiff, hA6, actC_0, d0, d2, d3, d4, hol, e0, hix4, hb4, hL4]
        refine Give_spec hI6.tab.pool hn hI6.tab.bits hk12 ((hI6.own k (by omega)).2 hkm) fun t' w7 ht7 hbits hp7 hx7 => ?_
        obtain ⟨h7, hk7⟩ := hI6.tab.of hx7 (by simp) (hI6.tab.mem.ext hx7 (by simp; exact hpt hI6.tab.mem.head (by decide)) (by simp; exact hpt hI6.tab.mem.body.choose_spec.1 (by decide))) hp7 ht7
        have hki7 := hI6.tab.ofI hx7 (by simp)
        have hA7 := hk7.1 _ _ _ hA6 (by decide) (by decide) (by decide) (by decide)
        have hb7 := hk7.1 _ _ _ hI6.box (by decide) (by decide) (by decide) (by decide)
        have hR7 := hI6.ref.kept hk7
        obtain ⟨hov7, hoff7⟩ := hI6.ov.keptI hI6.off hki7
        simp (disch := first | assumption | omega | (simp only [szR, tgC_len, tgC_all, entC_len, entC_all, tvC_len, tvC_all, actC_len, actC_all, plC_len, plC_all, tbC_len, tbC_all, fdC_len, fdC_all] <;> omega) | rfl | decide) only [gen0, gen1, gen2, rulesM, rulesT, rulesQ, litR, bolR, Nat.reduceAdd, Nat.reduceLeDiff, numR, memR, valR, heapR, updR, intR, decR, extR, slR, segR, thenR, pnR, Int.reduceToNat, Int.reduceAdd, Int.reduceSub, Int.reduceLT, Int.reduceLE, Nat.reduceSub, Nat.reduceMul, Nat.reduceEqDiff, hcut]
        have hdis := hI6.dis
        rw [List.nodup_append] at hdis
        have hkf : k ∉ fs ++ oth := fun hm => by
          rcases List.mem_append.1 hm with hm | hm
          · exact hdis.2.2 k hm k (by simp) rfl
          · exact (List.nodup_cons.1 hdis.2.1).1 hm
        refine hgo 0 _ _ _ _ _ _ _ oth _ _ _ _ _ _ ⟨h7, hI6.tree, fun j hj => ?_, ?_, fun f hf => hI6.small f (by simp [hf]), hI6.hd, hb7, hR7, hI6.cor, hoth4 _ hov7, fun b hb => hoff7 b (by rw [← hblk4]; exact hb), hI6.mono.len⟩ hA7
        · rw [hbits j hj, Bool.and_eq_true, hI6.own j hj]
          simp only [List.mem_append, List.mem_cons, Bool.not_eq_true', decide_eq_false_iff_not]
          constructor
          · rintro ⟨h1 | h1 | h1, h2⟩
            · exact .inl h1
            · exact absurd h1 h2
            · exact .inr h1
          · intro h1
            refine ⟨h1.imp id .inr, fun e => hkf ?_⟩
            rw [← e]
            exact List.mem_append.2 h1
        · rw [List.nodup_append]
          exact ⟨hdis.1, (List.nodup_cons.1 hdis.2.1).2, fun x hx y hy => hdis.2.2 x hx y (by simp [hy])⟩
    have d4 : decide (a.k = 4) = false := decide_eq_false k4
    simp (disch := first | assumption | omega | (simp only [szR, tgC_len, tgC_all, entC_len, entC_all, tvC_len, tvC_all, actC_len, actC_all, plC_len, plC_all, tbC_len, tbC_all, fdC_len, fdC_all] <;> omega) | rfl | decide) only [gen0, gen1, gen2, rulesM, rulesT, rulesQ, litR, bolR, Nat.reduceAdd, Nat.reduceLeDiff, numR, memR, valR, heapR, updR, intR, decR, extR, slR, segR, thenR, pnR, Int.reduceToNat, Int.reduceAdd, Int.reduceSub, Int.reduceLT, Int.reduceLE, Nat.reduceSub, Nat.reduceMul, Nat.reduceEqDiff, hA6, actC_0, d0, d2, d3, d4]
    exact hgo 0 _ _ _ _ _ _ _ _ _ _ _ _ _ _ hI6.mono hA6
  · have hfin := plays_end hI hi50 hva (v11 := .pointer (some ⟨bx, 0, none⟩)) (v31 := .pointer (some ⟨w.heap.size + 1, 0, none⟩)) (v41 := .pointer (some ⟨tb, 0, none⟩)) (t1 := .int .u64 (va : Nat)) rfl rfl rfl rfl hK
    by_cases hc1 : i < l.length
    · have e1 : decide (((i : Nat) : Int) < ((l.length : Nat) : Int)) = true := decide_eq_true (by omega)
      have e2 : decide (((i : Nat) : Int) < 50) = false := decide_eq_false (by omega)
      simp (disch := first | assumption | omega | (simp only [szR, tgC_len, tgC_all, entC_len, entC_all, tvC_len, tvC_all, actC_len, actC_all, plC_len, plC_all, tbC_len, tbC_all, fdC_len, fdC_all] <;> omega) | rfl | decide) only [gen0, gen1, gen2, rulesM, rulesT, rulesQ, litR, bolR, Nat.reduceAdd, Nat.reduceLeDiff, numR, memR, valR, heapR, updR, intR, decR, extR, slR, segR, thenR, pnR, Int.reduceToNat, Int.reduceAdd, Int.reduceSub, Int.reduceLT, Int.reduceLE, Nat.reduceSub, Nat.reduceMul, Nat.reduceEqDiff, joinBR, hlv, e1, e2]
      exact hfin
    · have e1 : decide (((i : Nat) : Int) < ((l.length : Nat) : Int)) = false := decide_eq_false (by omega)
      simp (disch := first | assumption | omega | (simp only [szR, tgC_len, tgC_all, entC_len, entC_all, tvC_len, tvC_all, actC_len, actC_all, plC_len, plC_all, tbC_len, tbC_all, fdC_len, fdC_all] <;> omega) | rfl | decide) only [gen0, gen1, gen2, rulesM, rulesT, rulesQ, litR, bolR, Nat.reduceAdd, Nat.reduceLeDiff, numR, memR, valR, heapR, updR, intR, decR, extR, slR, segR, thenR, pnR, Int.reduceToNat, Int.reduceAdd, Int.reduceSub, Int.reduceLT, Int.reduceLE, Nat.reduceSub, Nat.reduceMul, Nat.reduceEqDiff, joinBR, hlv, e1]
      exact hfin
end Go.Proofs.Ytfpcflmgipklcaa
