/- One step of a unit and of the document's, beside one another; conditions: those of each theorem. -/
import Derived.Test.YtbigiabcgplkgaaOut12
import Derived.Test.YtbigiabcgplkgaaOne12b
namespace Go.Proofs.Ytbigiabcgplkgaa
open Go.Fx
set_option maxRecDepth 100000
set_option linter.unusedSimpArgs false
set_option linter.unusedVariables false
/-- a step. -/
structure A12 where
  kind : Int
  what : Int
  n : Int
  va : Nat
  tag : Bool
  f : Nat → Bool
  e : Nat
def a12C (c : A12) : List Value := .int .i64 c.kind :: .int .i64 c.what :: .int .i64 c.n :: .int .u64 c.va :: .bool c.tag :: entC c.f c.e
theorem a12_len (c : A12) : (a12C c).length = 18 := by simp [a12C, entC]
theorem a12_all (c : A12) : (a12C c).all (fun v => v.oneCell') = true := by simp [a12C, entC]; exact ⟨rfl, rfl, rfl, rfl, rfl, rfl, rfl, rfl, rfl, rfl, rfl, rfl, rfl, rfl, rfl, rfl, rfl, rfl⟩
theorem a12_at (c : A12) : (a12C c)[0]? = some (.int .i64 c.kind) ∧ (a12C c)[1]? = some (.int .i64 c.what) ∧ (a12C c)[2]? = some (.int .i64 c.n) ∧ (a12C c)[3]? = some (.int .u64 c.va) ∧ (a12C c)[4]? = some (.bool c.tag) := ⟨rfl, rfl, rfl, rfl, rfl⟩
theorem a12_sub (c : A12) : sub (a12C c) 5 13 = entC c.f c.e ∧ sub (a12C c) 0 18 = a12C c := ⟨by simp [a12C, sub, entC], by simp [a12C, sub, entC]⟩
theorem ruC_sub (vl ve : Value) (ro ai : Nat) (g : Bool) : sub (ruC vl ve ro ai g) 0 5 = ruC vl ve ro ai g := rfl
theorem ruC_len (vl ve : Value) (ro ai : Nat) (g : Bool) : (ruC vl ve ro ai g).length = 5 := by simp [ruC]
theorem ruC_at (vl ve : Value) (ro ai : Nat) (g : Bool) : (ruC vl ve ro ai g)[0]? = some vl ∧ (ruC vl ve ro ai g)[3]? = some (.int .u64 ai) ∧ (ruC vl ve ro ai g)[4]? = some (.bool g) := ⟨rfl, rfl, rfl⟩
theorem ruC_set (vl ve v : Value) (ro ai x : Nat) (g h : Bool) : (ruC vl ve ro ai g).set 0 v = ruC v ve ro ai g ∧ (ruC vl ve ro ai g).set 3 (.int .u64 (x : Int)) = ruC vl ve ro x g ∧ (ruC vl ve ro ai g).set 4 (.bool h) = ruC vl ve ro ai h := ⟨rfl, rfl, rfl⟩
theorem ruC_over (vl ve vl' ve' : Value) (ro ai ro' ai' : Nat) (g g' : Bool) : splice (ruC vl ve ro ai g) 0 (ruC vl' ve' ro' ai' g') = ruC vl' ve' ro' ai' g' := rfl
theorem ruC_drop (x : List Value) (vl ve : Value) (ro ai : Nat) (g : Bool) : x ++ List.drop 5 (ruC vl ve ro ai g) = x := by simp [ruC]
theorem ruC_zero : [Value.slice none 0 0, .slice none 0 0, .int .u64 0, .int .u64 0, .bool false] = ruC (.slice none 0 0) (.slice none 0 0) 0 0 false := rfl
theorem ruC_all {w w' : World} {vl ve : Value} {n n' : Nat} {r r' : List (List Value)} (h : RowsAt w vl n r) (h' : RowsAt w' ve n' r') (ro ai : Nat) (g : Bool) : (ruC vl ve ro ai g).all (fun v => v.oneCell') = true := by
  obtain ⟨a, c, rfl⟩ := h.len
  obtain ⟨a', c', rfl⟩ := h'.len
  simp [ruC]
  exact ⟨rfl, rfl, rfl, rfl, rfl⟩
theorem neqP92 (a : Nat) (s : Bool) (x y : Operand) (w : World) : (binV .neq 92 x y (.agg (plC a s).toArray) (.agg (plC a s).toArray)).run Try.prog w = .ok (.bool false) w := by
  have := RU_neq_92 a a s s x y w
  simpa [plC] using this
theorem plC_len (a : Nat) (s : Bool) : (plC a s).length = 2 := by simp [plC]
theorem plC_all (a : Nat) (s : Bool) : (plC a s).all (fun v => v.oneCell') = true := by simp [plC]; exact ⟨rfl, rfl⟩
theorem plC_sub (a : Nat) (s : Bool) : sub (plC a s) 0 2 = plC a s := rfl
theorem plC_over (a : Nat) (s : Bool) : splice [.int .u64 0, .bool false] 0 (plC a s) = plC a s := rfl
theorem pnR_form (o : Option (Nat × Nat)) (k : Int) (t g : Bool) (va : Nat) : ∃ a s b, pnR' o k t g va = .tuple #[.agg (plC a s).toArray, .int .i64 b] := by
  unfold pnR'
  cases o with
  | none => exact ⟨_, _, _, rfl⟩
  | some p =>
    simp only
    split
    · exact ⟨_, _, _, rfl⟩
    · exact ⟨_, _, _, rfl⟩
/-- a unit at b5 and the document's at b6, over memory, and the document's at b4. -/
structure In12 (w : World) (r q b4 b5 b6 : Nat) (D : List Dn) (G : Nat → List Rn) (m : Nat → Int) (ai : Nat) (g : Bool) (c : Nat) : Prop where
  ok : Ok12 D G
  at5 : At w b5 (lnS D G) (uT 0 ai g)
  mem : ∃ g0, Mem w r q 8 m g0
  doc : ∃ L P xa xb base, w.heap[b4]? = some (.cells L.toArray 28 (0, 0)) ∧ RMem w base L 8 m c P xa xb ∧ base ≤ b4 ∧ (P ≠ [] → ∀ b, blockOf xa = some b ∨ blockOf xb = some b → b ∉ [q, b4, b5, b6])
  unit : ∃ vl ve, w.heap[b6]? = some (.cells (ruC vl ve 0 ai g).toArray 89 (0, 0)) ∧ RowsAt w vl 3 ((upt G 4).map rfC) ∧ RowsAt w ve 13 (D.map deC) ∧ (∀ b, blockOf vl = some b → b ∉ [q, b4, b5, b6]) ∧ (∀ b, blockOf ve = some b → b ∉ [q, b4, b5, b6])
  ai64 : ai < 18446744073709551616
theorem In12.ext {w w' : World} {r q b4 b5 b6 : Nat} {D : List Dn} {G : Nat → List Rn} {m : Nat → Int} {ai : Nat} {g : Bool} {c : Nat} (h : In12 w r q b4 b5 b6 D G m ai g c) (hx : Ext [] w w') : In12 w' r q b4 b5 b6 D G m ai g c := by
  obtain ⟨g0, hm⟩ := h.mem
  obtain ⟨L, P, xa, xb, base, h1, h2, h3, h4⟩ := h.doc
  obtain ⟨vl, ve, h5, h6, h7, h8, h9⟩ := h.unit
  exact ⟨h.ok, h.at5.ext hx (by simp), ⟨g0, hm.ext hx (by simp) (by simp)⟩, ⟨L, P, xa, xb, base, hx.at h1 (by simp), h2.ext hx (by simp), h3, h4⟩, ⟨vl, ve, hx.at h5 (by simp), h6.ext hx (by simp), h7.ext hx (by simp), h8, h9⟩, h.ai64⟩
theorem un_set2 (S : Nat → List Ln) (ro ai b : Nat) (g : Bool) : (tlbC S ++ uT ro ai g).set 133 (.int .u64 b) = tlbC S ++ uT ro b g := by
  rw [List.set_append, if_neg (by rw [tlb_length]; omega), tlb_length]
  rfl
theorem un_set3 (S : Nat → List Ln) (ro ai : Nat) (g h : Bool) : (tlbC S ++ uT ro ai g).set 134 (.bool h) = tlbC S ++ uT ro ai h := by
  rw [List.set_append, if_neg (by rw [tlb_length]; omega), tlb_length]
  rfl
/-- the document's lines alone are others. -/
theorem In12.lines {w w' : World} {r q b4 b5 b6 : Nat} {D : List Dn} {G G' : Nat → List Rn} {m : Nat → Int} {ai : Nat} {g : Bool} {c : Nat} {vl ve v' : Value} (h : In12 w r q b4 b5 b6 D G m ai g c) (hok : Ok12 D G') (hu : w.heap[b6]? = some (.cells (ruC vl ve 0 ai g).toArray 89 (0, 0))) (hve : RowsAt w ve 13 (D.map deC)) (hveb : ∀ b, blockOf ve = some b → b ∉ [q, b4, b5, b6])
    (h5 : At w' b5 (lnS D G') (uT 0 ai g)) (hl : RowsAt w' v' 3 ((upt G' 4).map rfC)) (hlb : ∀ b, blockOf v' = some b → b ∉ [q, b4, b5, b6]) (h6 : w'.heap[b6]? = some (.cells (ruC v' ve 0 ai g).toArray 89 (0, 0))) (hx : Ext [b5, b6] w w') (hd : r < b4 ∧ q < b4 ∧ b4 < b5 ∧ b5 < b6) : In12 w' r q b4 b5 b6 D G' m ai g c := by
  obtain ⟨g0, hm⟩ := h.mem
  obtain ⟨L, P, xa, xb, base, g1, g2, g3, g4⟩ := h.doc
  refine ⟨hok, h5, ⟨g0, hm.ext hx (by simp; omega) (by simp; omega)⟩, ⟨L, P, xa, xb, base, hx.at g1 (by simp; omega), g2.ext' hx (fun h0 b hb => by have := g4 h0 b hb; simp at this ⊢; omega), g3, g4⟩, ⟨v', ve, h6, hl, hve.at hx (fun b hb => by have := hveb b hb; simp at this ⊢; omega), hlb, hveb⟩, h.ai64⟩
set_option maxHeartbeats 16000000 in
theorem reg3_12 {w : World} {r q b4 b5 b6 b8 ai cc : Nat} {t0 : Value} {c : A12} {D : List Dn} {G : Nat → List Rn} {m : Nat → Int} {g : Bool} {K : Value → World → Prop} {J3 : List Value → World → Prop} (hact : w.heap[b8]? = some (.cells (a12C c).toArray 91 (0, 0))) (hI : In12 w r q b4 b5 b6 D G m ai g cc) (hd : r < b4 ∧ q < b4 ∧ b4 < b5 ∧ b5 < b6 ∧ b6 < b8)
    (hD : D.length ≤ 100) (hcc : cc ≤ 10000) (hva : c.va < 18446744073709551616) (he : c.e < 18446744073709551616)
    (hrest : ∀ D' G' m' ai' g' cc' w', In12 w' r q b4 b5 b6 D' G' m' ai' g' cc' → D'.length ≤ D.length + 1 → cc' ≤ cc + 8 → Ext [q, b4, b5, b6] w w' → J3 [] w') :
    (fun v4 v5 v6 v8 v27 => (kV Try.prog (Instr.fieldAt 91 v8 0) w fun v43 w =>
  kV Try.prog (Instr.loadAt 3 v43) w fun v44 w =>
  kV Try.prog (binV .eql 3 (.tmp 44) (.const (.int .i64 0)) v44 (.int .i64 0)) w fun v46 w =>
  condK v46
  (kV Try.prog (Instr.fieldAt 91 v8 3) w fun v49 w =>
  kV Try.prog (Instr.loadAt 23 v49) w fun v50 w =>
  kV Try.prog (Instr.fieldAt 91 v8 1) w fun v51 w =>
  kV Try.prog (Instr.loadAt 3 v51) w fun v52 w =>
  kV Try.prog (Instr.fieldAt 91 v8 4) w fun v53 w =>
  kV Try.prog (Instr.loadAt 4 v53) w fun v54 w =>
  kN Try.prog (callN (.func (.func 28) #[] #[]) #[v5, v27, v50, v52, v54]) w fun v55 w =>
  kV Try.prog (Instr.extract v55 0) w fun v56 w =>
  kV Try.prog (Instr.extract v55 1) w fun v57 w =>
  kV Try.prog (Instr.alloc 76 true (.tuple #[])) w fun v9 w =>
  kU Try.prog (Instr.storeAt 76 v9 v56) w fun _ w =>
  kV Try.prog (Instr.loadAt 89 v6) w fun v59 w =>
  kV Try.prog (Instr.loadAt 28 v4) w fun v60 w =>
  kV Try.prog (Instr.fieldAt 91 v8 3) w fun v61 w =>
  kV Try.prog (Instr.loadAt 23 v61) w fun v62 w =>
  kV Try.prog (Instr.fieldAt 91 v8 1) w fun v63 w =>
  kV Try.prog (Instr.loadAt 3 v63) w fun v64 w =>
  kV Try.prog (Instr.fieldAt 91 v8 4) w fun v65 w =>
  kV Try.prog (Instr.loadAt 4 v65) w fun v66 w =>
  kN Try.prog (callN (.func (.func 32) #[] #[]) #[v59, v60, v62, v64, v66]) w fun v67 w =>
  kV Try.prog (Instr.extract v67 0) w fun v68 w =>
  kV Try.prog (Instr.extract v67 1) w fun v69 w =>
  kV Try.prog (Instr.extract v67 2) w fun v70 w =>
  kV Try.prog (Instr.extract v67 3) w fun v71 w =>
  kV Try.prog (Instr.alloc 89 true (.tuple #[])) w fun v11 w =>
  kV Try.prog (Instr.alloc 28 true (.tuple #[])) w fun v12 w =>
  kV Try.prog (Instr.alloc 92 true (.tuple #[])) w fun v13 w =>
  kU Try.prog (Instr.storeAt 89 v11 v68) w fun _ w =>
  kU Try.prog (Instr.storeAt 28 v12 v69) w fun _ w =>
  kU Try.prog (Instr.storeAt 92 v13 v70) w fun _ w =>
  kV Try.prog (Instr.loadAt 76 v9) w fun v72 w =>
  kV Try.prog (Instr.loadAt 92 v13) w fun v73 w =>
  kV Try.prog (binV .neq 92 (.tmp 72) (.tmp 73) v72 v73) w fun v74 w =>
  joinK (fun J7 : Value → World → Prop => gdK (yb v74) false (fun k => k v57 w) w fun v76 w =>
  gdK (yb v74) false (fun k => k v71 w) w fun v77 w =>
  gdK (yb v74) false (fun k => kV Try.prog (binV .neq 3 (.tmp 76) (.tmp 77) v76 v77) w k) w fun v78 w =>
  kN Try.prog (pickN v74 (.bool true) v78) w fun v79_1 w =>
  J7 v79_1 w) fun v79 w =>
  condK v79
  (K (.bool false) w)
  (drewK (fun w =>
  (kV Try.prog (Instr.loadAt 89 v11) w fun v80 w =>
  (kV Try.prog (Instr.loadAt 28 v12) w fun v81 w =>
  kU Try.prog (Instr.storeAt 89 v6 v80) w fun _ w =>
  kU Try.prog (Instr.storeAt 28 v4 v81) w fun _ w =>
  J3 [] w) ∧
  (kU Try.prog (Instr.storeAt 89 v6 v80) w fun _ w =>
  kV Try.prog (Instr.loadAt 28 v12) w fun v81_1 w =>
  kU Try.prog (Instr.storeAt 28 v4 v81_1) w fun _ w =>
  J3 [] w)) ∧
  (kV Try.prog (Instr.loadAt 28 v12) w fun v81_2 w =>
  kV Try.prog (Instr.loadAt 89 v11) w fun v80_1 w =>
  kU Try.prog (Instr.storeAt 89 v6 v80_1) w fun _ w =>
  kU Try.prog (Instr.storeAt 28 v4 v81_2) w fun _ w =>
  J3 [] w)) w))
  (kV Try.prog (binV .eql 3 (.tmp 44) (.const (.int .i64 1)) v44 (.int .i64 1)) w fun v83 w =>
  condK v83
  (kV Try.prog (Instr.fieldAt 91 v8 3) w fun v86 w =>
  kV Try.prog (Instr.loadAt 23 v86) w fun v87 w =>
  kV Try.prog (Instr.fieldAt 91 v8 1) w fun v88 w =>
  kV Try.prog (Instr.loadAt 3 v88) w fun v89 w =>
  kV Try.prog (Instr.fieldAt 91 v8 4) w fun v90 w =>
  kV Try.prog (Instr.loadAt 4 v90) w fun v91 w =>
  kN Try.prog (callN (.func (.func 33) #[] #[]) #[v5, v27, v87, v89, v91]) w fun v92 w =>
  kV Try.prog (Instr.extract v92 0) w fun v93 w =>
  kV Try.prog (Instr.extract v92 1) w fun v94 w =>
  kV Try.prog (Instr.alloc 76 true (.tuple #[])) w fun v15 w =>
  kU Try.prog (Instr.storeAt 76 v15 v93) w fun _ w =>
  kV Try.prog (Instr.loadAt 89 v6) w fun v96 w =>
  kV Try.prog (Instr.loadAt 28 v4) w fun v97 w =>
  kV Try.prog (Instr.fieldAt 91 v8 3) w fun v98 w =>
  kV Try.prog (Instr.loadAt 23 v98) w fun v99 w =>
  kV Try.prog (Instr.fieldAt 91 v8 1) w fun v100 w =>
  kV Try.prog (Instr.loadAt 3 v100) w fun v101 w =>
  kV Try.prog (Instr.fieldAt 91 v8 4) w fun v102 w =>
  kV Try.prog (Instr.loadAt 4 v102) w fun v103 w =>
  kN Try.prog (callN (.func (.func 34) #[] #[]) #[v96, v97, v99, v101, v103]) w fun v104 w =>
  kV Try.prog (Instr.extract v104 0) w fun v105 w =>
  kV Try.prog (Instr.extract v104 1) w fun v106 w =>
  kV Try.prog (Instr.alloc 92 true (.tuple #[])) w fun v17 w =>
  kU Try.prog (Instr.storeAt 92 v17 v105) w fun _ w =>
  kV Try.prog (Instr.loadAt 76 v15) w fun v107 w =>
  kV Try.prog (Instr.loadAt 92 v17) w fun v108 w =>
  kV Try.prog (binV .neq 92 (.tmp 107) (.tmp 108) v107 v108) w fun v109 w =>
  joinK (fun J8 : Value → World → Prop => gdK (yb v109) false (fun k => k v94 w) w fun v111 w =>
  gdK (yb v109) false (fun k => k v106 w) w fun v112 w =>
  gdK (yb v109) false (fun k => kV Try.prog (binV .neq 3 (.tmp 111) (.tmp 112) v111 v112) w k) w fun v113 w =>
  kN Try.prog (pickN v109 (.bool true) v113) w fun v114_1 w =>
  J8 v114_1 w) fun v114 w =>
  condK v114
  (K (.bool false) w)
  (J3 [] w))
  (kV Try.prog (binV .eql 3 (.tmp 44) (.const (.int .i64 2)) v44 (.int .i64 2)) w fun v116 w =>
  condK v116
  (kV Try.prog (Instr.fieldAt 91 v8 2) w fun v117 w =>
  kV Try.prog (Instr.loadAt 3 v117) w fun v118 w =>
  kV Try.prog (binV .and 3 (.tmp 118) (.const (.int .i64 15)) v118 (.int .i64 15)) w fun v119 w =>
  kV Try.prog (convert 3 23 v119) w fun v120 w =>
  kV Try.prog (binV .mul 23 (.const (.int .u64 8)) (.tmp 120) (.int .u64 8) v120) w fun v121 w =>
  kV Try.prog (binV .add 23 (.const (.int .u64 8192)) (.tmp 121) (.int .u64 8192) v121) w fun v122 w =>
  kV Try.prog (Instr.fieldAt 91 v8 5) w fun v125 w =>
  kV Try.prog (Instr.loadAt 32 v125) w fun v126 w =>
  kN Try.prog (callN (.func (.func 16) #[] #[]) #[v126]) w fun v127 w =>
  kN Try.prog (callN (.func (.func 15) #[] #[]) #[v27, v122, (.int .i64 8), v127]) w fun v128 w =>
  drewK (fun w =>
  pV Try.prog (Instr.fieldAt 91 v8 5) fun v132 =>
  (kV Try.prog (Instr.loadAt 28 v4) w fun v130 w =>
  kV Try.prog (Instr.loadAt 32 v132) w fun v133 w =>
  kN Try.prog (callN (.func (.func 36) #[] #[]) #[v133]) w fun v134 w =>
  kN Try.prog (callN (.func (.func 35) #[] #[]) #[v130, v122, (.int .i64 8), v134]) w fun v135 w =>
  pV Try.prog (Instr.extract v135 0) fun v136 =>
  pV Try.prog (Instr.extract v135 1) fun v137 =>
  kU Try.prog (Instr.storeAt 28 v4 v136) w fun _ w =>
  J3 [] w) ∧
  (kV Try.prog (Instr.loadAt 32 v132) w fun v133_1 w =>
  (kV Try.prog (Instr.loadAt 28 v4) w fun v130_1 w =>
  kN Try.prog (callN (.func (.func 36) #[] #[]) #[v133_1]) w fun v134_1 w =>
  kN Try.prog (callN (.func (.func 35) #[] #[]) #[v130_1, v122, (.int .i64 8), v134_1]) w fun v135_1 w =>
  pV Try.prog (Instr.extract v135_1 0) fun v136_1 =>
  pV Try.prog (Instr.extract v135_1 1) fun v137_1 =>
  kU Try.prog (Instr.storeAt 28 v4 v136_1) w fun _ w =>
  J3 [] w) ∧
  (kN Try.prog (callN (.func (.func 36) #[] #[]) #[v133_1]) w fun v134_2 w =>
  kV Try.prog (Instr.loadAt 28 v4) w fun v130_2 w =>
  kN Try.prog (callN (.func (.func 35) #[] #[]) #[v130_2, v122, (.int .i64 8), v134_2]) w fun v135_2 w =>
  pV Try.prog (Instr.extract v135_2 0) fun v136_2 =>
  pV Try.prog (Instr.extract v135_2 1) fun v137_2 =>
  kU Try.prog (Instr.storeAt 28 v4 v136_2) w fun _ w =>
  J3 [] w))) w)
  (kV Try.prog (binV .eql 3 (.tmp 44) (.const (.int .i64 3)) v44 (.int .i64 3)) w fun v139 w =>
  condK v139
  (kV Try.prog (Instr.fieldAt 74 v5 0) w fun v140 w =>
  kV Try.prog (Instr.fieldAt 74 v5 2) w fun v141 w =>
  kV Try.prog (Instr.loadAt 23 v141) w fun v142 w =>
  kV Try.prog (Instr.fieldAt 91 v8 3) w fun v143 w =>
  kV Try.prog (Instr.loadAt 23 v143) w fun v144 w =>
  kV Try.prog (binV .quo 23 (.tmp 144) (.const (.int .u64 4096)) v144 (.int .u64 4096)) w fun v145 w =>
  kN Try.prog (callN (.func (.func 37) #[] #[]) #[v140, v142, v145]) w fun v146 w =>
  kV Try.prog (Instr.fieldAt 89 v6 0) w fun v147 w =>
  kV Try.prog (Instr.loadAt 86 v147) w fun v148 w =>
  kV Try.prog (Instr.fieldAt 89 v6 3) w fun v149 w =>
  kV Try.prog (Instr.loadAt 23 v149) w fun v150 w =>
  kV Try.prog (Instr.fieldAt 91 v8 3) w fun v151 w =>
  kV Try.prog (Instr.loadAt 23 v151) w fun v152 w =>
  kV Try.prog (binV .quo 23 (.tmp 152) (.const (.int .u64 4096)) v152 (.int .u64 4096)) w fun v153 w =>
  kN Try.prog (callN (.func (.func 38) #[] #[]) #[v148, v150, v153]) w fun v154 w =>
  kV Try.prog (Instr.fieldAt 89 v6 0) w fun v155 w =>
  kU Try.prog (Instr.storeAt 86 v155 v154) w fun _ w =>
  J3 [] w)
  (kV Try.prog (binV .eql 3 (.tmp 44) (.const (.int .i64 4)) v44 (.int .i64 4)) w fun v157 w =>
  condK v157
  (kV Try.prog (Instr.fieldAt 74 v5 0) w fun v158 w =>
  kV Try.prog (Instr.fieldAt 91 v8 2) w fun v159 w =>
  kV Try.prog (Instr.loadAt 3 v159) w fun v160 w =>
  kV Try.prog (convert 3 23 v160) w fun v161 w =>
  kN Try.prog (callN (.func (.func 31) #[] #[]) #[v158, v161]) w fun v162 w =>
  kV Try.prog (Instr.fieldAt 89 v6 0) w fun v163 w =>
  kV Try.prog (Instr.loadAt 86 v163) w fun v164 w =>
  kV Try.prog (Instr.fieldAt 91 v8 2) w fun v165 w =>
  kV Try.prog (Instr.loadAt 3 v165) w fun v166 w =>
  kV Try.prog (convert 3 23 v166) w fun v167 w =>
  kN Try.prog (callN (.func (.func 39) #[] #[]) #[v164, v167]) w fun v168 w =>
  kV Try.prog (Instr.fieldAt 89 v6 0) w fun v169 w =>
  kU Try.prog (Instr.storeAt 86 v169 v168) w fun _ w =>
  J3 [] w)
  (kV Try.prog (binV .eql 3 (.tmp 44) (.const (.int .i64 5)) v44 (.int .i64 5)) w fun v171 w =>
  condK v171
  (kV Try.prog (Instr.fieldAt 74 v5 0) w fun v172 w =>
  kN Try.prog (callN (.func (.func 40) #[] #[]) #[v172]) w fun v173 w =>
  kV Try.prog (Instr.fieldAt 89 v6 0) w fun v174 w =>
  kU Try.prog (Instr.storeAt 86 v174 (.slice none 0 0)) w fun _ w =>
  J3 [] w)
  (kV Try.prog (binV .eql 3 (.tmp 44) (.const (.int .i64 6)) v44 (.int .i64 6)) w fun v176 w =>
  condK v176
  (kV Try.prog (Instr.fieldAt 74 v5 0) w fun v177 w =>
  kV Try.prog (Instr.fieldAt 91 v8 2) w fun v178 w =>
  kV Try.prog (Instr.loadAt 3 v178) w fun v179 w =>
  kN Try.prog (callN (.func (.func 41) #[] #[]) #[v177, v179]) w fun v180 w =>
  kV Try.prog (Instr.fieldAt 89 v6 0) w fun v181 w =>
  kV Try.prog (Instr.loadAt 86 v181) w fun v182 w =>
  kV Try.prog (Instr.fieldAt 91 v8 2) w fun v183 w =>
  kV Try.prog (Instr.loadAt 3 v183) w fun v184 w =>
  kN Try.prog (callN (.func (.func 42) #[] #[]) #[v182, v184]) w fun v185 w =>
  kV Try.prog (Instr.fieldAt 89 v6 0) w fun v186 w =>
  kU Try.prog (Instr.storeAt 86 v186 v185) w fun _ w =>
  J3 [] w)
  (kV Try.prog (binV .eql 3 (.tmp 44) (.const (.int .i64 7)) v44 (.int .i64 7)) w fun v188 w =>
  condK v188
  (drewK (fun w =>
  pV Try.prog (Instr.fieldAt 74 v5 3) fun v189 =>
  pV Try.prog (Instr.fieldAt 89 v6 4) fun v192 =>
  (kV Try.prog (Instr.loadAt 4 v189) w fun v190 w =>
  pV Try.prog (Op.unary .not v190) fun v191 =>
  pV Try.prog (Instr.fieldAt 74 v5 3) fun v195 =>
  (kV Try.prog (Instr.loadAt 4 v192) w fun v193 w =>
  pV Try.prog (Op.unary .not v193) fun v194 =>
  kU Try.prog (Instr.storeAt 4 v195 v191) w fun _ w =>
  pV Try.prog (Instr.fieldAt 89 v6 4) fun v196 =>
  kU Try.prog (Instr.storeAt 4 v196 v194) w fun _ w =>
  J3 [] w) ∧
  (kU Try.prog (Instr.storeAt 4 v195 v191) w fun _ w =>
  kV Try.prog (Instr.loadAt 4 v192) w fun v193_1 w =>
  pV Try.prog (Op.unary .not v193_1) fun v194_1 =>
  pV Try.prog (Instr.fieldAt 89 v6 4) fun v196_1 =>
  kU Try.prog (Instr.storeAt 4 v196_1 v194_1) w fun _ w =>
  J3 [] w)) ∧
  (kV Try.prog (Instr.loadAt 4 v192) w fun v193_2 w =>
  pV Try.prog (Op.unary .not v193_2) fun v194_2 =>
  kV Try.prog (Instr.loadAt 4 v189) w fun v190_1 w =>
  pV Try.prog (Op.unary .not v190_1) fun v191_1 =>
  pV Try.prog (Instr.fieldAt 74 v5 3) fun v195_1 =>
  kU Try.prog (Instr.storeAt 4 v195_1 v191_1) w fun _ w =>
  pV Try.prog (Instr.fieldAt 89 v6 4) fun v196_2 =>
  kU Try.prog (Instr.storeAt 4 v196_2 v194_2) w fun _ w =>
  J3 [] w)) w)
  (kV Try.prog (binV .eql 3 (.tmp 44) (.const (.int .i64 8)) v44 (.int .i64 8)) w fun v198 w =>
  condK v198
  (drewK (fun w =>
  pV Try.prog (Instr.fieldAt 91 v8 2) fun v199 =>
  pV Try.prog (Instr.fieldAt 91 v8 2) fun v203 =>
  (kV Try.prog (Instr.loadAt 3 v199) w fun v200 w =>
  pV Try.prog (binV .and 3 (.tmp 200) (.const (.int .i64 1)) v200 (.int .i64 1)) fun v201 =>
  pV Try.prog (convert 3 23 v201) fun v202 =>
  pV Try.prog (Instr.fieldAt 74 v5 2) fun v207 =>
  (kV Try.prog (Instr.loadAt 3 v203) w fun v204 w =>
  pV Try.prog (binV .and 3 (.tmp 204) (.const (.int .i64 1)) v204 (.int .i64 1)) fun v205 =>
  pV Try.prog (convert 3 23 v205) fun v206 =>
  kU Try.prog (Instr.storeAt 23 v207 v202) w fun _ w =>
  pV Try.prog (Instr.fieldAt 89 v6 3) fun v208 =>
  kU Try.prog (Instr.storeAt 23 v208 v206) w fun _ w =>
  J3 [] w) ∧
  (kU Try.prog (Instr.storeAt 23 v207 v202) w fun _ w =>
  kV Try.prog (Instr.loadAt 3 v203) w fun v204_1 w =>
  pV Try.prog (binV .and 3 (.tmp 204) (.const (.int .i64 1)) v204_1 (.int .i64 1)) fun v205_1 =>
  pV Try.prog (convert 3 23 v205_1) fun v206_1 =>
  pV Try.prog (Instr.fieldAt 89 v6 3) fun v208_1 =>
  kU Try.prog (Instr.storeAt 23 v208_1 v206_1) w fun _ w =>
  J3 [] w)) ∧
  (kV Try.prog (Instr.loadAt 3 v203) w fun v204_2 w =>
  pV Try.prog (binV .and 3 (.tmp 204) (.const (.int .i64 1)) v204_2 (.int .i64 1)) fun v205_2 =>
  pV Try.prog (convert 3 23 v205_2) fun v206_2 =>
  kV Try.prog (Instr.loadAt 3 v199) w fun v200_1 w =>
  pV Try.prog (binV .and 3 (.tmp 200) (.const (.int .i64 1)) v200_1 (.int .i64 1)) fun v201_1 =>
  pV Try.prog (convert 3 23 v201_1) fun v202_1 =>
  pV Try.prog (Instr.fieldAt 74 v5 2) fun v207_1 =>
  kU Try.prog (Instr.storeAt 23 v207_1 v202_1) w fun _ w =>
  pV Try.prog (Instr.fieldAt 89 v6 3) fun v208_2 =>
  kU Try.prog (Instr.storeAt 23 v208_2 v206_2) w fun _ w =>
  J3 [] w)) w)
  (J3 [] w))))))))))) (.pointer (some ⟨b4, 0, none⟩)) (.pointer (some ⟨b5, 0, none⟩)) (.pointer (some ⟨b6, 0, none⟩)) (.pointer (some ⟨b8, 0, none⟩)) (.pointer (some ⟨r, 0, none⟩)) := by
  simp only []
  obtain ⟨g0, hm⟩ := id hI.mem
  obtain ⟨L, P, xa, xb, base, hL, hr, hbase, hxT⟩ := id hI.doc
  obtain ⟨vl, ve, hU, hvl, hve, hvlb, hveb⟩ := id hI.unit
  have hS := hI.at5
  have l8 := lt_of_at hact
  obtain ⟨hlenL, hallL, hsubL⟩ := hr.cells
  have hua := ruC_all hvl hve 0 ai g
  have hple : (upt G 4).length ≤ 8 := upt_le hI.ok.good.two 4
  have hsame : ∀ w', Ext [] w w' → J3 [] w' := fun w' hx => hrest D G m ai g cc w' (hI.ext hx) (by omega) (by omega) (hx.mono (by simp))
  have hblk : ∀ (w' : World) (v : Value) (n : Nat), b8 < n → (∀ b, blockOf v = some b → n ≤ b) → ∀ b, blockOf v = some b → b ∉ [q, b4, b5, b6] := fun w' v n h1 h2 b hb => by have := h2 b hb; simp; omega
  by_cases h0 : c.kind = 0
  · simp (disch := first | assumption | omega | (simp only [szR, entC_len, entC_all, un_len, plC_len, plC_all, ruC_len, a12_len, a12_all] <;> omega) | rfl | decide) only [gen0, gen1, gen2, rulesM, rulesU, litR, bolR, Nat.reduceAdd, Nat.reduceLeDiff, numR, memR, valR, heapR, updR, intR, decR, extR, slR, segR, thenR, pnR, Int.reduceToNat, Int.reduceAdd, Int.reduceSub, Int.reduceLT, Int.reduceLE, Nat.reduceSub, Nat.reduceMul, Nat.reduceEqDiff, hact, a12_at]
    refine TransU hI.ok hS hm (by omega) (by omega) hva fun w1 g1 hS1 hm1 hx1 => ?_
    obtain ⟨hok', hlen'⟩ := out12_ok (m := m) (ai := ai) (k := c.what) (t := c.tag) (g := g) hI.ok hva
    have hact := hx1.at hact (by simp; omega)
    have hL := hx1.at hL (by simp; omega)
    have hU := hx1.at hU (by simp; omega)
    have hs1 := hx1.size
    have hr1 := hr.ext' hx1 (fun h0 b hb => by have := hxT h0 b hb; simp at this ⊢; omega)
    have hvl1 := hvl.at hx1 (fun b hb => by have := hvlb b hb; simp at this ⊢; omega)
    have hve1 := hve.at hx1 (fun b hb => by have := hveb b hb; simp at this ⊢; omega)
    simp (disch := first | assumption | omega | (simp only [szR, entC_len, entC_all, un_len, plC_len, plC_all, ruC_len, a12_len, a12_all] <;> omega) | rfl | decide) only [gen0, gen1, gen2, rulesM, rulesU, litR, bolR, Nat.reduceAdd, Nat.reduceLeDiff, numR, memR, valR, heapR, updR, intR, decR, extR, slR, segR, thenR, pnR, Int.reduceToNat, Int.reduceAdd, Int.reduceSub, Int.reduceLT, Int.reduceLE, Nat.reduceSub, Nat.reduceMul, Nat.reduceEqDiff, hact, a12_at, plC_over, plC_len, plC_all, hU, hL, ruC_sub, ruC_len, hsubL, hlenL]
    refine TransR (T := [q, b4, b5, b6]) hI.ok (hr1.ext (S := []) (by (repeat first | assumption | exact Ext.refl | apply Ext.alloc | apply Ext.drew | (refine Ext.updN ?_ ?_; (focus first | omega | (simp only [szR] <;> omega))) | (refine Ext.updI ?_ ?_; (focus (simp; done))))) (by simp)) (by simp only [szR]; omega) hm.byte hcc (hvl1.ext (S := []) (by (repeat first | assumption | exact Ext.refl | apply Ext.alloc | apply Ext.drew | (refine Ext.updN ?_ ?_; (focus first | omega | (simp only [szR] <;> omega))) | (refine Ext.updI ?_ ?_; (focus (simp; done))))) (by simp)) (hve1.ext (S := []) (by (repeat first | assumption | exact Ext.refl | apply Ext.alloc | apply Ext.drew | (refine Ext.updN ?_ ?_; (focus first | omega | (simp only [szR] <;> omega))) | (refine Ext.updI ?_ ?_; (focus (simp; done))))) (by simp)) hD (by simp only [szR]; intro k hk; simp at hk; omega) hxT hI.ai64 hva fun vl' ve' L' c' P' xa' xb' w2 hvl' hlb' hve' heb' hr' hxT' hc' hx2 => ?_
    have hk2 := kept0 hx2
    have hs2 := hx2.size
    simp only [szR] at hs2 hlb' heb'
    have hx12 : Ext [] w1 w2 := Ext.trans (S := []) (by (repeat first | assumption | exact Ext.refl | apply Ext.alloc | apply Ext.drew | (refine Ext.updN ?_ ?_; (focus first | omega | (simp only [szR] <;> omega))) | (refine Ext.updI ?_ ?_; (focus (simp; done))))) hx2 (by simp)
    have hxw2 : Ext [b5, q] w w2 := hx1.trans hx12 (by simp)
    have hL2 := hx12.at hL (by simp)
    have hU2 := hx12.at hU (by simp)
    have hact2 := hx12.at hact (by simp)
    have hS2 := hS1.ext hx12 (by simp)
    have hm2 := hm1.ext hx12 (by simp) (by simp)
    have d9 : w2.heap[w1.heap.size]? = some (.cells (plC (out12 D G m ai c.va c.what c.tag g).a (out12 D G m ai c.va c.what c.tag g).s).toArray 76 (0, 0)) := (by first | with_reducible rfl | assumption | (simp (disch := first | assumption | omega | (simp only [szR, entC_len, entC_all, un_len, plC_len, plC_all, ruC_len, a12_len, a12_all] <;> omega) | rfl | decide) only [gen0, gen1, gen2, rulesM, rulesU, litR, bolR, Nat.reduceAdd, Nat.reduceLeDiff, numR, memR, valR, heapR, updR, intR, decR, extR, slR, segR, thenR, pnR, Int.reduceToNat, Int.reduceAdd, Int.reduceSub, Int.reduceLT, Int.reduceLE, Nat.reduceSub, Nat.reduceMul, Nat.reduceEqDiff, hk2, plC_over] <;> rfl))
    obtain ⟨hlenL', hallL', hsubL'⟩ := hr'.cells
    have hua' := ruC_all hvl' hve' 0 ai g
    have hsp := splice_all (l := L) (vs := L') (by omega)
    have hdr := drop_all (l := L) (vs := L') (by omega)
    have hd4' := dropL4 hlenL'
    have hs4' := spliceL4 hlenL'
    have hdone : ∀ W, W.heap[b6]? = some (.cells (ruC vl' ve' 0 ai g).toArray 89 (0, 0)) → W.heap[b4]? = some (.cells L'.toArray 28 (0, 0)) → Ext [b4, b6] w2 W → J3 [] W := by
      intro W e6 e4 ex
      have hvb' : ∀ b, blockOf vl' = some b → b ∉ [q, b4, b5, b6] := by
        rcases hlb' with rfl | h
        · exact hvlb
        · exact hblk w2 _ _ (by omega) h
      have heb2 : ∀ b, blockOf ve' = some b → b ∉ [q, b4, b5, b6] := by
        rcases heb' with rfl | h
        · exact hveb
        · exact hblk w2 _ _ (by omega) h
      refine hrest _ _ _ ai g c' W ⟨hok', hS2.ext ex (by simp; omega), ⟨g1, hm2.ext ex (by simp; omega) (by simp; omega)⟩, ⟨L', P', xa', xb', base, e4, hr'.ext' ex (fun h0 b hb => by have := hxT' h0 b hb; simp at this ⊢; omega), hbase, hxT'⟩, ⟨vl', ve', e6, hvl'.at ex (fun b hb => by have := hvb' b hb; simp at this ⊢; omega), hve'.at ex (fun b hb => by have := heb2 b hb; simp at this ⊢; omega), hvb', heb2⟩, hI.ai64⟩ hlen' hc' ((hxw2.mono (by simp)).trans ex (by simp))
    have hdr4 : L' ++ List.drop 4 L = L' := by rw [List.drop_eq_nil_of_le (by omega), List.append_nil]
    have hdone2 : ∀ W0, Ext [] w2 W0 → J3 [] (World.upd (World.upd W0 b6 (ruC vl' ve' 0 ai g)) b4 L') := by
      intro W0 hx0
      refine hdone _ ((upd_ne (by omega)).trans (upd_at (hx0.at hU2 (by simp)))) (upd_at ((upd_ne (by omega)).trans (hx0.at hL2 (by simp)))) (Ext.updI (by simp) (Ext.updI (by simp) (hx0.mono (by simp))))
    clear hdone hrest hsame hvl' hve' hr' hxT' hlb' heb' hr1 hvl1 hve1 hxT hvlb hveb hr hvl hve hI hblk hok' hlen'
    generalize out12 D G m ai c.va c.what c.tag g = o at *
    simp (disch := first | assumption | omega | (simp only [szR, entC_len, entC_all, un_len, plC_len, plC_all, ruC_len, a12_len, a12_all] <;> omega) | rfl | decide) only [gen0, gen1, gen2, rulesM, rulesU, litR, bolR, Nat.reduceAdd, Nat.reduceLeDiff, numR, memR, valR, heapR, updR, intR, decR, extR, slR, segR, thenR, pnR, Int.reduceToNat, Int.reduceAdd, Int.reduceSub, Int.reduceLT, Int.reduceLE, Nat.reduceSub, Nat.reduceMul, Nat.reduceEqDiff, joinBR, d9, plC_sub, plC_over, plC_len, plC_all, neqP92, ruC_zero, ruC_over, ruC_drop, ruC_len, ruC_sub, hua', hlenL', hallL', hsubL', hd4', hs4', hdr4, hU2, hL2]
    repeat' (with_reducible apply And.intro)
    all_goals exact hdone2 _ (by (repeat first | assumption | exact Ext.refl | apply Ext.alloc | apply Ext.drew | (refine Ext.updN ?_ ?_; (focus first | omega | (simp only [szR] <;> omega))) | (refine Ext.updI ?_ ?_; (focus (simp; done)))))
  have hkeep : ∀ (w1 : World) (S : List Nat), Ext S w w1 → (∀ k ∈ S, k = b5 ∨ k = q) → w1.heap[b8]? = some (.cells (a12C c).toArray 91 (0, 0)) ∧ w1.heap[b4]? = some (.cells L.toArray 28 (0, 0)) ∧ w1.heap[b6]? = some (.cells (ruC vl ve 0 ai g).toArray 89 (0, 0)) ∧ RMem w1 base L 8 m cc P xa xb ∧ RowsAt w1 vl 3 ((upt G 4).map rfC) ∧ RowsAt w1 ve 13 (D.map deC) := by
    intro w1 S hx hs
    refine ⟨hx.at hact fun h => by have := hs _ h; omega, hx.at hL fun h => by have := hs _ h; omega, hx.at hU fun h => by have := hs _ h; omega, hr.ext' hx fun h0 b hb h => ?_, hvl.at hx fun b hb h => ?_, hve.at hx fun b hb h => ?_⟩
    · have h1 := hxT h0 b hb
      have h2 := hs _ h
      simp at h1
      omega
    · have h1 := hvlb b hb
      have h2 := hs _ h
      simp at h1
      omega
    · have h1 := hveb b hb
      have h2 := hs _ h
      simp at h1
      omega
  by_cases h1 : c.kind = 1
  · obtain ⟨pa, ps, pb, hp⟩ := pnR_form (walkA (fun a => leN m a 8) 8 0 c.va) c.what c.tag g c.va
    clear hrest
    simp (disch := first | assumption | omega | (simp only [szR, entC_len, entC_all, un_len, plC_len, plC_all, ruC_len, a12_len, a12_all] <;> omega) | rfl | decide) only [gen0, gen1, gen2, rulesM, rulesU, litR, bolR, Nat.reduceAdd, Nat.reduceLeDiff, numR, memR, valR, heapR, updR, intR, decR, extR, slR, segR, thenR, pnR, Int.reduceToNat, Int.reduceAdd, Int.reduceSub, Int.reduceLT, Int.reduceLE, Nat.reduceSub, Nat.reduceMul, Nat.reduceEqDiff, hact, a12_at]
    refine Plain_spec hS hm (by omega) hva fun w1 hx1 => ?_
    obtain ⟨e1, e2, e3, e4, e5, e6⟩ := hkeep w1 [] hx1 (by simp)
    have hs1 := hx1.size
    rw [hp]
    simp (disch := first | assumption | omega | (simp only [szR, entC_len, entC_all, un_len, plC_len, plC_all, ruC_len, a12_len, a12_all] <;> omega) | rfl | decide) only [gen0, gen1, gen2, rulesM, rulesU, litR, bolR, Nat.reduceAdd, Nat.reduceLeDiff, numR, memR, valR, heapR, updR, intR, decR, extR, slR, segR, thenR, pnR, Int.reduceToNat, Int.reduceAdd, Int.reduceSub, Int.reduceLT, Int.reduceLE, Nat.reduceSub, Nat.reduceMul, Nat.reduceEqDiff, e1, a12_at, plC_over, plC_len, plC_all, e2, e3, ruC_sub, ruC_len, hsubL, hlenL]
    refine rPlain_spec (e4.ext (S := []) (by (repeat first | assumption | exact Ext.refl | apply Ext.alloc | apply Ext.drew | (refine Ext.updN ?_ ?_; (focus first | omega | (simp only [szR] <;> omega))) | (refine Ext.updI ?_ ?_; (focus (simp; done))))) (by simp)) hm.byte (by omega) (by omega) hva fun w2 hx2 => ?_
    rw [hp]
    have hk2 := kept0 hx2
    have hs2 := hx2.size
    simp only [szR] at hs2
    have hx12 : Ext [] w1 w2 := Ext.trans (S := []) (by (repeat first | assumption | exact Ext.refl | apply Ext.alloc | apply Ext.drew | (refine Ext.updN ?_ ?_; (focus first | omega | (simp only [szR] <;> omega))) | (refine Ext.updI ?_ ?_; (focus (simp; done))))) hx2 (by simp)
    have hxw2 := hx1.trans hx12 (by simp)
    have d15 : w2.heap[w1.heap.size]? = some (.cells (plC pa ps).toArray 76 (0, 0)) := (by first | with_reducible rfl | assumption | (simp (disch := first | assumption | omega | (simp only [szR, entC_len, entC_all, un_len, plC_len, plC_all, ruC_len, a12_len, a12_all] <;> omega) | rfl | decide) only [gen0, gen1, gen2, rulesM, rulesU, litR, bolR, Nat.reduceAdd, Nat.reduceLeDiff, numR, memR, valR, heapR, updR, intR, decR, extR, slR, segR, thenR, pnR, Int.reduceToNat, Int.reduceAdd, Int.reduceSub, Int.reduceLT, Int.reduceLE, Nat.reduceSub, Nat.reduceMul, Nat.reduceEqDiff, hk2, plC_over] <;> rfl))
    simp (disch := first | assumption | omega | (simp only [szR, entC_len, entC_all, un_len, plC_len, plC_all, ruC_len, a12_len, a12_all] <;> omega) | rfl | decide) only [gen0, gen1, gen2, rulesM, rulesU, litR, bolR, Nat.reduceAdd, Nat.reduceLeDiff, numR, memR, valR, heapR, updR, intR, decR, extR, slR, segR, thenR, pnR, Int.reduceToNat, Int.reduceAdd, Int.reduceSub, Int.reduceLT, Int.reduceLE, Nat.reduceSub, Nat.reduceMul, Nat.reduceEqDiff, joinBR, d15, plC_sub, plC_over, plC_len, plC_all, neqP92]
    exact hsame _ (by (repeat first | assumption | exact Ext.refl | apply Ext.alloc | apply Ext.drew | (refine Ext.updN ?_ ?_; (focus first | omega | (simp only [szR] <;> omega))) | (refine Ext.updI ?_ ?_; (focus (simp; done)))))
  by_cases h2 : c.kind = 2
  · have hmask : bitI .and .i64 c.n 15 = c.n % 16 := and_mask (k := .i64) (n := 4) (by decide)
    obtain ⟨p, hp, hp16⟩ : ∃ p : Nat, c.n % 16 = p ∧ p < 16 := ⟨(c.n % 16).toNat, by omega, by omega⟩
    rw [hp] at hmask
    have e8 : (8192 : Int) + 8 * (p : Int) = ((8192 + p * 8 : Nat) : Int) := by omega
    have hwl := wd_lt c.f c.e
    simp (disch := first | assumption | omega | (simp only [szR, entC_len, entC_all, un_len, plC_len, plC_all, ruC_len, a12_len, a12_all] <;> omega) | rfl | decide) only [gen0, gen1, gen2, rulesM, rulesU, litR, bolR, Nat.reduceAdd, Nat.reduceLeDiff, numR, memR, valR, heapR, updR, intR, decR, extR, slR, segR, thenR, pnR, Int.reduceToNat, Int.reduceAdd, Int.reduceSub, Int.reduceLT, Int.reduceLE, Nat.reduceSub, Nat.reduceMul, Nat.reduceEqDiff, hact, a12_at, a12_sub, hmask, e8]
    refine Word_spec he fun w1 hx1 => ?_
    simp (disch := first | assumption | omega | (simp only [szR, entC_len, entC_all, un_len, plC_len, plC_all, ruC_len, a12_len, a12_all] <;> omega) | rfl | decide) only [gen0, gen1, gen2, rulesM, rulesU, litR, bolR, Nat.reduceAdd, Nat.reduceLeDiff, numR, memR, valR, heapR, updR, intR, decR, extR, slR, segR, thenR, pnR, Int.reduceToNat, Int.reduceAdd, Int.reduceSub, Int.reduceLT, Int.reduceLE, Nat.reduceSub, Nat.reduceMul, Nat.reduceEqDiff]
    refine Store_spec (a := 8192 + p * 8) (v := (wd c.f c.e : Nat)) (hm.ext (S := []) (Ext.trans (S := []) (by (repeat first | assumption | exact Ext.refl | apply Ext.alloc | apply Ext.drew | (refine Ext.updN ?_ ?_; (focus first | omega | (simp only [szR] <;> omega))) | (refine Ext.updI ?_ ?_; (focus (simp; done))))) hx1 (by simp)) (by simp) (by simp)) (by omega) (by omega) (.inr (.inr (.inr rfl))) (by omega) ⟨by omega, by omega⟩ fun g3 w3 hm3 _ hx3 => ?_
    have hxw3 : Ext [q] w w3 := (Ext.trans (S := [q]) (by (repeat first | assumption | exact Ext.refl | apply Ext.alloc | apply Ext.drew | (refine Ext.updN ?_ ?_; (focus first | omega | (simp only [szR] <;> omega))) | (refine Ext.updI ?_ ?_; (focus (simp; done))))) hx1 (by simp)).trans hx3 (by simp)
    obtain ⟨e1, e2, e3, e4, e5, e6⟩ := hkeep w3 [q] hxw3 (by simp)
    have hs3 := hxw3.size
    clear hsame
    simp (disch := first | assumption | omega | (simp only [szR, entC_len, entC_all, un_len, plC_len, plC_all, ruC_len, a12_len, a12_all] <;> omega) | rfl | decide) only [gen0, gen1, gen2, rulesM, rulesU, litR, bolR, Nat.reduceAdd, Nat.reduceLeDiff, numR, memR, valR, heapR, updR, intR, decR, extR, slR, segR, thenR, pnR, Int.reduceToNat, Int.reduceAdd, Int.reduceSub, Int.reduceLT, Int.reduceLE, Nat.reduceSub, Nat.reduceMul, Nat.reduceEqDiff, e1, a12_at, a12_sub, hmask, e8, e2, hsubL, hlenL]
    repeat' (with_reducible apply And.intro)
    all_goals
      refine RWord_spec he fun w4 hx4 => ?_
      have hx34 : Ext [] w3 w4 := Ext.trans (S := []) (by (repeat first | assumption | exact Ext.refl | apply Ext.alloc | apply Ext.drew | (refine Ext.updN ?_ ?_; (focus first | omega | (simp only [szR] <;> omega))) | (refine Ext.updI ?_ ?_; (focus (simp; done))))) hx4 (by simp)
      have e24 := hx34.at e2 (by simp)
      have hs4 := hx34.size
      simp (disch := first | assumption | omega | (simp only [szR, entC_len, entC_all, un_len, plC_len, plC_all, ruC_len, a12_len, a12_all] <;> omega) | rfl | decide) only [gen0, gen1, gen2, rulesM, rulesU, litR, bolR, Nat.reduceAdd, Nat.reduceLeDiff, numR, memR, valR, heapR, updR, intR, decR, extR, slR, segR, thenR, pnR, Int.reduceToNat, Int.reduceAdd, Int.reduceSub, Int.reduceLT, Int.reduceLE, Nat.reduceSub, Nat.reduceMul, Nat.reduceEqDiff, e24, hsubL, hlenL]
      refine rStore_spec2 (e4.ext (S := []) (by (repeat first | assumption | exact Ext.refl | apply Ext.alloc | apply Ext.drew | (refine Ext.updN ?_ ?_; (focus first | omega | (simp only [szR] <;> omega))) | (refine Ext.updI ?_ ?_; (focus (simp; done))))) (by simp)) (by first | omega | (simp only [szR] <;> omega)) hcc (by omega) (by omega) (by omega) (by omega) fun L' P' xa' xb' w5 hr5 hx5 => ?_
      have hx35 : Ext [] w3 w5 := hx34.trans (Ext.trans (S := []) (by (repeat first | assumption | exact Ext.refl | apply Ext.alloc | apply Ext.drew | (refine Ext.updN ?_ ?_; (focus first | omega | (simp only [szR] <;> omega))) | (refine Ext.updI ?_ ?_; (focus (simp; done))))) hx5 (by simp)) (by simp)
      have e25 := hx35.at e2 (by simp)
      have hs5 := hx35.size
      obtain ⟨hlen6, hall6, hsub6⟩ := hr5.cells
      have hsp := splice_all (l := L) (vs := L') (by omega)
      have hdr := drop_all (l := L) (vs := L') (by omega)
      have hlow : ∀ b, blockOf xa' = some b ∨ blockOf xb' = some b → w.heap.size ≤ b := by
        intro b hb
        have := hb.elim (hr5.lowa b) (hr5.lowb b)
        try simp only [szR] at this
        omega
      simp (disch := first | assumption | omega | (simp only [szR, entC_len, entC_all, un_len, plC_len, plC_all, ruC_len, a12_len, a12_all] <;> omega) | rfl | decide) only [gen0, gen1, gen2, rulesM, rulesU, litR, bolR, Nat.reduceAdd, Nat.reduceLeDiff, numR, memR, valR, heapR, updR, intR, decR, extR, slR, segR, thenR, pnR, Int.reduceToNat, Int.reduceAdd, Int.reduceSub, Int.reduceLT, Int.reduceLE, Nat.reduceSub, Nat.reduceMul, Nat.reduceEqDiff, e25, hlen6, hall6, hsp, hdr]
      have hr5' : RMem w5 base L' 8 (stored m (8192 + p * 8) 8 (wd c.f c.e : Nat)) (cc + 8) P' xa' xb' := ⟨hr5.val, hr5.rowa, hr5.rowb, fun b hb => by have := hlow b (.inl hb); omega, fun b hb => by have := hlow b (.inr hb); omega, hr5.lk, hr5.len⟩
      have hx5 : Ext [b4] w5 (World.upd w5 b4 L') := Ext.updI (by simp) Ext.refl
      have hxq : Ext [q] w w5 := hxw3.trans hx35 (by simp)
      refine hrest D G _ ai g (cc + 8) _ ⟨hI.ok, hS.ext (U := [q, b4]) ((hxq.mono (by simp)).trans hx5 (by simp)) (by simp; omega), ⟨g3, (hm3.ext hx35 (by simp) (by simp)).ext hx5 (by simp; omega) (by simp; omega)⟩, ⟨L', P', xa', xb', base, upd_at e25, hr5'.ext' hx5 (fun _ b hb => by have := hlow b hb; simp; omega), hbase, fun _ b hb => by have := hlow b hb; simp; omega⟩, ⟨vl, ve, (hx35.at e3 (by simp)).symm ▸ (upd_ne (by omega)), (e5.ext hx35 (by simp)).at hx5 (fun b hb => by have := hvlb b hb; simp at this ⊢; omega), (e6.ext hx35 (by simp)).at hx5 (fun b hb => by have := hveb b hb; simp at this ⊢; omega), hvlb, hveb⟩, hI.ai64⟩ (by omega) (by omega) ((hxq.mono (by simp)).trans hx5 (by simp))
  have hlines : ∀ (w1 w2 W : World) (v2 : Value) (G' : Nat → List Rn), Ok12 D G' → At w1 b5 (lnS D G') (uT 0 ai g) → Ext [b5] w w1 → Ext [] w1 w2 → RowsAt w2 v2 3 ((upt G' 4).map rfC) → (∀ b, blockOf v2 = some b → w1.heap.size ≤ b ∨ blockOf vl = some b) → W = World.upd w2 b6 (ruC v2 ve 0 ai g) → J3 [] W := by
    rintro w1 w2 W v2 G' hok h5 hx1 hx2 hl hlb rfl
    have hs1 := hx1.size
    have hlb' : ∀ b, blockOf v2 = some b → b ∉ [q, b4, b5, b6] := fun b hb => by
      rcases hlb b hb with h | h
      · simp; omega
      · exact hvlb b h
    have hx12 := hx1.trans hx2 (by simp)
    have hU2 := hx12.at hU (by simp; omega)
    have hx3 : Ext [b6] w2 (World.upd w2 b6 (ruC v2 ve 0 ai g)) := Ext.updI (by simp) Ext.refl
    refine hrest D G' m ai g cc _ (hI.lines hok hU hve hveb ((h5.ext hx2 (by simp)).ext hx3 (by simp; omega)) (hl.at hx3 fun b hb => by have := hlb' b hb; simp at this ⊢; omega) hlb' (upd_at hU2) ((hx12.mono (by simp)).trans hx3 (by simp)) (by omega)) (by omega) (by omega) ((hx12.mono (by simp)).trans hx3 (by simp))
  obtain ⟨E5, hb5⟩ := id hS
  have e4096 : (c.va : Int) / 4096 = ((c.va / 4096 : Nat) : Int) := by omega
  have hn0 : (0 : Int) ≤ ((c.va / 4096 : Nat) : Int) := by omega
  have h2S := lnS_two (D := D) hI.ok.good.two
  by_cases h3 : c.kind = 3
  · clear hrest hsame
    simp (disch := first | assumption | omega | (simp only [szR, entC_len, entC_all, un_len, plC_len, plC_all, ruC_len, a12_len, a12_all] <;> omega) | rfl | decide) only [gen0, gen1, gen2, rulesM, rulesU, litR, bolR, Nat.reduceAdd, Nat.reduceLeDiff, numR, memR, valR, heapR, updR, intR, decR, extR, slR, segR, thenR, pnR, Int.reduceToNat, Int.reduceAdd, Int.reduceSub, Int.reduceLT, Int.reduceLE, Nat.reduceSub, Nat.reduceMul, Nat.reduceEqDiff, hact, a12_at, hb5, un_at, e4096]
    refine Drop_spec hS h2S ⟨by omega, by omega⟩ fun w1 hS1 hx1 => ?_
    rw [lnS_drop] at hS1
    obtain ⟨e1, e2, e3, e4, e5, e6⟩ := hkeep w1 [b5] hx1 (by simp)
    simp (disch := first | assumption | omega | (simp only [szR, entC_len, entC_all, un_len, plC_len, plC_all, ruC_len, a12_len, a12_all] <;> omega) | rfl | decide) only [gen0, gen1, gen2, rulesM, rulesU, litR, bolR, Nat.reduceAdd, Nat.reduceLeDiff, numR, memR, valR, heapR, updR, intR, decR, extR, slR, segR, thenR, pnR, Int.reduceToNat, Int.reduceAdd, Int.reduceSub, Int.reduceLT, Int.reduceLE, Nat.reduceSub, Nat.reduceMul, Nat.reduceEqDiff, e1, a12_at, e3, ruC_at, ruC_len, e4096]
    refine rDrop_spec e5 (by omega) fun v2 w2 ho2 hx2 => ?_
    have hr2 := ho2.rows
    have hb2 := ho2.block
    rw [← drop_lawR hI.ok.good hn0] at hr2
    obtain ⟨a2, c2, rfl⟩ := hr2.len
    have e32 := hx2.at e3 (by simp)
    simp (disch := first | assumption | omega | (simp only [szR, entC_len, entC_all, un_len, plC_len, plC_all, ruC_len, a12_len, a12_all] <;> omega) | rfl | decide) only [gen0, gen1, gen2, rulesM, rulesU, litR, bolR, Nat.reduceAdd, Nat.reduceLeDiff, numR, memR, valR, heapR, updR, intR, decR, extR, slR, segR, thenR, pnR, Int.reduceToNat, Int.reduceAdd, Int.reduceSub, Int.reduceLT, Int.reduceLE, Nat.reduceSub, Nat.reduceMul, Nat.reduceEqDiff, e32, ruC_set, ruC_len]
    exact hlines w1 w2 _ _ _ ⟨hI.ok.good.drop _ _, hI.ok.idx.drop _ _, hI.ok.fr⟩ hS1 hx1 hx2 hr2 (fun b hb => .inl (hb2 b hb)) rfl
  by_cases h4 : c.kind = 4
  · clear hrest hsame
    simp (disch := first | assumption | omega | (simp only [szR, entC_len, entC_all, un_len, plC_len, plC_all, ruC_len, a12_len, a12_all] <;> omega) | rfl | decide) only [gen0, gen1, gen2, rulesM, rulesU, litR, bolR, Nat.reduceAdd, Nat.reduceLeDiff, numR, memR, valR, heapR, updR, intR, decR, extR, slR, segR, thenR, pnR, Int.reduceToNat, Int.reduceAdd, Int.reduceSub, Int.reduceLT, Int.reduceLE, Nat.reduceSub, Nat.reduceMul, Nat.reduceEqDiff, hact, a12_at, hb5, un_at]
    refine Flush_spec hS h2S fun w1 hS1 hx1 => ?_
    rw [lnS_flush] at hS1
    obtain ⟨e1, e2, e3, e4, e5, e6⟩ := hkeep w1 [b5] hx1 (by simp)
    simp (disch := first | assumption | omega | (simp only [szR, entC_len, entC_all, un_len, plC_len, plC_all, ruC_len, a12_len, a12_all] <;> omega) | rfl | decide) only [gen0, gen1, gen2, rulesM, rulesU, litR, bolR, Nat.reduceAdd, Nat.reduceLeDiff, numR, memR, valR, heapR, updR, intR, decR, extR, slR, segR, thenR, pnR, Int.reduceToNat, Int.reduceAdd, Int.reduceSub, Int.reduceLT, Int.reduceLE, Nat.reduceSub, Nat.reduceMul, Nat.reduceEqDiff, e1, a12_at, e3, ruC_at, ruC_len]
    refine rFlush_spec e5 (by omega) fun v2 w2 ho2 hx2 => ?_
    have hr2 := ho2.rows
    have hb2 := ho2.block
    rw [← flush_lawR] at hr2
    obtain ⟨a2, c2, rfl⟩ := hr2.len
    have e32 := hx2.at e3 (by simp)
    simp (disch := first | assumption | omega | (simp only [szR, entC_len, entC_all, un_len, plC_len, plC_all, ruC_len, a12_len, a12_all] <;> omega) | rfl | decide) only [gen0, gen1, gen2, rulesM, rulesU, litR, bolR, Nat.reduceAdd, Nat.reduceLeDiff, numR, memR, valR, heapR, updR, intR, decR, extR, slR, segR, thenR, pnR, Int.reduceToNat, Int.reduceAdd, Int.reduceSub, Int.reduceLT, Int.reduceLE, Nat.reduceSub, Nat.reduceMul, Nat.reduceEqDiff, e32, ruC_set, ruC_len]
    exact hlines w1 w2 _ _ _ ⟨hI.ok.good.filter _, hI.ok.idx.filter _, hI.ok.fr⟩ hS1 hx1 hx2 hr2 (fun b hb => .inl (hb2 b hb)) rfl
  by_cases h5 : c.kind = 5
  · clear hrest hsame
    simp (disch := first | assumption | omega | (simp only [szR, entC_len, entC_all, un_len, plC_len, plC_all, ruC_len, a12_len, a12_all] <;> omega) | rfl | decide) only [gen0, gen1, gen2, rulesM, rulesU, litR, bolR, Nat.reduceAdd, Nat.reduceLeDiff, numR, memR, valR, heapR, updR, intR, decR, extR, slR, segR, thenR, pnR, Int.reduceToNat, Int.reduceAdd, Int.reduceSub, Int.reduceLT, Int.reduceLE, Nat.reduceSub, Nat.reduceMul, Nat.reduceEqDiff, hact, a12_at, hb5, un_at]
    refine Clear_spec hS h2S fun w1 hS1 hx1 => ?_
    rw [lnS_clear D] at hS1
    obtain ⟨e1, e2, e3, e4, e5, e6⟩ := hkeep w1 [b5] hx1 (by simp)
    simp (disch := first | assumption | omega | (simp only [szR, entC_len, entC_all, un_len, plC_len, plC_all, ruC_len, a12_len, a12_all] <;> omega) | rfl | decide) only [gen0, gen1, gen2, rulesM, rulesU, litR, bolR, Nat.reduceAdd, Nat.reduceLeDiff, numR, memR, valR, heapR, updR, intR, decR, extR, slR, segR, thenR, pnR, Int.reduceToNat, Int.reduceAdd, Int.reduceSub, Int.reduceLT, Int.reduceLE, Nat.reduceSub, Nat.reduceMul, Nat.reduceEqDiff, e3, ruC_set, ruC_len]
    exact hlines w1 w1 _ _ _ ⟨GoodR.none, Idx.none _, hI.ok.fr⟩ hS1 hx1 Ext.refl (by rw [clear_lawR]; exact OwnR.nil.rows (base := 0) (e := 153)) (by simp [blockOf]) rfl
  by_cases h6 : c.kind = 6
  · clear hrest hsame
    simp (disch := first | assumption | omega | (simp only [szR, entC_len, entC_all, un_len, plC_len, plC_all, ruC_len, a12_len, a12_all] <;> omega) | rfl | decide) only [gen0, gen1, gen2, rulesM, rulesU, litR, bolR, Nat.reduceAdd, Nat.reduceLeDiff, numR, memR, valR, heapR, updR, intR, decR, extR, slR, segR, thenR, pnR, Int.reduceToNat, Int.reduceAdd, Int.reduceSub, Int.reduceLT, Int.reduceLE, Nat.reduceSub, Nat.reduceMul, Nat.reduceEqDiff, hact, a12_at, hb5, un_at]
    refine Evict_spec hS h2S (lnS_num hI.ok.good) fun w1 hS1 hx1 => ?_
    rw [lnS_evict] at hS1
    obtain ⟨e1, e2, e3, e4, e5, e6⟩ := hkeep w1 [b5] hx1 (by simp)
    simp (disch := first | assumption | omega | (simp only [szR, entC_len, entC_all, un_len, plC_len, plC_all, ruC_len, a12_len, a12_all] <;> omega) | rfl | decide) only [gen0, gen1, gen2, rulesM, rulesU, litR, bolR, Nat.reduceAdd, Nat.reduceLeDiff, numR, memR, valR, heapR, updR, intR, decR, extR, slR, segR, thenR, pnR, Int.reduceToNat, Int.reduceAdd, Int.reduceSub, Int.reduceLT, Int.reduceLE, Nat.reduceSub, Nat.reduceMul, Nat.reduceEqDiff, e1, a12_at, e3, ruC_at, ruC_len]
    refine rEvict_spec e5 (by omega) fun v2 w2 hr2 hb2 hx2 => ?_
    rw [← evict_lawR hI.ok.good] at hr2
    obtain ⟨a2, c2, rfl⟩ := hr2.len
    have e32 := hx2.at e3 (by simp)
    simp (disch := first | assumption | omega | (simp only [szR, entC_len, entC_all, un_len, plC_len, plC_all, ruC_len, a12_len, a12_all] <;> omega) | rfl | decide) only [gen0, gen1, gen2, rulesM, rulesU, litR, bolR, Nat.reduceAdd, Nat.reduceLeDiff, numR, memR, valR, heapR, updR, intR, decR, extR, slR, segR, thenR, pnR, Int.reduceToNat, Int.reduceAdd, Int.reduceSub, Int.reduceLT, Int.reduceLE, Nat.reduceSub, Nat.reduceMul, Nat.reduceEqDiff, e32, ruC_set, ruC_len]
    exact hlines w1 w2 _ _ _ ⟨hI.ok.good.evict _, hI.ok.idx.evict _, hI.ok.fr⟩ hS1 hx1 hx2 hr2 hb2 rfl
  have hboth : ∀ (W : World) (ai' : Nat) (g' : Bool), ai' < 18446744073709551616 → W.heap[b5]? = some (.cells (tlbC (lnS D G) ++ uT 0 ai' g').toArray E5 (0, 0)) → W.heap[b6]? = some (.cells (ruC vl ve 0 ai' g').toArray 89 (0, 0)) → Ext [b5, b6] w W → J3 [] W := by
    intro W ai' g' h1 h5 h6 hx
    refine hrest D G m ai' g' cc _ ⟨hI.ok, ⟨E5, h5⟩, ⟨g0, hm.ext hx (by simp; omega) (by simp; omega)⟩, ⟨L, P, xa, xb, base, hx.at hL (by simp; omega), hr.ext' hx (fun h0 b hb => by have := hxT h0 b hb; simp at this ⊢; omega), hbase, hxT⟩, ⟨vl, ve, h6, hvl.at hx (fun b hb => by have := hvlb b hb; simp at this ⊢; omega), hve.at hx (fun b hb => by have := hveb b hb; simp at this ⊢; omega), hvlb, hveb⟩, h1⟩ (by omega) (by omega) (hx.mono (by simp))
  clear hrest hlines hkeep
  have hulen := un_len (lnS D G) 0 ai g
  have hulen' : 133 < (tlbC (lnS D G) ++ uT 0 ai g).length ∧ 134 < (tlbC (lnS D G) ++ uT 0 ai g).length := by omega
  by_cases h7 : c.kind = 7
  · clear hsame
    simp (disch := first | assumption | omega | (simp only [szR, entC_len, entC_all, un_len, plC_len, plC_all, ruC_len, a12_len, a12_all] <;> omega) | rfl | decide) only [gen0, gen1, gen2, rulesM, rulesU, litR, bolR, Nat.reduceAdd, Nat.reduceLeDiff, numR, memR, valR, heapR, updR, intR, decR, extR, slR, segR, thenR, pnR, Int.reduceToNat, Int.reduceAdd, Int.reduceSub, Int.reduceLT, Int.reduceLE, Nat.reduceSub, Nat.reduceMul, Nat.reduceEqDiff, hact, a12_at, hb5, un_at, hU, ruC_at, ruC_len, un_set3, ruC_set, hulen']
    repeat' (with_reducible apply And.intro)
    all_goals exact hboth _ ai (!g) hI.ai64 (by first | with_reducible rfl | assumption | (simp (disch := first | assumption | omega | (simp only [szR, entC_len, entC_all, un_len, plC_len, plC_all, ruC_len, a12_len, a12_all] <;> omega) | rfl | decide) only [gen0, gen1, gen2, rulesM, rulesU, litR, bolR, Nat.reduceAdd, Nat.reduceLeDiff, numR, memR, valR, heapR, updR, intR, decR, extR, slR, segR, thenR, pnR, Int.reduceToNat, Int.reduceAdd, Int.reduceSub, Int.reduceLT, Int.reduceLE, Nat.reduceSub, Nat.reduceMul, Nat.reduceEqDiff, hb5] <;> rfl)) (by first | with_reducible rfl | assumption | (simp (disch := first | assumption | omega | (simp only [szR, entC_len, entC_all, un_len, plC_len, plC_all, ruC_len, a12_len, a12_all] <;> omega) | rfl | decide) only [gen0, gen1, gen2, rulesM, rulesU, litR, bolR, Nat.reduceAdd, Nat.reduceLeDiff, numR, memR, valR, heapR, updR, intR, decR, extR, slR, segR, thenR, pnR, Int.reduceToNat, Int.reduceAdd, Int.reduceSub, Int.reduceLT, Int.reduceLE, Nat.reduceSub, Nat.reduceMul, Nat.reduceEqDiff, hU] <;> rfl)) (by (repeat first | assumption | exact Ext.refl | apply Ext.alloc | apply Ext.drew | (refine Ext.updN ?_ ?_; (focus first | omega | (simp only [szR] <;> omega))) | (refine Ext.updI ?_ ?_; (focus (simp; done)))))
  by_cases h8' : c.kind = 8
  · clear hsame
    have hmask : bitI .and .i64 c.n 1 = c.n % 2 := and_mask (k := .i64) (n := 1) (by decide)
    obtain ⟨p, hp, hp2⟩ : ∃ p : Nat, c.n % 2 = p ∧ p < 2 := ⟨(c.n % 2).toNat, by omega, by omega⟩
    rw [hp] at hmask
    simp (disch := first | assumption | omega | (simp only [szR, entC_len, entC_all, un_len, plC_len, plC_all, ruC_len, a12_len, a12_all] <;> omega) | rfl | decide) only [gen0, gen1, gen2, rulesM, rulesU, litR, bolR, Nat.reduceAdd, Nat.reduceLeDiff, numR, memR, valR, heapR, updR, intR, decR, extR, slR, segR, thenR, pnR, Int.reduceToNat, Int.reduceAdd, Int.reduceSub, Int.reduceLT, Int.reduceLE, Nat.reduceSub, Nat.reduceMul, Nat.reduceEqDiff, hact, a12_at, hb5, un_at, hU, ruC_at, ruC_len, un_set2, ruC_set, hmask, hulen']
    repeat' (with_reducible apply And.intro)
    all_goals exact hboth _ p g (by omega) (by first | with_reducible rfl | assumption | (simp (disch := first | assumption | omega | (simp only [szR, entC_len, entC_all, un_len, plC_len, plC_all, ruC_len, a12_len, a12_all] <;> omega) | rfl | decide) only [gen0, gen1, gen2, rulesM, rulesU, litR, bolR, Nat.reduceAdd, Nat.reduceLeDiff, numR, memR, valR, heapR, updR, intR, decR, extR, slR, segR, thenR, pnR, Int.reduceToNat, Int.reduceAdd, Int.reduceSub, Int.reduceLT, Int.reduceLE, Nat.reduceSub, Nat.reduceMul, Nat.reduceEqDiff, hb5] <;> rfl)) (by first | with_reducible rfl | assumption | (simp (disch := first | assumption | omega | (simp only [szR, entC_len, entC_all, un_len, plC_len, plC_all, ruC_len, a12_len, a12_all] <;> omega) | rfl | decide) only [gen0, gen1, gen2, rulesM, rulesU, litR, bolR, Nat.reduceAdd, Nat.reduceLeDiff, numR, memR, valR, heapR, updR, intR, decR, extR, slR, segR, thenR, pnR, Int.reduceToNat, Int.reduceAdd, Int.reduceSub, Int.reduceLT, Int.reduceLE, Nat.reduceSub, Nat.reduceMul, Nat.reduceEqDiff, hU] <;> rfl)) (by (repeat first | assumption | exact Ext.refl | apply Ext.alloc | apply Ext.drew | (refine Ext.updN ?_ ?_; (focus first | omega | (simp only [szR] <;> omega))) | (refine Ext.updI ?_ ?_; (focus (simp; done)))))
  simp (disch := first | assumption | omega | (simp only [szR, entC_len, entC_all, un_len, plC_len, plC_all, ruC_len, a12_len, a12_all] <;> omega) | rfl | decide) only [gen0, gen1, gen2, rulesM, rulesU, litR, bolR, Nat.reduceAdd, Nat.reduceLeDiff, numR, memR, valR, heapR, updR, intR, decR, extR, slR, segR, thenR, pnR, Int.reduceToNat, Int.reduceAdd, Int.reduceSub, Int.reduceLT, Int.reduceLE, Nat.reduceSub, Nat.reduceMul, Nat.reduceEqDiff, hact, a12_at]
  exact hsame _ Ext.refl
end Go.Proofs.Ytbigiabcgplkgaa
