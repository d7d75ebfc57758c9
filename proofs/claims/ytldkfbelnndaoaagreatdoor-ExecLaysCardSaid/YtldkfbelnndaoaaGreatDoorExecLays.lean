/-
  The law named below returns true at every input, and leaves its input as it was; conditions: none.
-/
import Derived.Test.YtldkfbelnndaoaaGreatDoorRows
import Derived.Test.YtldkfbelnndaoaaGreatDoorP9
import Derived.WalkKit
import Derived.ProofKit
import Derived.OpenShut
import Derived.Test.YtldkfbelnndaoaaGreatDoorCards
import Derived.Test.YtldkfbelnndaoaaGreatDoorTie
import Derived.LaidMore
import Derived.Lay
import Derived.SevenTiedAt
import Derived.Stop.Joined
namespace Go.Proofs.YtldkfbelnndaoaaGreatDoor.execLays
open Go.ChangeShapes Go.WideShapes Go.ChangeAt Go.RowKit
open Go.Fx
set_option linter.unusedVariables false
set_option linter.unusedSimpArgs false
set_option maxRecDepth 100000

theorem own : ownKnob Tryz.prog.godebug = none := by kernel_rfl
theorem lifted (os : Os) (started : os.Started) (H : Type) (enc : TypeId × Value → H) :
    ReturnsInHanded {} Tryz.checked os 3 .any (fun w args => (Rows.execLaysSpec.pre enc Tryz.prog Tryz.f3 Rows.execLaysRow.domain false w args ∧ laidMetH Tryz.prog Rows.execLaysRow.laid w) ∧ sizedMet enc Tryz.prog Tryz.f3 (OpenSpec.ofChange Rows.execLaysSpec) false w args)
      (Rows.execLaysSpec.post enc Tryz.prog Tryz.f3 false true false false) := by
  refine handed_shaped (C := Tryz.checked) (X := fun w _ => laidMetH Tryz.prog Rows.execLaysRow.laid w) own started (by kernel_rfl) Tryz.func3
    (ChangeSpec.witness_shaped (enc := enc) (C := Tryz.checked) (os := os) (X := fun w _ => laidMetH Tryz.prog Rows.execLaysRow.laid w) false (World.laidAll Tryz.prog os Rows.execLaysRow.laid) #[.int .i32 0, .int .i64 0] 8 (World.laidAll_os _ _ _)
      (World.shaped_of_ZipB (by kernel_rfl) (by kernel_rfl)) (by kernel_rfl) (by kernel_rfl) (by kernel_rfl)
      (by rw [MakeChecks.laidMetH_plain _ _ _ (by kernel_rfl)]; exact laidMet_laidAll _ (by kernel_rfl) (by kernel_rfl))) ?_
  intro W base args ds gs before hval0 hW hSh
  have hG := gm_of hSh
  have hval : ∀ (j : Nat) t v, Tryz.f3.params[j]? = some t → args[j]? = some v → Value.okWide Tryz.prog W .any base t v := hval0
  have hW' := hW
  have hbelow0 := hW.lt
  obtain ⟨p, q, hA0, hV, rfl, hfz, hnd⟩ := hW
  have hA : DataW.TrodAll enc Tryz.prog W 0 (fun _ => true) true Tryz.f3.params.toList args.toList ds p := hA0
  obtain ⟨rfl, rfl⟩ := trodVars_none hV
  have hall := hA
  rw [Tryz.params3] at hA hval
  obtain ⟨v0, vs0, d0, ds0, p0, q0, hargs, rfl, e20, h0, t0⟩ := trodAll_cons hA
  obtain ⟨v1, vs1, d1, ds1, p1, q1, e1, rfl, e21, h1, t1⟩ := trodAll_cons t0
  subst e1
  obtain ⟨rfl, rfl, -⟩ := trodAll_nil t1
  obtain rfl : args = #[v0, v1] := by cases args; simp_all
  obtain ⟨a0, rfl, -, -, w0⟩ := open_int Tryz.underlying21 (hval 0 21 v0 rfl rfl) h0
  obtain ⟨a1, rfl, -, -, w1⟩ := open_int Tryz.underlying3 (hval 1 3 v1 rfl rfl) h1
  have hcall : callsK Tryz.prog 3 #[.int .i32 a0, .int .i64 a1] W (fun v w' => v = .bool true ∧ Ext [] W w') := lays_spec hG (wf_i32 w0) (fun w' hx => ⟨rfl, hx⟩)
  refine (callsK.law2 hcall).mono fun e W' ⟨he, hk, hbl⟩ => ?_
  subst he
  refine ⟨_, rfl, post_own (pa := p) (pv := []) hW' (fun _ _ _ => (trodAll_cons_mk (shut_bool Tryz.underlying4 _) trodAll_mk0)) (fun sp hsp => ?_) (fun _ _ => rfl) hk⟩
  have hts : ∀ t ∈ Tryz.f3.params.toList, Tryz.prog.readableRec t = true ∧ t < Tryz.prog.types.size := by
    rw [Tryz.params3]
    intro t ht
    simp only [List.mem_cons, List.not_mem_nil, or_false] at ht
    rcases ht with rfl | rfl
    · exact ⟨by kernel_rfl, of_decide_eq_true (by kernel_rfl)⟩
    · exact ⟨by kernel_rfl, of_decide_eq_true (by kernel_rfl)⟩
  exact stayAll (by kernel_rfl) hbl hts hall (fun x hx => hbelow0 x (by simpa using hx)) (fun x hx => hsp x (by simpa using hx))

theorem over : Rows.execLaysRow.holds Tryz.pinned (OpenSpec.ofChange Rows.execLaysSpec) :=
  OpenClaim.holds_of_wide 3 Tryz.f3 rfl rfl rfl rfl rfl rfl rfl ⟨rfl, rfl, rfl, rfl, rfl⟩ rfl rfl rfl rfl rfl (by kernel_rfl) Tryz.func3 (by kernel_rfl)
    (of_decide_eq_true (by kernel_rfl)) (by unfold Func.isWrapper; first | (rw [if_pos (by decide +kernel)]; kernel_rfl) | (rw [if_neg (by decide +kernel)]; exact ⟨rfl, rfl⟩))
    (fun os started H enc _ => lifted os started H enc)

theorem card : Rows.ExecLaysCardSaid :=
  Claim7.holds_tied_plain_at .later [] [.data, .pinned] true (true, "e6cb69d6d9bc997202a79f1c3ba3ffb461d8abdc0015f973d78671039e056ac9") false over (fun _ h => by cases h) (by kernel_rfl) (fun _ h => by cases h) execLays_row_tie rfl ⟨rfl, rfl⟩ (by kernel_rfl) rfl
    (fun f fn hf hfn => by
      obtain rfl : f = 3 := Option.some.inj ((show Tryz.prog.funcNamed "mintmark/mintmarklaw17.ExecLays" = some 3 by kernel_rfl).symm.trans hf) |>.symm
      obtain rfl : fn = Tryz.f3 := (Option.some.inj (Tryz.func3.symm.trans hfn)).symm
      exact ⟨by kernel_rfl, fun j t ht => by
        rw [Tryz.params3] at ht
        have hm : t ∈ [21, 3] := by simpa using Array.mem_of_getElem? ht
        have hall : ([21, 3].all fun u => !Tryz.prog.wantsStandIn u) = true := by kernel_rfl
        exact (show Tryz.prog.wantsStandIn t = false by simpa using List.all_eq_true.1 hall t hm)⟩)
    (by kernel_rfl)
/-- the statement. -/
theorem proved : Rows.ExecLaysCardSaid :=
  card
#print axioms proved
end Go.Proofs.YtldkfbelnndaoaaGreatDoor.execLays
