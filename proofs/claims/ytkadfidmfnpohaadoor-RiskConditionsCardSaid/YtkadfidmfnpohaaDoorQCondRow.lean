/- The statement RiskConditions of the given program holds as its tied card states it: whatever the statement takes in, with the tables as they are laid, the run ends and answers true. -/
import Derived.Test.YtkadfidmfnpohaaDoorQCond4
import Derived.Test.YtkadfidmfnpohaaDoorQCond6
import Derived.Test.YtkadfidmfnpohaaDoorRows
import Derived.Test.YtkadfidmfnpohaaDoorCards
import Derived.Test.YtkadfidmfnpohaaDoorTie
import Derived.ProofKit
import Derived.WalkKit
import Derived.OpenShut
import Derived.ShutString
import Derived.ChangeOld
import Derived.Below
import Derived.LaidMore
import Derived.Stop.Joined
import Derived.Lib.LaidTab
import Derived.Lib.SmallJoins
import Derived.SevenTiedAt
import Derived.MakeChecks
import Derived.SizedLaws
namespace Go.Proofs.YtkadfidmfnpohaaDoor
open Go.ChangeShapes Go.WideShapes Go.ChangeAt Go.RowKit
open Go.ChangeMaps (open_string shut_string)
open Go.Proofs.YtkadfidmfnpohaaDoorW.PrintWords Go.Proofs.YtkadfidmfnpohaaDoorW.PrintLast Go.Proofs.YtkadfidmfnpohaaDoorW.PrintMore Go.Proofs.YtkadfidmfnpohaaDoor.XB
set_option linter.unusedVariables false
set_option linter.unusedSimpArgs false
theorem cond_door (os : Os) (args : Array Value) : laidMetH Tryd.prog [("quietus/gf.high", Rows.laid_quietus_gf_high)] ((World.doorLaid Tryd.prog 400 os).forCall (fun _ _ => 0) ⟨#[], args, []⟩).memory :=
  laidMetH_of_parts3 (fuel := 8) (laidMet_of_run' 8 (by kernel_rfl) (by kernel_rfl)) (by kernel_rfl) (by kernel_rfl)
theorem own : ownKnob Tryd.prog.godebug = none := by kernel_rfl
theorem laidOut : laidOutB Tryd.prog = true := by kernel_rfl
set_option maxRecDepth 100000 in
theorem cond_lifted (os : Os) (started : os.Started) (H : Type) (enc : TypeId × Value → H) :
    ReturnsInHanded {} Tryd.checked os 9 .any (fun w args => (Rows.riskConditionsSpec.pre enc Tryd.prog Tryd.f9 [] false w args ∧ laidMetH Tryd.prog [("quietus/gf.high", Rows.laid_quietus_gf_high)] w) ∧ sizedMet enc Tryd.prog Tryd.f9 (OpenSpec.ofChange Rows.riskConditionsSpec) false w args)
      (Rows.riskConditionsSpec.post enc Tryd.prog Tryd.f9 false true false false) := by
  refine returnsInHanded_of_change_and (C := Tryd.checked) (X := fun w _ => laidMetH Tryd.prog [("quietus/gf.high", Rows.laid_quietus_gf_high)] w) (fun _ _ _ hh h => h.of_heap hh) own started (by kernel_rfl) Tryd.func9
    (ChangeSpec.witness_shaped (enc := enc) (C := Tryd.checked) (os := os) (X := fun w _ => laidMetH Tryd.prog [("quietus/gf.high", Rows.laid_quietus_gf_high)] w) false (World.doorLaid Tryd.prog 400 os) #[.agg #[.int .i64 0, .slice none 0 0, .int .i64 0, .slice none 0 0, .slice none 0 0], .int .u8 0] 8 rfl (World.shaped_of_RefB (by kernel_rfl) (by kernel_rfl)) (by kernel_rfl) (by kernel_rfl) (by kernel_rfl) (cond_door os _)) ?_
  intro W base args ds gs before hval0 hW _ _ hL _
  have hval : ∀ (j : Nat) t v, Tryd.f9.params[j]? = some t → args[j]? = some v → Value.okWide Tryd.prog W .any base t v := hval0
  have hW' := hW
  obtain ⟨p, q, hA0, hV, rfl, hfz, hnd⟩ := hW
  have hA : DataW.TrodAll enc Tryd.prog W 0 (fun _ => true) true Tryd.f9.params.toList args.toList ds p := hA0
  rw [Tryd.params9] at hA hval
  obtain ⟨v0, vs0, d0, ds0, p0, q0, hargs, rfl, rfl, h0, r0⟩ := trodAll_cons hA
  obtain ⟨v1, vs1, d1, ds1, p1, q1, rfl, rfl, rfl, h1, r1⟩ := trodAll_cons r0
  obtain ⟨rfl, rfl, rfl⟩ := trodAll_nil r1
  obtain rfl : args = #[v0, v1] := by cases args; simp_all
  obtain ⟨rfl, rfl⟩ := trodVars_none hV
  obtain ⟨d, A, c, l, m, Aa, ca, pl, Ac, cc, ch, rfl, hc, hC, hca, hP, hcc, hH⟩ := open_peril (hval 0 64 v0 rfl rfl) h0
  obtain ⟨lost, rfl, rfl, rfl, hlost⟩ := open_int Tryd.underlying5 (hval 1 5 v1 rfl rfl) h1
  have hp : 0 ≤ lost ∧ lost < 256 := by
    have hlost' := hlost
    simp only [Lit.wf, Bool.and_eq_true, decide_eq_true_eq] at hlost'
    have e1 : IntKind.u8.min = 0 := rfl
    have e2 : IntKind.u8.max = 255 := rfl
    omega
  have lt0 : ∀ x ∈ p0, x.block < W.heap.size := by obtain ⟨m, hm⟩ := h0; exact DataW.trod_lt m _ _ _ hm
  have k0 := h0
  have hG := hg_of_laid hL
  clear hA0 hval0
  refine (cond_walk d A c l m Aa ca pl Ac cc ch lost W hG hC hc hP hca hH hcc hp.1 hp.2).mono fun e W' ⟨he, bel⟩ => ?_
  subst he
  exact ⟨_, rfl, _, _, _, [], _, [], hW', trodAll_mk1 (shut_bool Tryd.underlying4 _), trodAll_cons_mk (Below.trod laidOut (by kernel_rfl) (of_decide_eq_true (by kernel_rfl)) k0 bel lt0) (trodAll_cons_mk (shut_int Tryd.underlying5 hlost) trodAll_mk0), rfl, bel.frame _, fun h => by cases h⟩
theorem cond_row : Rows.RiskConditionsSaid :=
  OpenClaim.holds_of_wide 9 Tryd.f9 rfl rfl rfl rfl rfl rfl rfl ⟨rfl, rfl, rfl, rfl, rfl⟩ rfl rfl rfl rfl rfl (by kernel_rfl) Tryd.func9 (by kernel_rfl)
    (of_decide_eq_true (by kernel_rfl)) (by unfold Func.isWrapper; first | (rw [if_pos (by decide +kernel)]; kernel_rfl) | (rw [if_neg (by decide +kernel)]; exact ⟨rfl, rfl⟩))
    (fun os started H enc _ => cond_lifted os started H enc)
theorem cond_card : Rows.RiskConditionsCardSaid :=
  Claim7.holds_tied_plain_at .later [] [.data] true (true, "26ee1f89fe273131bbf40e829b1fd0cfaf27ae8033f1ba171a01b1ea4bdb0544") false
    cond_row (fun _ h => by cases h) (by kernel_rfl) (fun _ h => by cases h) riskConditions_row_tie rfl ⟨rfl, rfl⟩ (by kernel_rfl) rfl
    (fun f fn hf hfn => by
      obtain rfl : f = 9 := Option.some.inj ((show Tryd.prog.funcNamed "quietus/quietuslaw12.RiskConditions" = some 9 by kernel_rfl).symm.trans hf) |>.symm
      obtain rfl : fn = Tryd.f9 := (Option.some.inj (Tryd.func9.symm.trans hfn)).symm
      exact ⟨by kernel_rfl, fun j t ht => by
        rw [Tryd.params9] at ht
        have hm : t ∈ [64, 5] := by simpa using Array.mem_of_getElem? ht
        have hall : ([64, 5].all fun u => !Tryd.prog.wantsStandIn u) = true := by kernel_rfl
        exact (show Tryd.prog.wantsStandIn t = false by simpa using List.all_eq_true.1 hall t hm)⟩)
    (by kernel_rfl)
#print axioms cond_card

end Go.Proofs.YtkadfidmfnpohaaDoor
