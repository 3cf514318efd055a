/- The statement RiskMatchesSpec of the given program holds as its tied card states it: whatever the statement takes in, with the tables as they are laid, the run ends and answers true. -/
import Derived.Test.YtkadfidmfnpohaaDoorQSpec5
import Derived.Test.YtkadfidmfnpohaaDoorQSpec6
import Derived.Test.YtkadfidmfnpohaaDoorQSpec7
import Derived.Test.YtkadfidmfnpohaaDoorRows
import Derived.Test.YtkadfidmfnpohaaDoorCards
import Derived.Test.YtkadfidmfnpohaaDoorTie
import Derived.ProofKit
import Derived.WalkKit
import Derived.OpenShut
import Derived.ShutString
import Derived.ChangeOld
import Derived.Below
import Derived.LaidMore
import Derived.Stop.Joined
import Derived.Lib.LaidTab
import Derived.Lib.SmallJoins
import Derived.SevenTiedAt
import Derived.MakeChecks
import Derived.SizedLaws
namespace Go.Proofs.YtkadfidmfnpohaaDoor
open Go.ChangeShapes Go.WideShapes Go.ChangeAt Go.RowKit
open Go.ChangeMaps (open_string shut_string)
open Go.Proofs.YtkadfidmfnpohaaDoorW.PrintWords Go.Proofs.YtkadfidmfnpohaaDoorW.PrintLast Go.Proofs.YtkadfidmfnpohaaDoorW.PrintMore Go.Proofs.YtkadfidmfnpohaaDoor.XB
set_option linter.unusedVariables false
set_option linter.unusedSimpArgs false
theorem spec_door (os : Os) (args : Array Value) : laidMetH Tryd.prog [("quietus/gf.high", Rows.laid_quietus_gf_high)] ((World.doorLaid Tryd.prog 400 os).forCall (fun _ _ => 0) ⟨#[], args, []⟩).memory :=
  laidMetH_of_parts3 (fuel := 8) (laidMet_of_run' 8 (by kernel_rfl) (by kernel_rfl)) (by kernel_rfl) (by kernel_rfl)
theorem own : ownKnob Tryd.prog.godebug = none := by kernel_rfl
theorem laidOut : laidOutB Tryd.prog = true := by kernel_rfl
set_option maxRecDepth 100000 in
theorem spec_lifted (os : Os) (started : os.Started) (H : Type) (enc : TypeId × Value → H) :
    ReturnsInHanded {} Tryd.checked os 8 .any (fun w args => (Rows.riskMatchesSpecSpec.pre enc Tryd.prog Tryd.f8 [] false w args ∧ laidMetH Tryd.prog [("quietus/gf.high", Rows.laid_quietus_gf_high)] w) ∧ sizedMet enc Tryd.prog Tryd.f8 (OpenSpec.ofChange Rows.riskMatchesSpecSpec) false w args)
      (Rows.riskMatchesSpecSpec.post enc Tryd.prog Tryd.f8 false true false false) := by
  refine returnsInHanded_of_change_and (C := Tryd.checked) (X := fun w _ => laidMetH Tryd.prog [("quietus/gf.high", Rows.laid_quietus_gf_high)] w) (fun _ _ _ hh h => h.of_heap hh) own started (by kernel_rfl) Tryd.func8
    (ChangeSpec.witness_shaped (enc := enc) (C := Tryd.checked) (os := os) (X := fun w _ => laidMetH Tryd.prog [("quietus/gf.high", Rows.laid_quietus_gf_high)] w) false (World.doorLaid Tryd.prog 400 os) #[.agg #[.int .i64 0, .slice none 0 0, .int .i64 0, .slice none 0 0, .slice none 0 0], .agg #[.int .i64 0, .slice none 0 0, .int .i64 0, .slice none 0 0, .slice none 0 0], .int .i64 0] 8 rfl (World.shaped_of_RefB (by kernel_rfl) (by kernel_rfl)) (by kernel_rfl) (by kernel_rfl) (by kernel_rfl) (spec_door os _)) ?_
  intro W base args ds gs before hval0 hW _ _ hL _
  have hval : ∀ (j : Nat) t v, Tryd.f8.params[j]? = some t → args[j]? = some v → Value.okWide Tryd.prog W .any base t v := hval0
  have hW' := hW
  obtain ⟨p, q, hA0, hV, rfl, hfz, hnd⟩ := hW
  have hA : DataW.TrodAll enc Tryd.prog W 0 (fun _ => true) true Tryd.f8.params.toList args.toList ds p := hA0
  rw [Tryd.params8] at hA hval
  obtain ⟨v0, vs0, d0, ds0, p0, q0, hargs, rfl, rfl, h0, r0⟩ := trodAll_cons hA
  obtain ⟨v1, vs1, d1, ds1, p1, q1, rfl, rfl, rfl, h1, r1⟩ := trodAll_cons r0
  obtain ⟨v2, vs2, d2, ds2, p2, q2, rfl, rfl, rfl, h2, r2⟩ := trodAll_cons r1
  obtain ⟨rfl, rfl, rfl⟩ := trodAll_nil r2
  obtain rfl : args = #[v0, v1, v2] := by cases args; simp_all
  obtain ⟨rfl, rfl⟩ := trodVars_none hV
  obtain ⟨d, A, c, l, m, Aa, ca, pl, Ac, cc, ch, rfl, hc, hC, hca, hP, hcc, hH⟩ := open_peril (hval 0 64 v0 rfl rfl) h0
  obtain ⟨e2, A2, c2, l2, m2, Aa2, ca2, pl2, Ac2, cc2, ch2, rfl, hc2, hC2, hca2, hP2, hcc2, hH2⟩ := open_peril (hval 1 64 v1 rfl rfl) h1
  obtain ⟨failed, rfl, rfl, rfl, hfailed⟩ := open_int Tryd.underlying3 (hval 2 3 v2 rfl rfl) h2
  have lt0 : ∀ x ∈ p0, x.block < W.heap.size := by obtain ⟨m, hm⟩ := h0; exact DataW.trod_lt m _ _ _ hm
  have lt1 : ∀ x ∈ p1, x.block < W.heap.size := by obtain ⟨m, hm⟩ := h1; exact DataW.trod_lt m _ _ _ hm
  have k0 := h0
  have k1 := h1
  have hG := hg_of_laid hL
  clear hA0 hval0
  refine (spec_walk d A c l m Aa ca pl Ac cc ch e2 A2 c2 l2 m2 Aa2 ca2 pl2 Ac2 cc2 ch2 failed W hG hC hc hP hca hH hcc hC2 hc2 hP2 hca2 hH2 hcc2).mono fun e W' ⟨he, bel⟩ => ?_
  subst he
  exact ⟨_, rfl, _, _, _, [], _, [], hW', trodAll_mk1 (shut_bool Tryd.underlying4 _), trodAll_cons_mk (Below.trod laidOut (by kernel_rfl) (of_decide_eq_true (by kernel_rfl)) k0 bel lt0) (trodAll_cons_mk (Below.trod laidOut (by kernel_rfl) (of_decide_eq_true (by kernel_rfl)) k1 bel lt1) (trodAll_cons_mk (shut_int Tryd.underlying3 hfailed) trodAll_mk0)), rfl, bel.frame _, fun h => by cases h⟩
theorem spec_row : Rows.RiskMatchesSpecSaid :=
  OpenClaim.holds_of_wide 8 Tryd.f8 rfl rfl rfl rfl rfl rfl rfl ⟨rfl, rfl, rfl, rfl, rfl⟩ rfl rfl rfl rfl rfl (by kernel_rfl) Tryd.func8 (by kernel_rfl)
    (of_decide_eq_true (by kernel_rfl)) (by unfold Func.isWrapper; first | (rw [if_pos (by decide +kernel)]; kernel_rfl) | (rw [if_neg (by decide +kernel)]; exact ⟨rfl, rfl⟩))
    (fun os started H enc _ => spec_lifted os started H enc)
theorem spec_card : Rows.RiskMatchesSpecCardSaid :=
  Claim7.holds_tied_plain_at .later [] [.data] true (true, "26ee1f89fe273131bbf40e829b1fd0cfaf27ae8033f1ba171a01b1ea4bdb0544") false
    spec_row (fun _ h => by cases h) (by kernel_rfl) (fun _ h => by cases h) riskMatchesSpec_row_tie rfl ⟨rfl, rfl⟩ (by kernel_rfl) rfl
    (fun f fn hf hfn => by
      obtain rfl : f = 8 := Option.some.inj ((show Tryd.prog.funcNamed "quietus/quietuslaw12.RiskMatchesSpec" = some 8 by kernel_rfl).symm.trans hf) |>.symm
      obtain rfl : fn = Tryd.f8 := (Option.some.inj (Tryd.func8.symm.trans hfn)).symm
      exact ⟨by kernel_rfl, fun j t ht => by
        rw [Tryd.params8] at ht
        have hm : t ∈ [64, 3] := by simpa using Array.mem_of_getElem? ht
        have hall : ([64, 3].all fun u => !Tryd.prog.wantsStandIn u) = true := by kernel_rfl
        exact (show Tryd.prog.wantsStandIn t = false by simpa using List.all_eq_true.1 hall t hm)⟩)
    (by kernel_rfl)
#print axioms spec_card

end Go.Proofs.YtkadfidmfnpohaaDoor
