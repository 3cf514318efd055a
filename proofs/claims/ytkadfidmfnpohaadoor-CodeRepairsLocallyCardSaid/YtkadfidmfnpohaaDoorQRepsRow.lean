/- The statement CodeRepairsLocally of the given program holds as its tied card states it: whatever the statement takes in, with the tables as they are laid, the run ends and answers true. -/
import Derived.Test.YtkadfidmfnpohaaDoorQReps3
import Derived.Test.YtkadfidmfnpohaaDoorRows
import Derived.Test.YtkadfidmfnpohaaDoorCards
import Derived.Test.YtkadfidmfnpohaaDoorTie
import Derived.ProofKit
import Derived.WalkKit
import Derived.OpenShut
import Derived.ShutString
import Derived.ChangeOld
import Derived.Below
import Derived.LaidMore
import Derived.Stop.Joined
import Derived.Lib.LaidTab
import Derived.Lib.SmallJoins
import Derived.SevenTiedAt
import Derived.MakeChecks
import Derived.SizedLaws
namespace Go.Proofs.YtkadfidmfnpohaaDoor
open Go.ChangeShapes Go.WideShapes Go.ChangeAt Go.RowKit
open Go.ChangeMaps (open_string shut_string)
open Go.Proofs.YtkadfidmfnpohaaDoorW.PrintWords Go.Proofs.YtkadfidmfnpohaaDoorW.PrintLast Go.Proofs.YtkadfidmfnpohaaDoorW.PrintMore Go.Proofs.YtkadfidmfnpohaaDoor.XB
set_option linter.unusedVariables false
set_option linter.unusedSimpArgs false
/-! arguments, read -/
/-- Whatever reads at a type is of a kind. -/
def ReadAt (P : Program) {α : Type} (k : Kd α) (e : TypeId) (Q : α → Prop) : Prop :=
  ∀ (H : Type) (enc : TypeId × Value → H) (w : World) (held : Bool) (fuel : Nat) (cs : List Value) (x : DataW H × List MemPlace), DataW.trod enc P w 0 (fun _ => true) held fuel e cs = some x → ∃ y, k.K w y cs ∧ Q y
theorem readAt_int {P : Program} {k : IntKind} {t : TypeId} (ht : P.underlying t = some (.int k)) : ReadAt P (Kd.int k) t (fun y => (Lit.int k y).wf = true) := by
  intro H enc w held fuel cs x h
  obtain ⟨n, rfl, _, hw⟩ := DataW.trod_int ht h
  exact ⟨n, rfl, hw⟩
theorem readAt_string {P : Program} {t : TypeId} (ht : P.underlying t = some .string) : ReadAt P Kd.string t (fun y => y.size ≤ maxLen) := by
  intro H enc w held fuel cs x h
  obtain ⟨n, rfl, _, hw⟩ := DataW.trod_string ht h
  exact ⟨n, rfl, hw⟩
theorem readAt_slice {P : Program} {α : Type} {k : Kd α} {t e : TypeId} {Q : α → Prop} (ht : P.underlying t = some (.slice e)) (hs : k.sz = 1) (hc : P.cellsOf e = 1) (he : ReadAt P k e Q) : ReadAt P (Kd.slice e k) t (fun l => l.length ≤ maxLen ∧ ∀ y ∈ l, Q y) := by
  intro H enc w held fuel cs x h
  rcases Go.Deep.open_slice1 ht hc h with ⟨rfl, _⟩ | ⟨a, len, cap, m, n, V, D, Pl, rfl, _, hl, hm, hmm, _, hx⟩
  · exact ⟨[], ⟨none, 0, rfl, Nat.le_refl _, rfl, by simp, fun h0 => absurd h0 (Nat.lt_irrefl 0)⟩, by simp, by simp⟩
  simp only [if_true] at hmm
  subst hmm
  have hy : ∀ i, i < m → ∃ y, k.K w y [V i] ∧ Q y := fun i hi => he H enc w held n [V i] _ (hx i hi).2
  have hlm : len ≤ m := hl
  have key : ∀ j, j ≤ m → ∃ l : List α, l.length = j ∧ (∀ y ∈ l, Q y) ∧ ∀ i y, l[i]? = some y → k.K w y [V i] := by
    intro j
    induction j with
    | zero => exact fun _ => ⟨[], rfl, by simp, by simp⟩
    | succ j ih =>
      intro hj
      obtain ⟨l, hl1, hl2, hl3⟩ := ih (by omega)
      obtain ⟨y, hy1, hy2⟩ := hy j (by omega)
      refine ⟨l ++ [y], by simp [hl1], fun z hz => ?_, fun i z hz => ?_⟩
      · rcases List.mem_append.1 hz with hz | hz
        · exact hl2 z hz
        · obtain rfl := List.mem_singleton.1 hz; exact hy2
      · by_cases hi : i < j
        · rw [List.getElem?_append_left (by omega)] at hz
          exact hl3 i z hz
        · have hi2 : i < (l ++ [y]).length := (List.getElem?_eq_some_iff.1 hz).1
          obtain rfl : i = j := by simp [hl1] at hi2; omega
          rw [List.getElem?_append_right (by omega)] at hz
          simp [hl1] at hz
          subst hz
          exact hy1
  obtain ⟨l, rfl, hl2, hl3⟩ := key len hlm
  refine ⟨l, ⟨some a, m, rfl, hlm, rfl, by unfold maxLen at hm; omega, fun h0 => ⟨a, rfl, fun j p hp => ?_⟩⟩, by omega, hl2⟩
  have hj : j < l.length := (List.getElem?_eq_some_iff.1 hp).1
  refine ⟨[V j], by rw [hs]; rfl, hl3 j p hp, fun i u hu => ?_⟩
  have hi : i < 1 := (List.getElem?_eq_some_iff.1 hu).1
  obtain rfl : i = 0 := by omega
  simp at hu
  subst hu
  rw [hs, Nat.mul_one, Nat.add_zero]
  exact (hx j (by omega)).1
theorem ReadAt.slice {P : Program} {α : Type} {k : Kd α} {t e : TypeId} {Q : List α → Prop} {H : Type} {enc : TypeId × Value → H} {w : World} {held : Bool} {fuel : Nat} {v : Value} {x : DataW H × List MemPlace} (hr : ReadAt P (Kd.slice e k) t Q) (h : DataW.trod enc P w 0 (fun _ => true) held fuel t [v] = some x) :
    ∃ A c l, v = .slice A l.length c ∧ l.length ≤ c ∧ k.C w A l.length l ∧ Q l := by
  obtain ⟨y, ⟨A, c, hv, hc, hC⟩, hq⟩ := hr H enc w held fuel [v] x h
  exact ⟨A, c, y, by simpa using hv, hc, hC, hq⟩
set_option maxRecDepth 100000 in
/-- What the law's condition says of the tables. -/
theorem hg_of_laid {W : World} (h : laidMetH Tryd.prog [("quietus/gf.high", Rows.laid_quietus_gf_high)] W) : XB.HG W := by
  rw [MakeChecks.laidMetH_plain _ _ _ (by kernel_rfl)] at h
  have hd : (Rows.laid_quietus_gf_high : DataW Unit) = Lib.tabData .u8 XB.tab_high := rfl
  rw [hd] at h
  have g1 : Tryd.prog.globalNamed "quietus/gf.high" = some 0 := by kernel_rfl
  have g2 : (Tryd.prog.globals[0]?).map (·.type) = some 134 := by kernel_rfl
  have g3 : Tryd.prog.cellsOf 5 = 1 := by kernel_rfl
  have g4 : Tryd.prog.cellsOf 134 = 16 := by kernel_rfl
  have hT : Lib.TabIs Tryd.prog W "quietus/gf.high" .u8 XB.tab_high := Lib.tabIs_of_head g1 g2 Tryd.underlying134 Tryd.underlying5 g3 g4 h
  refine ⟨trivial, fun i h0 h1 => ?_⟩
  have hl : XB.tab_high.length = 16 := rfl
  exact hT.cell g1 i.toNat (by omega)
/-- A code, as it comes in. -/
def CodeWf (d : Int) (l : List (List Int)) (m : Int) : Prop := (Lit.int .i64 d).wf = true ∧ (Lit.int .i64 m).wf = true ∧ l.length ≤ maxLen ∧ ∀ g ∈ l, g.length ≤ maxLen ∧ ∀ x ∈ g, (Lit.int .i64 x).wf = true
theorem readAt_groups : ReadAt Tryd.prog (Kd.slice 60 (Kd.slice 3 (Kd.int .i64))) 22 (fun l => l.length ≤ maxLen ∧ ∀ g ∈ l, g.length ≤ maxLen ∧ ∀ x ∈ g, (Lit.int .i64 x).wf = true) :=
  readAt_slice Tryd.underlying22 rfl (by kernel_rfl) (readAt_slice Tryd.underlying60 rfl (by kernel_rfl) (readAt_int Tryd.underlying3))
set_option maxRecDepth 100000 in
theorem open_code {H : Type} {enc : TypeId × Value → H} {W : World} {r : Reach} {b0 : Nat} {v : Value} {dd : DataW H} {p : List MemPlace} (hv : Value.okWide Tryd.prog W r b0 24 v) (h : DataW.Trod enc Tryd.prog W 0 (fun _ => true) true 24 v dd p) :
    ∃ d A c l m, v = .agg #[.int .i64 d, .slice A l.length c, .int .i64 m] ∧ l.length ≤ c ∧ Kd.C (Kd.slice 3 (Kd.int .i64)) W A l.length l ∧ CodeWf d l m := by
  obtain ⟨v0, v1, v2, y0, y1, y2, n, rfl, _, _, h0, h1, h2⟩ := Joins.open_agg3 Tryd.underlying24 (by kernel_rfl) (by kernel_rfl) hv h
  obtain ⟨d, hd, _, wd⟩ := DataW.trod_int Tryd.underlying3 h0
  obtain ⟨m, hm, _, wm⟩ := DataW.trod_int Tryd.underlying3 h2
  obtain ⟨A, c, l, rfl, hc, hC, hw⟩ := readAt_groups.slice h1
  obtain rfl : v0 = .int .i64 d := by simpa using hd
  obtain rfl : v2 = .int .i64 m := by simpa using hm
  exact ⟨d, A, c, l, m, rfl, hc, hC, wd, wm, hw⟩
/-- An array of numbers, as it comes in. -/
theorem open_arr {P : Program} {H : Type} {enc : TypeId × Value → H} {W : World} {r : Reach} {b0 base : Nat} {spare : Nat → Bool} {held : Bool} {v : Value} {dd : DataW H} {p : List MemPlace} {t e : TypeId} {n : Nat} {k : IntKind}
    (hu : P.underlying t = some (.array n e)) (he : P.underlying e = some (.int k)) (hc : P.cellsOf e = 1) (hC : P.cellsOf t = n) (hv : Value.okWide P W r b0 t v) (h : DataW.Trod enc P W base spare held t v dd p) :
    ∃ xs : List Int, v = .agg (xs.map (Value.int k)).toArray ∧ xs.length = n ∧ ∀ x ∈ xs, (Lit.int k x).wf = true := by
  unfold Value.okWide at hv
  rw [hu] at hv
  obtain ⟨cs, rfl, hsz, _⟩ := hv
  obtain ⟨fuel, hf⟩ := h
  obtain ⟨ys, m, _, _, hl, hys, hel⟩ := DataW.trod_array hu hf
  have hcells : Value.cells (.agg cs) = cs := rfl
  rw [hcells] at hl hel
  have hlen : cs.toList.length = n := by rw [hl, hC]
  have key : ∀ j, j ≤ n → ∃ xs : List Int, xs.length = j ∧ (∀ x ∈ xs, (Lit.int k x).wf = true) ∧ cs.toList.take j = xs.map (Value.int k) := by
    intro j
    induction j with
    | zero => exact fun _ => ⟨[], rfl, by simp, by simp⟩
    | succ j ih =>
      intro hj
      obtain ⟨xs, h1, h2, h3⟩ := ih (by omega)
      have hy := hel j (by omega)
      rw [hc, Nat.mul_one, List.getElem?_eq_getElem (by omega)] at hy
      obtain ⟨y, hy1, _, hw⟩ := DataW.trod_int he hy
      refine ⟨xs ++ [y], by simp [h1], fun z hz => ?_, ?_⟩
      · rcases List.mem_append.1 hz with hz | hz
        · exact h2 z hz
        · obtain rfl := List.mem_singleton.1 hz; exact hw
      · have hjl : j < cs.toList.length := by omega
        rw [List.take_succ_eq_append_getElem hjl, h3, List.map_append]
        rw [List.drop_eq_getElem_cons hjl, List.take_succ_cons, List.take_zero] at hy1
        simp only [List.cons.injEq, and_true] at hy1
        rw [hy1]; rfl
  obtain ⟨xs, h1, h2, h3⟩ := key n (Nat.le_refl _)
  rw [List.take_of_length_le (by omega)] at h3
  exact ⟨xs, by rw [← h3], h1, h2⟩
theorem list4 {α : Type} {xs : List α} (h : xs.length = 4) : ∃ a b c d, xs = [a, b, c, d] := by
  match xs, h with
  | [a, b, c, d], _ => exact ⟨a, b, c, d, rfl⟩
theorem wf_u32 {n : Int} (h : (Lit.int .u32 n).wf = true) : 0 ≤ n ∧ n < 4294967296 := by
  simp only [Lit.wf, Bool.and_eq_true, decide_eq_true_eq] at h
  have e1 : IntKind.u32.min = 0 := rfl
  have e2 : IntKind.u32.max = 4294967295 := rfl
  omega

theorem reps_door (os : Os) (args : Array Value) : laidMetH Tryd.prog [("quietus/gf.high", Rows.laid_quietus_gf_high)] ((World.doorLaid Tryd.prog 400 os).forCall (fun _ _ => 0) ⟨#[], args, []⟩).memory :=
  laidMetH_of_parts3 (fuel := 8) (laidMet_of_run' 8 (by kernel_rfl) (by kernel_rfl)) (by kernel_rfl) (by kernel_rfl)
theorem own : ownKnob Tryd.prog.godebug = none := by kernel_rfl
theorem laidOut : laidOutB Tryd.prog = true := by kernel_rfl
set_option maxRecDepth 100000 in
theorem reps_lifted (os : Os) (started : os.Started) (H : Type) (enc : TypeId × Value → H) :
    ReturnsInHanded {} Tryd.checked os 7 .any (fun w args => (Rows.codeRepairsLocallySpec.pre enc Tryd.prog Tryd.f7 [] false w args ∧ laidMetH Tryd.prog [("quietus/gf.high", Rows.laid_quietus_gf_high)] w) ∧ sizedMet enc Tryd.prog Tryd.f7 (OpenSpec.ofChange Rows.codeRepairsLocallySpec) false w args)
      (Rows.codeRepairsLocallySpec.post enc Tryd.prog Tryd.f7 false true false false) := by
  refine returnsInHanded_of_change_and (C := Tryd.checked) (X := fun w _ => laidMetH Tryd.prog [("quietus/gf.high", Rows.laid_quietus_gf_high)] w) (fun _ _ _ hh h => h.of_heap hh) own started (by kernel_rfl) Tryd.func7
    (ChangeSpec.witness_shaped (enc := enc) (C := Tryd.checked) (os := os) (X := fun w _ => laidMetH Tryd.prog [("quietus/gf.high", Rows.laid_quietus_gf_high)] w) false (World.doorLaid Tryd.prog 400 os) #[.agg #[.int .i64 0, .slice none 0 0, .int .i64 0], .string ⟨#[]⟩, .int .u16 0] 8 rfl (World.shaped_of_RefB (by kernel_rfl) (by kernel_rfl)) (by kernel_rfl) (by kernel_rfl) (by kernel_rfl) (reps_door os _)) ?_
  intro W base args ds gs before hval0 hW _ _ hL _
  have hval : ∀ (j : Nat) t v, Tryd.f7.params[j]? = some t → args[j]? = some v → Value.okWide Tryd.prog W .any base t v := hval0
  have hW' := hW
  obtain ⟨p, q, hA0, hV, rfl, hfz, hnd⟩ := hW
  have hA : DataW.TrodAll enc Tryd.prog W 0 (fun _ => true) true Tryd.f7.params.toList args.toList ds p := hA0
  rw [Tryd.params7] at hA hval
  obtain ⟨v0, vs0, d0, ds0, p0, q0, hargs, rfl, rfl, h0, r0⟩ := trodAll_cons hA
  obtain ⟨v1, vs1, d1, ds1, p1, q1, rfl, rfl, rfl, h1, r1⟩ := trodAll_cons r0
  obtain ⟨v2, vs2, d2, ds2, p2, q2, rfl, rfl, rfl, h2, r2⟩ := trodAll_cons r1
  obtain ⟨rfl, rfl, rfl⟩ := trodAll_nil r2
  obtain rfl : args = #[v0, v1, v2] := by cases args; simp_all
  obtain ⟨rfl, rfl⟩ := trodVars_none hV
  obtain ⟨d, A, c, l, m, rfl, hc, hC, hwf⟩ := open_code (hval 0 24 v0 rfl rfl) h0
  obtain ⟨s, rfl, rfl, rfl, hs⟩ := open_string Tryd.underlying9 (hval 1 9 v1 rfl rfl) h1
  obtain ⟨lost, rfl, rfl, rfl, hlost⟩ := open_int Tryd.underlying59 (hval 2 59 v2 rfl rfl) h2
  have hp : 0 ≤ lost ∧ lost < 65536 := by
    have hlost' := hlost
    simp only [Lit.wf, Bool.and_eq_true, decide_eq_true_eq] at hlost'
    have e1 : IntKind.u16.min = 0 := rfl
    have e2 : IntKind.u16.max = 65535 := rfl
    omega
  have lt0 : ∀ x ∈ p0, x.block < W.heap.size := by obtain ⟨m, hm⟩ := h0; exact DataW.trod_lt m _ _ _ hm
  have k0 := h0
  have hG := hg_of_laid hL
  clear hA0 hval0
  refine (reps_walk d A c l m s lost W hG hC hc (fun g hg => (hwf.2.2.2 g hg).1) hp.1 hp.2).mono fun e W' ⟨he, bel⟩ => ?_
  subst he
  exact ⟨_, rfl, _, _, _, [], _, [], hW', trodAll_mk1 (shut_bool Tryd.underlying4 _), trodAll_cons_mk (Below.trod laidOut (by kernel_rfl) (of_decide_eq_true (by kernel_rfl)) k0 bel lt0) (trodAll_cons_mk (shut_string Tryd.underlying9 hs) (trodAll_cons_mk (shut_int Tryd.underlying59 hlost) trodAll_mk0)), rfl, bel.frame _, fun h => by cases h⟩
theorem reps_row : Rows.CodeRepairsLocallySaid :=
  OpenClaim.holds_of_wide 7 Tryd.f7 rfl rfl rfl rfl rfl rfl rfl ⟨rfl, rfl, rfl, rfl, rfl⟩ rfl rfl rfl rfl rfl (by kernel_rfl) Tryd.func7 (by kernel_rfl)
    (of_decide_eq_true (by kernel_rfl)) (by unfold Func.isWrapper; first | (rw [if_pos (by decide +kernel)]; kernel_rfl) | (rw [if_neg (by decide +kernel)]; exact ⟨rfl, rfl⟩))
    (fun os started H enc _ => reps_lifted os started H enc)
theorem reps_card : Rows.CodeRepairsLocallyCardSaid :=
  Claim7.holds_tied_plain_at .later [] [.data] true (true, "26ee1f89fe273131bbf40e829b1fd0cfaf27ae8033f1ba171a01b1ea4bdb0544") false
    reps_row (fun _ h => by cases h) (by kernel_rfl) (fun _ h => by cases h) codeRepairsLocally_row_tie rfl ⟨rfl, rfl⟩ (by kernel_rfl) rfl
    (fun f fn hf hfn => by
      obtain rfl : f = 7 := Option.some.inj ((show Tryd.prog.funcNamed "quietus/quietuslaw07.CodeRepairsLocally" = some 7 by kernel_rfl).symm.trans hf) |>.symm
      obtain rfl : fn = Tryd.f7 := (Option.some.inj (Tryd.func7.symm.trans hfn)).symm
      exact ⟨by kernel_rfl, fun j t ht => by
        rw [Tryd.params7] at ht
        have hm : t ∈ [24, 9, 59] := by simpa using Array.mem_of_getElem? ht
        have hall : ([24, 9, 59].all fun u => !Tryd.prog.wantsStandIn u) = true := by kernel_rfl
        exact (show Tryd.prog.wantsStandIn t = false by simpa using List.all_eq_true.1 hall t hm)⟩)
    (by kernel_rfl)
#print axioms reps_card

end Go.Proofs.YtkadfidmfnpohaaDoor
