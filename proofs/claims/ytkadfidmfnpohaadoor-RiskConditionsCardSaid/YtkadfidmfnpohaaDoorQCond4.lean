/- Lemmas for the claim Cond: functions of the program as plain Lean functions, each with its contract, and what is proved of them. -/
import Derived.Test.YtkadfidmfnpohaaDoorQCond1
import Derived.Test.YtkadfidmfnpohaaDoorQCond2
import Derived.Test.YtkadfidmfnpohaaDoorQCond3
namespace Go.Proofs.YtkadfidmfnpohaaDoor.XB
open Go.RowKit Go.Proofs.YtkadfidmfnpohaaDoorW.PrintWords Go.Proofs.YtkadfidmfnpohaaDoorW.PrintLast Go.Proofs.YtkadfidmfnpohaaDoorW.PrintMore
set_option linter.unusedVariables false
set_option linter.unusedSimpArgs false

/-! ### risk_Millionths: function 45 -/
def risk_Millionths.f (k : Nat) (a0_0 : Int) (l0_1 : List (List Int)) (a0_2 : Int) (l0_3 : List Int) (l0_4 : List Int) : Option (Int × Int) := (risk_Loss.f k a0_0 l0_1 a0_2 l0_3 l0_4).bind fun bt279 => (if bt279.2 = 0 then (if 0 ≤ (wrap64 (4 * (l0_4.length : Int))) then (if (shl .i64 1 (wrap64 (4 * (l0_4.length : Int)))) = 0 then (none) else (some (wrap64 ((wrap64 ((wrap64 (Int.tdiv (wrap64 (bt279.1 * 1000)) (shl .i64 1 (wrap64 (4 * (l0_4.length : Int)))))) * 1000)) + (wrap64 (Int.tdiv (wrap64 ((wrap64 ((wrap64 ((Int.tmod (wrap64 (bt279.1 * 1000)) (shl .i64 1 (wrap64 (4 * (l0_4.length : Int))))) * 1000)) + (shl .i64 1 (wrap64 (4 * (l0_4.length : Int)))))) - 1)) (shl .i64 1 (wrap64 (4 * (l0_4.length : Int))))))), 0))) else (none)) else (some (0, bt279.2)))
set_option maxHeartbeats 8000000 in
set_option maxRecDepth 100000 in
theorem risk_Millionths.calls (k : Nat) (a0_0 : Int) (A0_1 : Option Addr) (c0_1 : Nat) (l0_1 : List (List Int)) (a0_2 : Int) (A0_3 : Option Addr) (c0_3 : Nat) (l0_3 : List Int) (A0_4 : Option Addr) (c0_4 : Nat) (l0_4 : List Int) (r1 : Int) (r2 : Int) (w : World) (hG : HG w) (hr0_1 : Kd.C (Kd.slice 3 (Kd.int .i64)) w A0_1 l0_1.length l0_1) (hc0_1 : l0_1.length ≤ c0_1) (hr0_3 : Kd.C (Kd.int .i64) w A0_3 l0_3.length l0_3) (hc0_3 : l0_3.length ≤ c0_3) (hr0_4 : Kd.C (Kd.int .i64) w A0_4 l0_4.length l0_4) (hc0_4 : l0_4.length ≤ c0_4) (h : risk_Millionths.f k a0_0 l0_1 a0_2 l0_3 l0_4 = some (r1, r2)) :
  Calls Tryd.prog 45 #[.agg #[.int .i64 a0_0, .slice A0_1 l0_1.length c0_1, .int .i64 a0_2, .slice A0_3 l0_3.length c0_3, .slice A0_4 l0_4.length c0_4]] w fun e w' => e = .returned (.tuple #[.int .i64 r1, .int .i64 r2]) ∧ Below w.heap.size w w' := by
 have HGw := Aside0.mk hG
 clear hG
 have hu64 := Tryd.underlying64
 have HR0_1 := Aside0.mk hr0_1
 have HC0_1 := Aside0.mk hc0_1
 clear hr0_1 hc0_1
 have HR0_3 := Aside0.mk hr0_3
 have HC0_3 := Aside0.mk hc0_3
 clear hr0_3 hc0_3
 have HR0_4 := Aside0.mk hr0_4
 have HC0_4 := Aside0.mk hc0_4
 clear hr0_4 hc0_4
 have HB := Aside0.mk (Below.refl w.heap.size w)
 have H : ((risk_Loss.f k a0_0 l0_1 a0_2 l0_3 l0_4).bind fun bt279 => (if bt279.2 = 0 then (if 0 ≤ (wrap64 (4 * (l0_4.length : Int))) then (if (shl .i64 1 (wrap64 (4 * (l0_4.length : Int)))) = 0 then (none) else (some (wrap64 ((wrap64 ((wrap64 (Int.tdiv (wrap64 (bt279.1 * 1000)) (shl .i64 1 (wrap64 (4 * (l0_4.length : Int)))))) * 1000)) + (wrap64 (Int.tdiv (wrap64 ((wrap64 ((wrap64 ((Int.tmod (wrap64 (bt279.1 * 1000)) (shl .i64 1 (wrap64 (4 * (l0_4.length : Int))))) * 1000)) + (shl .i64 1 (wrap64 (4 * (l0_4.length : Int)))))) - 1)) (shl .i64 1 (wrap64 (4 * (l0_4.length : Int))))))), 0))) else (none)) else (some (0, bt279.2)))) = some (r1, r2) := h
 clear h
 replace H := Option.bind_eq_some_iff.mp H
 obtain ⟨⟨t279, t280⟩, A20, H⟩ := H
 replace H : (if t280 = 0 then (if 0 ≤ (wrap64 (4 * (l0_4.length : Int))) then (if (shl .i64 1 (wrap64 (4 * (l0_4.length : Int)))) = 0 then (none) else (some (wrap64 ((wrap64 ((wrap64 (Int.tdiv (wrap64 (t279 * 1000)) (shl .i64 1 (wrap64 (4 * (l0_4.length : Int)))))) * 1000)) + (wrap64 (Int.tdiv (wrap64 ((wrap64 ((wrap64 ((Int.tmod (wrap64 (t279 * 1000)) (shl .i64 1 (wrap64 (4 * (l0_4.length : Int))))) * 1000)) + (shl .i64 1 (wrap64 (4 * (l0_4.length : Int)))))) - 1)) (shl .i64 1 (wrap64 (4 * (l0_4.length : Int))))))), 0))) else (none)) else (some (0, t280))) = some (r1, r2) := H
 have A2 := Aside0.mk A20
 clear A20
 by_cases c3 : t280 = 0
 ·rw [if_pos c3] at H
  have c3b0 : (t280 == 0) = true := beq_iff_eq.mpr c3
  have c3b1 : (t280 != 0) = false := bne_eq_false_iff_eq.mpr c3
  clear c3
  obtain ⟨ji4, hji4⟩ : ∃ j_ : Int, (wrap64 (4 * (l0_4.length : Int))) = j_ := ⟨_, rfl⟩
  replace H : (if 0 ≤ (ji4) then (if (shl .i64 1 (ji4)) = 0 then (none) else (some (wrap64 ((wrap64 ((wrap64 (Int.tdiv (wrap64 (t279 * 1000)) (shl .i64 1 (ji4)))) * 1000)) + (wrap64 (Int.tdiv (wrap64 ((wrap64 ((wrap64 ((Int.tmod (wrap64 (t279 * 1000)) (shl .i64 1 (ji4))) * 1000)) + (shl .i64 1 (ji4)))) - 1)) (shl .i64 1 (ji4))))), 0))) else (none)) = some (r1, r2) := by first | (rw [hji4] at H; exact H) | (simp only [hji4] at H ⊢; exact H)
  (try rw [hji4] at A2)
  have hji4w : (IntKind.i64.wrap (4 * (l0_4.length : Int))) = ji4 := (i64_w _).trans hji4
  by_cases c5 : 0 ≤ (ji4)
  ·rw [if_pos c5] at H
   have c5b0 := eq_true c5
   have c5b1 : decide (0 ≤ (ji4)) = true := decide_eq_true c5
   clear c5
   obtain ⟨ji6, hji6⟩ : ∃ j_ : Int, (shl .i64 1 (ji4)) = j_ := ⟨_, rfl⟩
   replace H : (if (ji6) = 0 then (none) else (some (wrap64 ((wrap64 ((wrap64 (Int.tdiv (wrap64 (t279 * 1000)) (ji6))) * 1000)) + (wrap64 (Int.tdiv (wrap64 ((wrap64 ((wrap64 ((Int.tmod (wrap64 (t279 * 1000)) (ji6)) * 1000)) + (ji6))) - 1)) (ji6)))), 0))) = some (r1, r2) := by first | (rw [hji6] at H; exact H) | (simp only [hji6] at H ⊢; exact H)
   (try rw [hji6] at A2)
   have hji6_ : (IntKind.i64.wrap (1 * 2 ^ min (ji4).toNat 64)) = ji6 := hji6
   have hji6z : (ji4) ≤ 64 → (IntKind.i64.wrap (1 * 2 ^ (ji4).toNat)) = ji6 := shl_small hji6
   have hji6u : (IntKind.i64.wrap (2 ^ min (ji4).toNat 64)) = ji6 := by have h_ := hji6_; rw [Int.one_mul] at h_; exact h_
   have hji6v : (ji4) ≤ 64 → (IntKind.i64.wrap (2 ^ (ji4).toNat)) = ji6 := fun hle_ => by have h_ := hji6z hle_; rw [Int.one_mul] at h_; exact h_
   have hji6y : (wrap64 (1 * 2 ^ min (ji4).toNat 64)) = ji6 := (i64_w _).symm.trans hji6_
   have hji6x : (ji4) ≤ 64 → (wrap64 (1 * 2 ^ (ji4).toNat)) = ji6 := fun h_ => (i64_w _).symm.trans (hji6z h_)
   by_cases c7 : (ji6) = 0
   ·rw [if_pos c7] at H
    exact absurd H (by simp)
   ·rw [if_neg c7] at H
    have c7b0 : ((ji6) == 0) = false := beq_eq_false_iff_ne.mpr c7
    have c7b1 : ((ji6) != 0) = true := bne_iff_ne.mpr c7
    simp only [Option.some.injEq, Prod.mk.injEq] at H
    obtain ⟨rfl, rfl⟩ := H
    go_enter Tryd.func45, Tryd.ntmps45
    go_wp2_with (first | ((with_reducible refine gate_dst (N := 1) rfl ?_); refine box_event ?hg (N := 1) ?hd (cs := #[.int .i64 a0_0, .slice A0_1 l0_1.length c0_1, .int .i64 a0_2, .slice A0_3 l0_3.length c0_3, .slice A0_4 l0_4.length c0_4]) (t := 64) ?hr ?_; (case hd => rfl); (case hg => rfl); (case hr => first | (go_simp; done) | (go_simp; rfl)); intro gb278 hg w8 hbox hb; have n0_ := Aside0.mk (below_step (by repeat (first | (with_reducible first | exact HB.out | apply below_alloc | apply pw_below_drewN | apply below_drew1) | exact HB.out)) hb); have n1_ := Aside0.mk (hbox); have n2_ := Aside0.mk ((by rw [hg]; exact (below_size (by repeat (first | (with_reducible first | exact HB.out | apply below_alloc | apply pw_below_drewN | apply below_drew1) | exact HB.out))) : w.heap.size ≤ gb278)); have n3_ := Aside0.mk ((by rw [hg]; exact (below_size (by repeat (first | (with_reducible first | exact HB.out | apply below_alloc | apply pw_below_drewN | apply below_drew1) | exact HB.out))) : w.heap.size ≤ gb278)); clear HB; have HB := n0_; have BK278 := n1_; have GW278 := n2_; have GE278 := n3_; clear n0_ n1_ n2_ n3_; clear hb hbox hg; have hcz9_0 : w8.cell? ⟨gb278, 0, none⟩ = some (.int .i64 a0_0) := (blk_cell BK278.out 0).trans rfl; have hcz9_1 : w8.cell? ⟨gb278, 1, none⟩ = some (.slice A0_1 l0_1.length c0_1) := (blk_cell BK278.out 1).trans rfl; have hcz9_2 : w8.cell? ⟨gb278, 2, none⟩ = some (.int .i64 a0_2) := (blk_cell BK278.out 2).trans rfl; have hcz9_3 : w8.cell? ⟨gb278, 3, none⟩ = some (.slice A0_3 l0_3.length c0_3) := (blk_cell BK278.out 3).trans rfl; have hcz9_4 : w8.cell? ⟨gb278, 4, none⟩ = some (.slice A0_4 l0_4.length c0_4) := (blk_cell BK278.out 4).trans rfl; have hfz9_0 := blk_frozen BK278.out 0; have hfz9_1 := blk_frozen BK278.out 1; have hfz9_2 := blk_frozen BK278.out 2; have hfz9_3 := blk_frozen BK278.out 3; have hfz9_4 := blk_frozen BK278.out 4) | (go_at_call 42; (with_reducible refine (risk_Loss.calls k a0_0 _ _ l0_1 a0_2 _ _ l0_3 _ _ l0_4 t279 t280 _ ?side1 ?side2 ?side3 ?side4 ?side5 ?side6 ?side7 A2.out).mono ?_); (case side1 => exact HG.below HGw.out (by repeat (first | (with_reducible first | exact HB.out | apply below_alloc | apply pw_below_drewN | apply below_drew1 | refine below_set ?_ GE278.out) | exact HB.out))); (case side2 => repeat (first | exact (Kd.C_below HR0_1.out HB.out) | (with_reducible refine Kd.C_alloc ?_ _) | (with_reducible refine Kd.C_drewN ?_ _) | (with_reducible refine Kd.C_drew ?_))); (case side3 => exact HC0_1.out); (case side4 => repeat (first | exact (Kd.C_below HR0_3.out HB.out) | (with_reducible refine Kd.C_alloc ?_ _) | (with_reducible refine Kd.C_drewN ?_ _) | (with_reducible refine Kd.C_drew ?_))); (case side5 => exact HC0_3.out); (case side6 => repeat (first | exact (Kd.C_below HR0_4.out HB.out) | (with_reducible refine Kd.C_alloc ?_ _) | (with_reducible refine Kd.C_drewN ?_ _) | (with_reducible refine Kd.C_drew ?_))); (case side7 => exact HC0_4.out); rintro e w10 ⟨rfl, hb⟩; have n0_ := Aside0.mk (blk_below (g := gb278) (o := .cells #[.int .i64 a0_0, .slice A0_1 l0_1.length c0_1, .int .i64 a0_2, .slice A0_3 l0_3.length c0_3, .slice A0_4 l0_4.length c0_4] 64 (0, 0)) (by (with_reducible repeat (first | refine blk_drewN ?_ _ | refine blk_drew ?_ | refine blk_alloc ?_ _)); exact BK278.out) hb); have n1_ := Aside0.mk (below_step (by repeat (first | (with_reducible first | exact HB.out | apply below_alloc | apply pw_below_drewN | apply below_drew1 | refine below_set ?_ GE278.out) | exact HB.out)) hb); clear BK278; clear HB; have BK278 := n0_; have HB := n1_; clear n0_ n1_; (try clear hb); (try clear hb2); (try clear hk); (try clear hi); have hcz11_0 : w10.cell? ⟨gb278, 0, none⟩ = some (.int .i64 a0_0) := (blk_cell BK278.out 0).trans rfl; have hcz11_1 : w10.cell? ⟨gb278, 1, none⟩ = some (.slice A0_1 l0_1.length c0_1) := (blk_cell BK278.out 1).trans rfl; have hcz11_2 : w10.cell? ⟨gb278, 2, none⟩ = some (.int .i64 a0_2) := (blk_cell BK278.out 2).trans rfl; have hcz11_3 : w10.cell? ⟨gb278, 3, none⟩ = some (.slice A0_3 l0_3.length c0_3) := (blk_cell BK278.out 3).trans rfl; have hcz11_4 : w10.cell? ⟨gb278, 4, none⟩ = some (.slice A0_4 l0_4.length c0_4) := (blk_cell BK278.out 4).trans rfl; have hfz11_0 := blk_frozen BK278.out 0; have hfz11_1 := blk_frozen BK278.out 1; have hfz11_2 := blk_frozen BK278.out 2; have hfz11_3 := blk_frozen BK278.out 3; have hfz11_4 := blk_frozen BK278.out 4))
    repeat (go_quiet (first | ((with_reducible refine gate_dst (N := 1) rfl ?_); refine box_event ?hg (N := 1) ?hd (cs := #[.int .i64 a0_0, .slice A0_1 l0_1.length c0_1, .int .i64 a0_2, .slice A0_3 l0_3.length c0_3, .slice A0_4 l0_4.length c0_4]) (t := 64) ?hr ?_; (case hd => rfl); (case hg => rfl); (case hr => first | (go_simp; done) | (go_simp; rfl)); intro gb278 hg w8 hbox hb; have n0_ := Aside0.mk (below_step (by repeat (first | (with_reducible first | exact HB.out | apply below_alloc | apply pw_below_drewN | apply below_drew1) | exact HB.out)) hb); have n1_ := Aside0.mk (hbox); have n2_ := Aside0.mk ((by rw [hg]; exact (below_size (by repeat (first | (with_reducible first | exact HB.out | apply below_alloc | apply pw_below_drewN | apply below_drew1) | exact HB.out))) : w.heap.size ≤ gb278)); have n3_ := Aside0.mk ((by rw [hg]; exact (below_size (by repeat (first | (with_reducible first | exact HB.out | apply below_alloc | apply pw_below_drewN | apply below_drew1) | exact HB.out))) : w.heap.size ≤ gb278)); clear HB; have HB := n0_; have BK278 := n1_; have GW278 := n2_; have GE278 := n3_; clear n0_ n1_ n2_ n3_; clear hb hbox hg; have hcz9_0 : w8.cell? ⟨gb278, 0, none⟩ = some (.int .i64 a0_0) := (blk_cell BK278.out 0).trans rfl; have hcz9_1 : w8.cell? ⟨gb278, 1, none⟩ = some (.slice A0_1 l0_1.length c0_1) := (blk_cell BK278.out 1).trans rfl; have hcz9_2 : w8.cell? ⟨gb278, 2, none⟩ = some (.int .i64 a0_2) := (blk_cell BK278.out 2).trans rfl; have hcz9_3 : w8.cell? ⟨gb278, 3, none⟩ = some (.slice A0_3 l0_3.length c0_3) := (blk_cell BK278.out 3).trans rfl; have hcz9_4 : w8.cell? ⟨gb278, 4, none⟩ = some (.slice A0_4 l0_4.length c0_4) := (blk_cell BK278.out 4).trans rfl; have hfz9_0 := blk_frozen BK278.out 0; have hfz9_1 := blk_frozen BK278.out 1; have hfz9_2 := blk_frozen BK278.out 2; have hfz9_3 := blk_frozen BK278.out 3; have hfz9_4 := blk_frozen BK278.out 4) | (go_at_call 42; (with_reducible refine (risk_Loss.calls k a0_0 _ _ l0_1 a0_2 _ _ l0_3 _ _ l0_4 t279 t280 _ ?side1 ?side2 ?side3 ?side4 ?side5 ?side6 ?side7 A2.out).mono ?_); (case side1 => exact HG.below HGw.out (by repeat (first | (with_reducible first | exact HB.out | apply below_alloc | apply pw_below_drewN | apply below_drew1 | refine below_set ?_ GE278.out) | exact HB.out))); (case side2 => repeat (first | exact (Kd.C_below HR0_1.out HB.out) | (with_reducible refine Kd.C_alloc ?_ _) | (with_reducible refine Kd.C_drewN ?_ _) | (with_reducible refine Kd.C_drew ?_))); (case side3 => exact HC0_1.out); (case side4 => repeat (first | exact (Kd.C_below HR0_3.out HB.out) | (with_reducible refine Kd.C_alloc ?_ _) | (with_reducible refine Kd.C_drewN ?_ _) | (with_reducible refine Kd.C_drew ?_))); (case side5 => exact HC0_3.out); (case side6 => repeat (first | exact (Kd.C_below HR0_4.out HB.out) | (with_reducible refine Kd.C_alloc ?_ _) | (with_reducible refine Kd.C_drewN ?_ _) | (with_reducible refine Kd.C_drew ?_))); (case side7 => exact HC0_4.out); rintro e w10 ⟨rfl, hb⟩; have n0_ := Aside0.mk (blk_below (g := gb278) (o := .cells #[.int .i64 a0_0, .slice A0_1 l0_1.length c0_1, .int .i64 a0_2, .slice A0_3 l0_3.length c0_3, .slice A0_4 l0_4.length c0_4] 64 (0, 0)) (by (with_reducible repeat (first | refine blk_drewN ?_ _ | refine blk_drew ?_ | refine blk_alloc ?_ _)); exact BK278.out) hb); have n1_ := Aside0.mk (below_step (by repeat (first | (with_reducible first | exact HB.out | apply below_alloc | apply pw_below_drewN | apply below_drew1 | refine below_set ?_ GE278.out) | exact HB.out)) hb); clear BK278; clear HB; have BK278 := n0_; have HB := n1_; clear n0_ n1_; (try clear hb); (try clear hb2); (try clear hk); (try clear hi); have hcz11_0 : w10.cell? ⟨gb278, 0, none⟩ = some (.int .i64 a0_0) := (blk_cell BK278.out 0).trans rfl; have hcz11_1 : w10.cell? ⟨gb278, 1, none⟩ = some (.slice A0_1 l0_1.length c0_1) := (blk_cell BK278.out 1).trans rfl; have hcz11_2 : w10.cell? ⟨gb278, 2, none⟩ = some (.int .i64 a0_2) := (blk_cell BK278.out 2).trans rfl; have hcz11_3 : w10.cell? ⟨gb278, 3, none⟩ = some (.slice A0_3 l0_3.length c0_3) := (blk_cell BK278.out 3).trans rfl; have hcz11_4 : w10.cell? ⟨gb278, 4, none⟩ = some (.slice A0_4 l0_4.length c0_4) := (blk_cell BK278.out 4).trans rfl; have hfz11_0 := blk_frozen BK278.out 0; have hfz11_1 := blk_frozen BK278.out 1; have hfz11_2 := blk_frozen BK278.out 2; have hfz11_3 := blk_frozen BK278.out 3; have hfz11_4 := blk_frozen BK278.out 4)); try go_wp2_with (first | ((with_reducible refine gate_dst (N := 1) rfl ?_); refine box_event ?hg (N := 1) ?hd (cs := #[.int .i64 a0_0, .slice A0_1 l0_1.length c0_1, .int .i64 a0_2, .slice A0_3 l0_3.length c0_3, .slice A0_4 l0_4.length c0_4]) (t := 64) ?hr ?_; (case hd => rfl); (case hg => rfl); (case hr => first | (go_simp; done) | (go_simp; rfl)); intro gb278 hg w8 hbox hb; have n0_ := Aside0.mk (below_step (by repeat (first | (with_reducible first | exact HB.out | apply below_alloc | apply pw_below_drewN | apply below_drew1) | exact HB.out)) hb); have n1_ := Aside0.mk (hbox); have n2_ := Aside0.mk ((by rw [hg]; exact (below_size (by repeat (first | (with_reducible first | exact HB.out | apply below_alloc | apply pw_below_drewN | apply below_drew1) | exact HB.out))) : w.heap.size ≤ gb278)); have n3_ := Aside0.mk ((by rw [hg]; exact (below_size (by repeat (first | (with_reducible first | exact HB.out | apply below_alloc | apply pw_below_drewN | apply below_drew1) | exact HB.out))) : w.heap.size ≤ gb278)); clear HB; have HB := n0_; have BK278 := n1_; have GW278 := n2_; have GE278 := n3_; clear n0_ n1_ n2_ n3_; clear hb hbox hg; have hcz9_0 : w8.cell? ⟨gb278, 0, none⟩ = some (.int .i64 a0_0) := (blk_cell BK278.out 0).trans rfl; have hcz9_1 : w8.cell? ⟨gb278, 1, none⟩ = some (.slice A0_1 l0_1.length c0_1) := (blk_cell BK278.out 1).trans rfl; have hcz9_2 : w8.cell? ⟨gb278, 2, none⟩ = some (.int .i64 a0_2) := (blk_cell BK278.out 2).trans rfl; have hcz9_3 : w8.cell? ⟨gb278, 3, none⟩ = some (.slice A0_3 l0_3.length c0_3) := (blk_cell BK278.out 3).trans rfl; have hcz9_4 : w8.cell? ⟨gb278, 4, none⟩ = some (.slice A0_4 l0_4.length c0_4) := (blk_cell BK278.out 4).trans rfl; have hfz9_0 := blk_frozen BK278.out 0; have hfz9_1 := blk_frozen BK278.out 1; have hfz9_2 := blk_frozen BK278.out 2; have hfz9_3 := blk_frozen BK278.out 3; have hfz9_4 := blk_frozen BK278.out 4) | (go_at_call 42; (with_reducible refine (risk_Loss.calls k a0_0 _ _ l0_1 a0_2 _ _ l0_3 _ _ l0_4 t279 t280 _ ?side1 ?side2 ?side3 ?side4 ?side5 ?side6 ?side7 A2.out).mono ?_); (case side1 => exact HG.below HGw.out (by repeat (first | (with_reducible first | exact HB.out | apply below_alloc | apply pw_below_drewN | apply below_drew1 | refine below_set ?_ GE278.out) | exact HB.out))); (case side2 => repeat (first | exact (Kd.C_below HR0_1.out HB.out) | (with_reducible refine Kd.C_alloc ?_ _) | (with_reducible refine Kd.C_drewN ?_ _) | (with_reducible refine Kd.C_drew ?_))); (case side3 => exact HC0_1.out); (case side4 => repeat (first | exact (Kd.C_below HR0_3.out HB.out) | (with_reducible refine Kd.C_alloc ?_ _) | (with_reducible refine Kd.C_drewN ?_ _) | (with_reducible refine Kd.C_drew ?_))); (case side5 => exact HC0_3.out); (case side6 => repeat (first | exact (Kd.C_below HR0_4.out HB.out) | (with_reducible refine Kd.C_alloc ?_ _) | (with_reducible refine Kd.C_drewN ?_ _) | (with_reducible refine Kd.C_drew ?_))); (case side7 => exact HC0_4.out); rintro e w10 ⟨rfl, hb⟩; have n0_ := Aside0.mk (blk_below (g := gb278) (o := .cells #[.int .i64 a0_0, .slice A0_1 l0_1.length c0_1, .int .i64 a0_2, .slice A0_3 l0_3.length c0_3, .slice A0_4 l0_4.length c0_4] 64 (0, 0)) (by (with_reducible repeat (first | refine blk_drewN ?_ _ | refine blk_drew ?_ | refine blk_alloc ?_ _)); exact BK278.out) hb); have n1_ := Aside0.mk (below_step (by repeat (first | (with_reducible first | exact HB.out | apply below_alloc | apply pw_below_drewN | apply below_drew1 | refine below_set ?_ GE278.out) | exact HB.out)) hb); clear BK278; clear HB; have BK278 := n0_; have HB := n1_; clear n0_ n1_; (try clear hb); (try clear hb2); (try clear hk); (try clear hi); have hcz11_0 : w10.cell? ⟨gb278, 0, none⟩ = some (.int .i64 a0_0) := (blk_cell BK278.out 0).trans rfl; have hcz11_1 : w10.cell? ⟨gb278, 1, none⟩ = some (.slice A0_1 l0_1.length c0_1) := (blk_cell BK278.out 1).trans rfl; have hcz11_2 : w10.cell? ⟨gb278, 2, none⟩ = some (.int .i64 a0_2) := (blk_cell BK278.out 2).trans rfl; have hcz11_3 : w10.cell? ⟨gb278, 3, none⟩ = some (.slice A0_3 l0_3.length c0_3) := (blk_cell BK278.out 3).trans rfl; have hcz11_4 : w10.cell? ⟨gb278, 4, none⟩ = some (.slice A0_4 l0_4.length c0_4) := (blk_cell BK278.out 4).trans rfl; have hfz11_0 := blk_frozen BK278.out 0; have hfz11_1 := blk_frozen BK278.out 1; have hfz11_2 := blk_frozen BK278.out 2; have hfz11_3 := blk_frozen BK278.out 3; have hfz11_4 := blk_frozen BK278.out 4)))
    go_ret2
    exact ⟨by first | rfl | (simp [errW_none, errW_some] <;> rfl) | (simp only [← hji4, ← hji6]; first | rfl | (simp [errW_none, errW_some] <;> rfl)) | (simp [*, errW_none, errW_some] <;> rfl), by repeat (first | (with_reducible first | exact HB.out | apply below_alloc | apply pw_below_drewN | apply below_drew1 | refine below_set ?_ GE278.out) | exact HB.out)⟩
  ·rw [if_neg c5] at H
   exact absurd H (by simp)
 ·rw [if_neg c3] at H
  have c3b0 : (t280 == 0) = false := beq_eq_false_iff_ne.mpr c3
  have c3b1 : (t280 != 0) = true := bne_iff_ne.mpr c3
  simp only [Option.some.injEq, Prod.mk.injEq] at H
  obtain ⟨rfl, rfl⟩ := H
  go_enter Tryd.func45, Tryd.ntmps45
  go_wp2_with (first | ((with_reducible refine gate_dst (N := 1) rfl ?_); refine box_event ?hg (N := 1) ?hd (cs := #[.int .i64 a0_0, .slice A0_1 l0_1.length c0_1, .int .i64 a0_2, .slice A0_3 l0_3.length c0_3, .slice A0_4 l0_4.length c0_4]) (t := 64) ?hr ?_; (case hd => rfl); (case hg => rfl); (case hr => first | (go_simp; done) | (go_simp; rfl)); intro gb278 hg w12 hbox hb; have n0_ := Aside0.mk (below_step (by repeat (first | (with_reducible first | exact HB.out | apply below_alloc | apply pw_below_drewN | apply below_drew1) | exact HB.out)) hb); have n1_ := Aside0.mk (hbox); have n2_ := Aside0.mk ((by rw [hg]; exact (below_size (by repeat (first | (with_reducible first | exact HB.out | apply below_alloc | apply pw_below_drewN | apply below_drew1) | exact HB.out))) : w.heap.size ≤ gb278)); have n3_ := Aside0.mk ((by rw [hg]; exact (below_size (by repeat (first | (with_reducible first | exact HB.out | apply below_alloc | apply pw_below_drewN | apply below_drew1) | exact HB.out))) : w.heap.size ≤ gb278)); clear HB; have HB := n0_; have BK278 := n1_; have GW278 := n2_; have GE278 := n3_; clear n0_ n1_ n2_ n3_; clear hb hbox hg; have hcz13_0 : w12.cell? ⟨gb278, 0, none⟩ = some (.int .i64 a0_0) := (blk_cell BK278.out 0).trans rfl; have hcz13_1 : w12.cell? ⟨gb278, 1, none⟩ = some (.slice A0_1 l0_1.length c0_1) := (blk_cell BK278.out 1).trans rfl; have hcz13_2 : w12.cell? ⟨gb278, 2, none⟩ = some (.int .i64 a0_2) := (blk_cell BK278.out 2).trans rfl; have hcz13_3 : w12.cell? ⟨gb278, 3, none⟩ = some (.slice A0_3 l0_3.length c0_3) := (blk_cell BK278.out 3).trans rfl; have hcz13_4 : w12.cell? ⟨gb278, 4, none⟩ = some (.slice A0_4 l0_4.length c0_4) := (blk_cell BK278.out 4).trans rfl; have hfz13_0 := blk_frozen BK278.out 0; have hfz13_1 := blk_frozen BK278.out 1; have hfz13_2 := blk_frozen BK278.out 2; have hfz13_3 := blk_frozen BK278.out 3; have hfz13_4 := blk_frozen BK278.out 4) | (go_at_call 42; (with_reducible refine (risk_Loss.calls k a0_0 _ _ l0_1 a0_2 _ _ l0_3 _ _ l0_4 t279 t280 _ ?side1 ?side2 ?side3 ?side4 ?side5 ?side6 ?side7 A2.out).mono ?_); (case side1 => exact HG.below HGw.out (by repeat (first | (with_reducible first | exact HB.out | apply below_alloc | apply pw_below_drewN | apply below_drew1 | refine below_set ?_ GE278.out) | exact HB.out))); (case side2 => repeat (first | exact (Kd.C_below HR0_1.out HB.out) | (with_reducible refine Kd.C_alloc ?_ _) | (with_reducible refine Kd.C_drewN ?_ _) | (with_reducible refine Kd.C_drew ?_))); (case side3 => exact HC0_1.out); (case side4 => repeat (first | exact (Kd.C_below HR0_3.out HB.out) | (with_reducible refine Kd.C_alloc ?_ _) | (with_reducible refine Kd.C_drewN ?_ _) | (with_reducible refine Kd.C_drew ?_))); (case side5 => exact HC0_3.out); (case side6 => repeat (first | exact (Kd.C_below HR0_4.out HB.out) | (with_reducible refine Kd.C_alloc ?_ _) | (with_reducible refine Kd.C_drewN ?_ _) | (with_reducible refine Kd.C_drew ?_))); (case side7 => exact HC0_4.out); rintro e w14 ⟨rfl, hb⟩; have n0_ := Aside0.mk (blk_below (g := gb278) (o := .cells #[.int .i64 a0_0, .slice A0_1 l0_1.length c0_1, .int .i64 a0_2, .slice A0_3 l0_3.length c0_3, .slice A0_4 l0_4.length c0_4] 64 (0, 0)) (by (with_reducible repeat (first | refine blk_drewN ?_ _ | refine blk_drew ?_ | refine blk_alloc ?_ _)); exact BK278.out) hb); have n1_ := Aside0.mk (below_step (by repeat (first | (with_reducible first | exact HB.out | apply below_alloc | apply pw_below_drewN | apply below_drew1 | refine below_set ?_ GE278.out) | exact HB.out)) hb); clear BK278; clear HB; have BK278 := n0_; have HB := n1_; clear n0_ n1_; (try clear hb); (try clear hb2); (try clear hk); (try clear hi)))
  repeat (go_quiet (first | ((with_reducible refine gate_dst (N := 1) rfl ?_); refine box_event ?hg (N := 1) ?hd (cs := #[.int .i64 a0_0, .slice A0_1 l0_1.length c0_1, .int .i64 a0_2, .slice A0_3 l0_3.length c0_3, .slice A0_4 l0_4.length c0_4]) (t := 64) ?hr ?_; (case hd => rfl); (case hg => rfl); (case hr => first | (go_simp; done) | (go_simp; rfl)); intro gb278 hg w12 hbox hb; have n0_ := Aside0.mk (below_step (by repeat (first | (with_reducible first | exact HB.out | apply below_alloc | apply pw_below_drewN | apply below_drew1) | exact HB.out)) hb); have n1_ := Aside0.mk (hbox); have n2_ := Aside0.mk ((by rw [hg]; exact (below_size (by repeat (first | (with_reducible first | exact HB.out | apply below_alloc | apply pw_below_drewN | apply below_drew1) | exact HB.out))) : w.heap.size ≤ gb278)); have n3_ := Aside0.mk ((by rw [hg]; exact (below_size (by repeat (first | (with_reducible first | exact HB.out | apply below_alloc | apply pw_below_drewN | apply below_drew1) | exact HB.out))) : w.heap.size ≤ gb278)); clear HB; have HB := n0_; have BK278 := n1_; have GW278 := n2_; have GE278 := n3_; clear n0_ n1_ n2_ n3_; clear hb hbox hg; have hcz13_0 : w12.cell? ⟨gb278, 0, none⟩ = some (.int .i64 a0_0) := (blk_cell BK278.out 0).trans rfl; have hcz13_1 : w12.cell? ⟨gb278, 1, none⟩ = some (.slice A0_1 l0_1.length c0_1) := (blk_cell BK278.out 1).trans rfl; have hcz13_2 : w12.cell? ⟨gb278, 2, none⟩ = some (.int .i64 a0_2) := (blk_cell BK278.out 2).trans rfl; have hcz13_3 : w12.cell? ⟨gb278, 3, none⟩ = some (.slice A0_3 l0_3.length c0_3) := (blk_cell BK278.out 3).trans rfl; have hcz13_4 : w12.cell? ⟨gb278, 4, none⟩ = some (.slice A0_4 l0_4.length c0_4) := (blk_cell BK278.out 4).trans rfl; have hfz13_0 := blk_frozen BK278.out 0; have hfz13_1 := blk_frozen BK278.out 1; have hfz13_2 := blk_frozen BK278.out 2; have hfz13_3 := blk_frozen BK278.out 3; have hfz13_4 := blk_frozen BK278.out 4) | (go_at_call 42; (with_reducible refine (risk_Loss.calls k a0_0 _ _ l0_1 a0_2 _ _ l0_3 _ _ l0_4 t279 t280 _ ?side1 ?side2 ?side3 ?side4 ?side5 ?side6 ?side7 A2.out).mono ?_); (case side1 => exact HG.below HGw.out (by repeat (first | (with_reducible first | exact HB.out | apply below_alloc | apply pw_below_drewN | apply below_drew1 | refine below_set ?_ GE278.out) | exact HB.out))); (case side2 => repeat (first | exact (Kd.C_below HR0_1.out HB.out) | (with_reducible refine Kd.C_alloc ?_ _) | (with_reducible refine Kd.C_drewN ?_ _) | (with_reducible refine Kd.C_drew ?_))); (case side3 => exact HC0_1.out); (case side4 => repeat (first | exact (Kd.C_below HR0_3.out HB.out) | (with_reducible refine Kd.C_alloc ?_ _) | (with_reducible refine Kd.C_drewN ?_ _) | (with_reducible refine Kd.C_drew ?_))); (case side5 => exact HC0_3.out); (case side6 => repeat (first | exact (Kd.C_below HR0_4.out HB.out) | (with_reducible refine Kd.C_alloc ?_ _) | (with_reducible refine Kd.C_drewN ?_ _) | (with_reducible refine Kd.C_drew ?_))); (case side7 => exact HC0_4.out); rintro e w14 ⟨rfl, hb⟩; have n0_ := Aside0.mk (blk_below (g := gb278) (o := .cells #[.int .i64 a0_0, .slice A0_1 l0_1.length c0_1, .int .i64 a0_2, .slice A0_3 l0_3.length c0_3, .slice A0_4 l0_4.length c0_4] 64 (0, 0)) (by (with_reducible repeat (first | refine blk_drewN ?_ _ | refine blk_drew ?_ | refine blk_alloc ?_ _)); exact BK278.out) hb); have n1_ := Aside0.mk (below_step (by repeat (first | (with_reducible first | exact HB.out | apply below_alloc | apply pw_below_drewN | apply below_drew1 | refine below_set ?_ GE278.out) | exact HB.out)) hb); clear BK278; clear HB; have BK278 := n0_; have HB := n1_; clear n0_ n1_; (try clear hb); (try clear hb2); (try clear hk); (try clear hi))); try go_wp2_with (first | ((with_reducible refine gate_dst (N := 1) rfl ?_); refine box_event ?hg (N := 1) ?hd (cs := #[.int .i64 a0_0, .slice A0_1 l0_1.length c0_1, .int .i64 a0_2, .slice A0_3 l0_3.length c0_3, .slice A0_4 l0_4.length c0_4]) (t := 64) ?hr ?_; (case hd => rfl); (case hg => rfl); (case hr => first | (go_simp; done) | (go_simp; rfl)); intro gb278 hg w12 hbox hb; have n0_ := Aside0.mk (below_step (by repeat (first | (with_reducible first | exact HB.out | apply below_alloc | apply pw_below_drewN | apply below_drew1) | exact HB.out)) hb); have n1_ := Aside0.mk (hbox); have n2_ := Aside0.mk ((by rw [hg]; exact (below_size (by repeat (first | (with_reducible first | exact HB.out | apply below_alloc | apply pw_below_drewN | apply below_drew1) | exact HB.out))) : w.heap.size ≤ gb278)); have n3_ := Aside0.mk ((by rw [hg]; exact (below_size (by repeat (first | (with_reducible first | exact HB.out | apply below_alloc | apply pw_below_drewN | apply below_drew1) | exact HB.out))) : w.heap.size ≤ gb278)); clear HB; have HB := n0_; have BK278 := n1_; have GW278 := n2_; have GE278 := n3_; clear n0_ n1_ n2_ n3_; clear hb hbox hg; have hcz13_0 : w12.cell? ⟨gb278, 0, none⟩ = some (.int .i64 a0_0) := (blk_cell BK278.out 0).trans rfl; have hcz13_1 : w12.cell? ⟨gb278, 1, none⟩ = some (.slice A0_1 l0_1.length c0_1) := (blk_cell BK278.out 1).trans rfl; have hcz13_2 : w12.cell? ⟨gb278, 2, none⟩ = some (.int .i64 a0_2) := (blk_cell BK278.out 2).trans rfl; have hcz13_3 : w12.cell? ⟨gb278, 3, none⟩ = some (.slice A0_3 l0_3.length c0_3) := (blk_cell BK278.out 3).trans rfl; have hcz13_4 : w12.cell? ⟨gb278, 4, none⟩ = some (.slice A0_4 l0_4.length c0_4) := (blk_cell BK278.out 4).trans rfl; have hfz13_0 := blk_frozen BK278.out 0; have hfz13_1 := blk_frozen BK278.out 1; have hfz13_2 := blk_frozen BK278.out 2; have hfz13_3 := blk_frozen BK278.out 3; have hfz13_4 := blk_frozen BK278.out 4) | (go_at_call 42; (with_reducible refine (risk_Loss.calls k a0_0 _ _ l0_1 a0_2 _ _ l0_3 _ _ l0_4 t279 t280 _ ?side1 ?side2 ?side3 ?side4 ?side5 ?side6 ?side7 A2.out).mono ?_); (case side1 => exact HG.below HGw.out (by repeat (first | (with_reducible first | exact HB.out | apply below_alloc | apply pw_below_drewN | apply below_drew1 | refine below_set ?_ GE278.out) | exact HB.out))); (case side2 => repeat (first | exact (Kd.C_below HR0_1.out HB.out) | (with_reducible refine Kd.C_alloc ?_ _) | (with_reducible refine Kd.C_drewN ?_ _) | (with_reducible refine Kd.C_drew ?_))); (case side3 => exact HC0_1.out); (case side4 => repeat (first | exact (Kd.C_below HR0_3.out HB.out) | (with_reducible refine Kd.C_alloc ?_ _) | (with_reducible refine Kd.C_drewN ?_ _) | (with_reducible refine Kd.C_drew ?_))); (case side5 => exact HC0_3.out); (case side6 => repeat (first | exact (Kd.C_below HR0_4.out HB.out) | (with_reducible refine Kd.C_alloc ?_ _) | (with_reducible refine Kd.C_drewN ?_ _) | (with_reducible refine Kd.C_drew ?_))); (case side7 => exact HC0_4.out); rintro e w14 ⟨rfl, hb⟩; have n0_ := Aside0.mk (blk_below (g := gb278) (o := .cells #[.int .i64 a0_0, .slice A0_1 l0_1.length c0_1, .int .i64 a0_2, .slice A0_3 l0_3.length c0_3, .slice A0_4 l0_4.length c0_4] 64 (0, 0)) (by (with_reducible repeat (first | refine blk_drewN ?_ _ | refine blk_drew ?_ | refine blk_alloc ?_ _)); exact BK278.out) hb); have n1_ := Aside0.mk (below_step (by repeat (first | (with_reducible first | exact HB.out | apply below_alloc | apply pw_below_drewN | apply below_drew1 | refine below_set ?_ GE278.out) | exact HB.out)) hb); clear BK278; clear HB; have BK278 := n0_; have HB := n1_; clear n0_ n1_; (try clear hb); (try clear hb2); (try clear hk); (try clear hi))))
  go_ret2
  exact ⟨by first | rfl | (simp [errW_none, errW_some] <;> rfl) | (simp [*, errW_none, errW_some] <;> rfl), by repeat (first | (with_reducible first | exact HB.out | apply below_alloc | apply pw_below_drewN | apply below_drew1 | refine below_set ?_ GE278.out) | exact HB.out)⟩


/-! ### quietuslaw12_example: function 76 -/
def quietuslaw12_example.f  : Option (Int × (List (List Int)) × Int × List Int × List Int) := some (2, ([] : List (List Int)), 1, (([0, 1, 2] : List Int)), (([1, 2, 4] : List Int)))
set_option maxHeartbeats 8000000 in
set_option maxRecDepth 100000 in
theorem quietuslaw12_example.calls  (r1 : Int) (r2 : List (List Int)) (r3 : Int) (r4 : List Int) (r5 : List Int) (w : World) (hG : HG w) (h : quietuslaw12_example.f  = some (r1, r2, r3, r4, r5)) :
  Calls Tryd.prog 76 #[] w fun e w' => ∃ v1_ v3_ v4_ : Value, e = .returned (.agg #[.int .i64 r1, v1_, .int .i64 r3, v3_, v4_]) ∧ Kd.S (Kd.slice 3 (Kd.int .i64)) 60 w' w.heap.size (fun k_ => some k_ ≠ (v3_ : Value).ownBlock ∧ some k_ ≠ (v4_ : Value).ownBlock) v1_ r2 ∧ Kd.R (Kd.int .i64) 3 w' w.heap.size (fun k_ => some k_ ≠ (v4_ : Value).ownBlock) v3_ r4 ∧ Kd.R (Kd.int .i64) 3 w' w.heap.size (fun k_ => some k_ ≠ (v3_ : Value).ownBlock) v4_ r5 ∧ Below w.heap.size w w' := by
 have HGw := Aside0.mk hG
 clear hG
 have hu64 := Tryd.underlying64
 have hu24 := Tryd.underlying24
 have HB := Aside0.mk (Below.refl w.heap.size w)
 have H : (some (2, ([] : List (List Int)), 1, (([0, 1, 2] : List Int)), (([1, 2, 4] : List Int)))) = some (r1, r2, r3, r4, r5) := h
 clear h
 obtain ⟨y282, hy282⟩ : ∃ y_ : List Int, y_ = (([0, 1, 2] : List Int)) := ⟨_, rfl⟩
 replace H : (some (2, ([] : List (List Int)), 1, y282, (([1, 2, 4] : List Int)))) = some (r1, r2, r3, r4, r5) := by first | (rw [hy282]; with_reducible exact H) | (have H2_ := (Option.bind_some _ _).symm.trans H; rw [hy282]; with_reducible exact H2_) | (have H2_ := (Option.bind_some _ _).symm.trans H; with_reducible exact H2_) | with_reducible exact H | (rw [hy282]; exact H) | exact H
 have Ny282 := Aside0.mk hy282
 clear hy282
 obtain ⟨y285, hy285⟩ : ∃ y_ : List Int, y_ = (([1, 2, 4] : List Int)) := ⟨_, rfl⟩
 replace H : (some (2, ([] : List (List Int)), 1, y282, y285)) = some (r1, r2, r3, r4, r5) := by first | (rw [hy285]; with_reducible exact H) | (have H2_ := (Option.bind_some _ _).symm.trans H; rw [hy285]; with_reducible exact H2_) | (have H2_ := (Option.bind_some _ _).symm.trans H; with_reducible exact H2_) | with_reducible exact H | (rw [hy285]; exact H) | exact H
 have Ny285 := Aside0.mk hy285
 clear hy285
 simp only [Option.some.injEq, Prod.mk.injEq] at H
 obtain ⟨rfl, rfl, rfl, rfl, rfl⟩ := H
 go_enter Tryd.func76, Tryd.ntmps76
 go_wp2_with (first | ((with_reducible refine gate_dst (N := 0) rfl ?_); refine box_event ?hg (N := 0) ?hd (cs := #[.int .i64 0, .slice none 0 0, .int .i64 0, .slice none 0 0, .slice none 0 0]) (t := 64) ?hr ?_; (case hd => rfl); (case hg => rfl); (case hr => first | (go_simp; done) | (go_simp; rfl)); intro gb281 hg w1 hbox hb; have n0_ := Aside0.mk (below_step (by repeat (first | (with_reducible first | exact HB.out | apply below_alloc | apply pw_below_drewN | apply below_drew1) | exact HB.out)) hb); have n1_ := Aside0.mk (hbox); have n2_ := Aside0.mk ((by rw [hg]; exact (below_size (by repeat (first | (with_reducible first | exact HB.out | apply below_alloc | apply pw_below_drewN | apply below_drew1) | exact HB.out))) : w.heap.size ≤ gb281)); have n3_ := Aside0.mk ((by rw [hg]; exact (below_size (by repeat (first | (with_reducible first | exact HB.out | apply below_alloc | apply pw_below_drewN | apply below_drew1) | exact HB.out))) : w.heap.size ≤ gb281)); clear HB; have HB := n0_; have BK281 := n1_; have GW281 := n2_; have GE281 := n3_; clear n0_ n1_ n2_ n3_; clear hb hbox hg) | ((with_reducible refine gate_dst (N := 2) rfl ?_); refine Kd.R_lit (Kd.int .i64) _ 3 ?hg (N := 2) ?hd (xs := ([0, 1, 2] : List Int)) (inner := [.int .i64 0, .int .i64 1, .int .i64 2]) (ok := fun _ => True) (okp := fun _ => True) ?hr ?hp (fun _ hk => hk) trivial (Below.refl _ _) (Nat.le_refl _) (by simp) ?_; (case hd => rfl); (case hg => rfl); (case hr => first | (go_simp; done) | (go_simp; rfl)); (case hp => exact (Reps.one (show Kd.M (Kd.int .i64) _ _ _ 0 [.int .i64 0] from rfl) (Reps.one (show Kd.M (Kd.int .i64) _ _ _ 1 [.int .i64 1] from rfl) (Reps.one (show Kd.M (Kd.int .i64) _ _ _ 2 [.int .i64 2] from rfl) (Reps.none _ _))))); intro v283 w2 ho3 hb hg_ hnew_; clear hg_ hnew_; (first | rw [← Ny282.out] at ho3 | (simp only [Int.reduceToNat] at ho3; rw [← Ny282.out] at ho3)); have n0_ := Aside0.mk (Kd.R_lower ho3 (below_size (by repeat (first | (with_reducible first | exact HB.out | apply below_alloc | apply pw_below_drewN | apply below_drew1 | refine below_set ?_ GE281.out) | exact HB.out)))); have n1_ := Aside0.mk (blk_below (g := gb281) (o := .cells #[.int .i64 0, .slice none 0 0, .int .i64 0, .slice none 0 0, .slice none 0 0] 64 (0, 0)) (by (with_reducible repeat (first | refine blk_drewN ?_ _ | refine blk_drew ?_ | refine blk_alloc ?_ _)); exact BK281.out) hb); have n2_ := Aside0.mk (below_step (by repeat (first | (with_reducible first | exact HB.out | apply below_alloc | apply pw_below_drewN | apply below_drew1 | refine below_set ?_ GE281.out) | exact HB.out)) hb); clear BK281; clear HB; have HO284 := n0_; have BK281 := n1_; have HB := n2_; clear n0_ n1_ n2_; clear hb ho3) | ((with_reducible refine gate_dst (N := 3) rfl ?_); refine Kd.R_lit (Kd.int .i64) _ 3 ?hg (N := 3) ?hd (xs := ([1, 2, 4] : List Int)) (inner := [.int .i64 1, .int .i64 2, .int .i64 4]) (ok := fun _ => True) (okp := fun _ => True) ?hr ?hp (fun _ hk => hk) trivial (Below.refl _ _) (Nat.le_refl _) (by simp) ?_; (case hd => rfl); (case hg => rfl); (case hr => first | (go_simp; done) | (go_simp; rfl)); (case hp => exact (Reps.one (show Kd.M (Kd.int .i64) _ _ _ 1 [.int .i64 1] from rfl) (Reps.one (show Kd.M (Kd.int .i64) _ _ _ 2 [.int .i64 2] from rfl) (Reps.one (show Kd.M (Kd.int .i64) _ _ _ 4 [.int .i64 4] from rfl) (Reps.none _ _))))); intro v286 w4 ho5 hb hg_ hnew_; clear hg_ hnew_; (first | rw [← Ny285.out] at ho5 | (simp only [Int.reduceToNat] at ho5; rw [← Ny285.out] at ho5)); have n0_ := Aside0.mk (Kd.R_elder' (by (with_reducible repeat (first | apply Kd.R_alloc | apply Kd.R_drewN | apply Kd.R_drew)); exact HO284.out) (Kd.R_base ho5) hb); have n1_ := Aside0.mk (Kd.R_lower (Kd.R_new' ho5 (Kd.R_lt (by (with_reducible repeat (first | apply Kd.R_alloc | apply Kd.R_drewN | apply Kd.R_drew)); exact HO284.out))) (below_size (by repeat (first | (with_reducible first | exact HB.out | apply below_alloc | apply pw_below_drewN | apply below_drew1 | refine below_set ?_ GE281.out) | exact HB.out)))); have n2_ := Aside0.mk (blk_below (g := gb281) (o := .cells #[.int .i64 0, .slice none 0 0, .int .i64 0, .slice none 0 0, .slice none 0 0] 64 (0, 0)) (by (with_reducible repeat (first | refine blk_drewN ?_ _ | refine blk_drew ?_ | refine blk_alloc ?_ _)); exact BK281.out) hb); have n3_ := Aside0.mk (below_step (by repeat (first | (with_reducible first | exact HB.out | apply below_alloc | apply pw_below_drewN | apply below_drew1 | refine below_set ?_ GE281.out) | exact HB.out)) hb); clear HO284; clear BK281; clear HB; have HO284 := n0_; have HO287 := n1_; have BK281 := n2_; have HB := n3_; clear n0_ n1_ n2_ n3_; clear hb ho5; obtain ⟨Ao6, co6, eo6⟩ := Kd.R_slice HO287.out; subst eo6; obtain ⟨Ao7, co7, eo7⟩ := Kd.R_slice HO284.out; subst eo7; have hcz8_0 : w4.cell? ⟨gb281, 0, none⟩ = some (.int .i64 0) := (blk_cell BK281.out 0).trans rfl; have hcz8_1 : w4.cell? ⟨gb281, 1, none⟩ = some (.slice none 0 0) := (blk_cell BK281.out 1).trans rfl; have hcz8_2 : w4.cell? ⟨gb281, 2, none⟩ = some (.int .i64 0) := (blk_cell BK281.out 2).trans rfl; have hcz8_3 : w4.cell? ⟨gb281, 3, none⟩ = some (.slice none 0 0) := (blk_cell BK281.out 3).trans rfl; have hcz8_4 : w4.cell? ⟨gb281, 4, none⟩ = some (.slice none 0 0) := (blk_cell BK281.out 4).trans rfl; have hfz8_0 := blk_frozen BK281.out 0; have hfz8_1 := blk_frozen BK281.out 1; have hfz8_2 := blk_frozen BK281.out 2; have hfz8_3 := blk_frozen BK281.out 3; have hfz8_4 := blk_frozen BK281.out 4))
 refine bodyPost_ret (results_cell_row rfl _ _ gb281 64 #[.int .i64 2, .slice none 0 0, .int .i64 1, .slice Ao7 y282.length co7, .slice Ao6 y285.length co6] (0, 0) _ rfl (by (with_reducible repeat (first | refine blk_drewN ?_ _ | refine blk_drew ?_ | refine blk_alloc ?_ _)); refine blk_put (cs := #[.int .i64 2, .slice none 0 0, .int .i64 1, .slice Ao7 y282.length co7, .slice none 0 0]) ?_ 4 _ rfl; (with_reducible repeat (first | refine blk_drewN ?_ _ | refine blk_drew ?_ | refine blk_alloc ?_ _)); refine blk_put (cs := #[.int .i64 2, .slice none 0 0, .int .i64 1, .slice none 0 0, .slice none 0 0]) ?_ 3 _ rfl; (with_reducible repeat (first | refine blk_drewN ?_ _ | refine blk_drew ?_ | refine blk_alloc ?_ _)); refine blk_put (cs := #[.int .i64 2, .slice none 0 0, .int .i64 0, .slice none 0 0, .slice none 0 0]) ?_ 2 _ rfl; (with_reducible repeat (first | refine blk_drewN ?_ _ | refine blk_drew ?_ | refine blk_alloc ?_ _)); refine blk_put (cs := #[.int .i64 2, .slice none 0 0, .int .i64 0, .slice none 0 0, .slice none 0 0]) ?_ 1 _ rfl; (with_reducible repeat (first | refine blk_drewN ?_ _ | refine blk_drew ?_ | refine blk_alloc ?_ _)); refine blk_put (cs := #[.int .i64 0, .slice none 0 0, .int .i64 0, .slice none 0 0, .slice none 0 0]) ?_ 0 _ rfl; (with_reducible repeat (first | refine blk_drewN ?_ _ | refine blk_drew ?_ | refine blk_alloc ?_ _)); exact BK281.out) Tryd.underlying64 rfl (by kernel_rfl)) rfl ?_
 exact ⟨_, _, _, by first | rfl | (simp [errW_none, errW_some] <;> rfl) | (simp [*, errW_none, errW_some] <;> rfl), by first | exact Kd.S_nil _ _ _ _ _ | exact Kd.N_nil _ _ _ _ _ | exact Kd.V_nil _ _ _ _ _ | exact Kd.Q_nil _ _ _ _ _ | exact Kd.R_nil _ _ _ _ _, by (with_reducible repeat (first | apply Kd.R_alloc | apply Kd.R_drewN | apply Kd.R_drew)); exact Kd.R_mono (Kd.R_far (p := ⟨gb281, 4, none⟩) (Kd.R_far (p := ⟨gb281, 3, none⟩) (Kd.R_far (p := ⟨gb281, 2, none⟩) (Kd.R_far (p := ⟨gb281, 1, none⟩) (Kd.R_far (p := ⟨gb281, 0, none⟩) (Kd.R_types HO284.out BK281.out (by decide)) (fun _ hk => hk.2) (.int .i64 2)) (fun _ hk => hk.2) (.slice none 0 0)) (fun _ hk => hk.2) (.int .i64 1)) (fun _ hk => hk.2) (.slice Ao7 y282.length co7)) (fun _ hk => hk.2) (.slice Ao6 y285.length co6)) (fun _ hk => hk.1.2), by (with_reducible repeat (first | apply Kd.R_alloc | apply Kd.R_drewN | apply Kd.R_drew)); exact Kd.R_mono (Kd.R_far (p := ⟨gb281, 4, none⟩) (Kd.R_far (p := ⟨gb281, 3, none⟩) (Kd.R_far (p := ⟨gb281, 2, none⟩) (Kd.R_far (p := ⟨gb281, 1, none⟩) (Kd.R_far (p := ⟨gb281, 0, none⟩) (Kd.R_types HO287.out BK281.out (by decide)) (fun _ hk => hk.2) (.int .i64 2)) (fun _ hk => hk.2) (.slice none 0 0)) (fun _ hk => hk.2) (.int .i64 1)) (fun _ hk => hk.2) (.slice Ao7 y282.length co7)) (fun _ hk => hk.2) (.slice Ao6 y285.length co6)) (fun _ hk => hk.1.2), by repeat (first | (with_reducible first | exact HB.out | apply below_alloc | apply pw_below_drewN | apply below_drew1 | refine below_set ?_ GE281.out) | exact HB.out)⟩


/-! ### code_Distance: function 32 -/
section
open Go.Shelf
attribute [local go_sem] Oper.semAt_some
theorem blk_keep_ {w : World} {g : Nat} {o : Obj} (h : w.heap[g]? = some o) (g2 : Nat) (hne : g ≠ g2) (j : Nat) (u : Value) : (w.setCell ⟨g2, j, none⟩ u).heap[g]? = some o := (Below.heap_setCell w ⟨g2, j, none⟩ u g hne).trans h
theorem blk_new1 (w : World) (o o' : Obj) : ((w.alloc o).alloc o').heap[w.heap.size + 1]? = some o' := by
 have := blk_new (w.alloc o) o'
 rwa [World.size_alloc] at this
/-- The marks of loops over functions that have run, as a function leaves. -/
def Marks (B : Nat) (Ds : List Nat) (W : World) : Prop := Ds.Nodup ∧ ∀ D, D ∈ Ds → B ≤ D ∧ W.heap[D]? = some (.deferred (some []))
theorem Marks.keep {B N : Nat} {Ds : List Nat} {W W' : World} (h : Marks B Ds W) (hb : Below N W W') (hl : ∀ D, D ∈ Ds → D < N) : Marks B Ds W' := ⟨h.1, fun D hd => ⟨(h.2 D hd).1, (hb.block D (hl D hd)).trans (h.2 D hd).2⟩⟩
theorem Marks.set {B : Nat} {Ds : List Nat} {W : World} (h : Marks B Ds W) (g : Nat) (hg : g < B) (j : Nat) (u : Value) : Marks B Ds (W.setCell ⟨g, j, none⟩ u) := ⟨h.1, fun D hd => ⟨(h.2 D hd).1, blk_keep_ (h.2 D hd).2 g (by have := (h.2 D hd).1; omega) j u⟩⟩
/-- What lies at the end: the two results. -/
def DistEnd (Bd Be : Nat) (x y : Int) (w W : World) : Prop := W.cell? ⟨Bd, 0, none⟩ = some (.int .i64 x) ∧ W.cell? ⟨Be, 0, none⟩ = some (.int .i64 y) ∧ Below w.heap.size w W
theorem DistEnd.put {Bd Be : Nat} {x y : Int} {w : World} (B : Nat) (hB : w.heap.size ≤ B) (W : World) (D : Nat) (h : DistEnd Bd Be x y w W) (hD : B ≤ D) (hd : W.heap[D]? = some (.deferred (some []))) : DistEnd Bd Be x y w (W.putObj D (.deferred none)) := by
 obtain ⟨h1, h2, h3⟩ := h
 exact ⟨cell_kept h1 (grownBy_putObj' W D _) (fun r e => by cases e; exact ⟨_, hd, rfl⟩), cell_kept h2 (grownBy_putObj' W D _) (fun r e => by cases e; exact ⟨_, hd, rfl⟩), h3.trans (belowK_b (w := w) (Nat.le_refl _) W D _ _ (Nat.le_trans hB hD) hd rfl rfl)⟩
end


/-! ### slices_Clone_int_int: function 82 -/
def slices_Clone_int_int.f (l0 : List Int) : Option (List Int) := if l0.length ≤ 1000000 then some l0 else none
set_option maxHeartbeats 4000000 in
set_option maxRecDepth 100000 in
theorem slices_Clone_int_int.calls (A0 : Option Addr) (c0 : Nat) (l0 : List Int) (r : List Int) (w : World) (hG : HG w) (hr0 : Kd.C (Kd.int .i64) w A0 l0.length l0) (hc0 : l0.length ≤ c0) (h : slices_Clone_int_int.f l0 = some r) :
  Calls Tryd.prog 82 #[.slice A0 l0.length c0] w fun e w' => ∃ v0_ : Value, e = .returned (v0_) ∧ Kd.R (Kd.int .i64) 3 w' w.heap.size (fun _ => True) v0_ r ∧ Below w.heap.size w w' := by
 unfold slices_Clone_int_int.f at h
 by_cases hl : l0.length ≤ 1000000
 ·rw [if_pos hl] at h
  obtain rfl := Option.some.inj h
  have HC := Aside0.mk hr0
  have hnn : ∀ (a : Option Addr) (l c : Nat) (w : World), (binOp .eql 60 (.slice a l c) (.slice none 0 0)).run Tryd.prog w = .ok (.bool a.isNone) w := by
   intro a l c w
   have h1 : (Op.equal 60 (.slice a l c) (.slice none 0 0)).run Tryd.prog w = .ok a.isNone w := equalIn_nil Tryd.prog 60 3 Tryd.underlying60 9999 a l c w
   simp only [binOp, Sem.run_bind, h1, Result.andThen_ok, Sem.run_pure]
  clear h hG hr0
  cases A0 with
  | none =>
   have hz : l0 = [] := by
    cases l0 with
    | nil => rfl
    | cons x t =>
     obtain ⟨_, e, _⟩ := at_int_nat HC.out 0 (by simp)
     cases e
   subst hz
   go_enter Tryd.func82, Tryd.ntmps82
   go_wp2
   go_ret
   exact ⟨_, rfl, Kd.R_nil _ _ _ _ _, Below.refl _ _⟩
  | some ad =>
   go_enter Tryd.func82, Tryd.ntmps82
   go_wp2_with (at_builtin; refine Kd.R_append_row (Value.int .i64) (0 : Int) (h1 := fun _ => rfl) (w0 := w) w.heap.size rfl (.tmp 5) (.tmp 6) 60 3 (.int .i64 0) 8 rfl Tryd.underlying60 info3 rfl (by decide) _ [] l0 (some ad) l0.length c0 (fun _ => True) rfl rfl (fun _ _ => trivial) ?uB1 ?uB2 ?uB3 ?uB4 ?uB5 ?_; (case uB1 => exact Kd.R_mono (arr_own (k := .i64) (xs := []) (blk_new w _) (Nat.le_refl _) (by simp) 0 rfl) (fun _ _ => trivial)); (case uB2 => exact Kd.C_below HC.out (below_alloc (Below.refl _ _) _)); (case uB3 => exact (below_alloc (Below.refl _ _) _)); (case uB4 => (rw [World.size_alloc]; omega)); (case uB5 => (simp; omega)); intro v1 w1 ho hb hg hat; rw [List.nil_append] at ho; have HO := Aside0.mk ho; have HB1 := Aside0.mk hb; clear ho hb hg hat)
   go_ret
   exact ⟨_, rfl, HO.out, HB1.out⟩
 ·rw [if_neg hl] at h; cases h


/-! ### risk_Given: function 53 -/
set_option maxHeartbeats 4000000 in
set_option maxRecDepth 100000 in
theorem risk_Given.calls (k : Nat) (a0_0 : Int) (A0_1 : Option Addr) (c0_1 : Nat) (l0_1 : List (List Int)) (a0_2 : Int) (A0_3 : Option Addr) (c0_3 : Nat) (l0_3 : List Int) (A0_4 : Option Addr) (c0_4 : Nat) (l0_4 : List Int) (n : Nat) (fails : Bool) (w : World) (hG : HG w) (hr0_1 : Kd.C (Kd.slice 3 (Kd.int .i64)) w A0_1 l0_1.length l0_1) (hc0_1 : l0_1.length ≤ c0_1) (hr0_3 : Kd.C (Kd.int .i64) w A0_3 l0_3.length l0_3) (hc0_3 : l0_3.length ≤ c0_3) (hr0_4 : Kd.C (Kd.int .i64) w A0_4 l0_4.length l0_4) (hc0_4 : l0_4.length ≤ c0_4) (hn : n < l0_4.length) (hl : l0_4.length ≤ 1000) (h : risk_Check.f k a0_0 l0_1 a0_2 l0_3 l0_4 = some 0) :
  Calls Tryd.prog 53 #[.agg #[.int .i64 a0_0, .slice A0_1 l0_1.length c0_1, .int .i64 a0_2, .slice A0_3 l0_3.length c0_3, .slice A0_4 l0_4.length c0_4], .int .i64 (n : Int), .bool fails] w fun e w' => ∃ g cp, e = .returned (.tuple #[.agg #[.int .i64 a0_0, .slice A0_1 l0_1.length c0_1, .int .i64 a0_2, .slice A0_3 l0_3.length c0_3, .slice (some ⟨g, 0, none⟩) l0_4.length cp], .int .i64 0]) ∧ Kd.R (Kd.int .i64) 3 w' w.heap.size (fun _ => True) (.slice (some ⟨g, 0, none⟩) l0_4.length cp) (l0_4.set n (if fails = true then 16 else 0)) ∧ Below w.heap.size w w' := by
 have HK := Aside0.mk (show PerilAt w.heap.size a0_0 A0_1 c0_1 l0_1 a0_2 A0_3 c0_3 l0_3 A0_4 c0_4 l0_4 ((w.alloc (.cells #[.int .i64 a0_0, .slice A0_1 l0_1.length c0_1, .int .i64 a0_2, .slice A0_3 l0_3.length c0_3, .slice A0_4 l0_4.length c0_4] 64)).alloc (.cells #[.int .i64 0, .slice none 0 0, .int .i64 0, .slice none 0 0, .slice none 0 0] 64)) from PerilAt.below (W := w.alloc (.cells #[.int .i64 a0_0, .slice A0_1 l0_1.length c0_1, .int .i64 a0_2, .slice A0_3 l0_3.length c0_3, .slice A0_4 l0_4.length c0_4] 64)) ⟨blk_new _ _, hc0_1, Kd.C_alloc hr0_1 _, hc0_3, Kd.C_alloc hr0_3 _, hc0_4, Kd.C_alloc hr0_4 _, hG.alloc _⟩ (below_alloc (Below.refl _ _) _))
 have HO := Aside0.mk (show ((w.alloc (.cells #[.int .i64 a0_0, .slice A0_1 l0_1.length c0_1, .int .i64 a0_2, .slice A0_3 l0_3.length c0_3, .slice A0_4 l0_4.length c0_4] 64)).alloc (.cells #[.int .i64 0, .slice none 0 0, .int .i64 0, .slice none 0 0, .slice none 0 0] 64)).heap[w.heap.size + 1]? = some (.cells #[.int .i64 0, .slice none 0 0, .int .i64 0, .slice none 0 0, .slice none 0 0] 64 (0, 0)) from blk_new1 _ _ _)
 have HB := Aside0.mk (show Below w.heap.size w ((w.alloc (.cells #[.int .i64 a0_0, .slice A0_1 l0_1.length c0_1, .int .i64 a0_2, .slice A0_3 l0_3.length c0_3, .slice A0_4 l0_4.length c0_4] 64)).alloc (.cells #[.int .i64 0, .slice none 0 0, .int .i64 0, .slice none 0 0, .slice none 0 0] 64)) from below_alloc (below_alloc (Below.refl _ _) _) _)
 have hu64 := Tryd.underlying64
 have hu24 := Tryd.underlying24
 have HE := Aside0.mk h
 have hy0 := HK.out.c0
 have hy1 := HK.out.c1
 have hy2 := HK.out.c2
 have hy3 := HK.out.c3
 have hy4 := HK.out.c4
 have ho0 := blk_cell HO.out 0
 have ho1 := blk_cell HO.out 1
 have ho2 := blk_cell HO.out 2
 have ho3 := blk_cell HO.out 3
 have ho4 := blk_cell HO.out 4
 have hf0 := blk_frozen HO.out 0
 have hf1 := blk_frozen HO.out 1
 have hf2 := blk_frozen HO.out 2
 have hf3 := blk_frozen HO.out 3
 have hf4 := blk_frozen HO.out 4
 have hg4 := blk_frozen HK.out.1 4
 clear hG hr0_1 hc0_1 hr0_3 hc0_3 hr0_4 hc0_4 h
 have HCLN := Aside0.mk (show slices_Clone_int_int.f l0_4 = some l0_4 by unfold slices_Clone_int_int.f; exact if_pos (by omega))
 have b1 : decide ((n : Int) < 0) = false := decide_eq_false (by omega)
 have b2 : decide ((l0_4.length : Int) ≤ (n : Int)) = false := decide_eq_false (by omega)
 have b3 : decide (l0_4.length ≤ n) = false := decide_eq_false (by omega)
 go_enter Tryd.func53, Tryd.ntmps53
 go_upto_region 6 with (first | (go_at_call 50; (with_reducible refine (HK.out.check HE.out).mono ?_); rintro e w1 ⟨rfl, hb⟩; have HKn := Aside0.mk (HK.out.below hb); have HBn := Aside0.mk (below_step HB.out hb); have HOn := Aside0.mk (blk_below HO.out hb); clear HK HB HO hy0 hy1 hy2 hy3 hy4 ho0 ho1 ho2 ho3 ho4 hf0 hf1 hf2 hf3 hf4 hg4 hb; have HK := HKn; have HB := HBn; have HO := HOn; clear HKn HBn HOn; have hy0 := HK.out.c0; have hy1 := HK.out.c1; have hy2 := HK.out.c2; have hy3 := HK.out.c3; have hy4 := HK.out.c4; have ho0 := blk_cell HO.out 0; have ho1 := blk_cell HO.out 1; have ho2 := blk_cell HO.out 2; have ho3 := blk_cell HO.out 3; have ho4 := blk_cell HO.out 4; have hf0 := blk_frozen HO.out 0; have hf1 := blk_frozen HO.out 1; have hf2 := blk_frozen HO.out 2; have hf3 := blk_frozen HO.out 3; have hf4 := blk_frozen HO.out 4; have hg4 := blk_frozen HK.out.1 4))
 have HS1 := Aside0.mk (show w.heap.size + 1 < w1.heap.size from blk_lt HO.out)
 have HLOW := Aside0.mk HB.out.size
 go_upto_region 7 with (first | (go_at_call 82; (with_reducible refine (slices_Clone_int_int.calls A0_4 c0_4 l0_4 l0_4 _ HK.out.hg HK.out.hch HK.out.hcc HCLN.out).mono ?_); rintro e w1 ⟨v4, rfl, hR, hb⟩; obtain ⟨g4, c4, rfl, hgb, hgl, _⟩ := Kd.R_form hR (by omega); have HGB := Aside0.mk hgb; have HR := Aside0.mk hR; clear hR hgb hgl; have HKn := Aside0.mk (HK.out.below hb); have HBn := Aside0.mk (below_step HB.out hb); have HOn := Aside0.mk (blk_below HO.out hb); clear HK HB HO hy0 hy1 hy2 hy3 hy4 ho0 ho1 ho2 ho3 ho4 hf0 hf1 hf2 hf3 hf4 hg4 hb; have HK := HKn; have HB := HBn; have HO := HOn; clear HKn HBn HOn; have hy0 := HK.out.c0; have hy1 := HK.out.c1; have hy2 := HK.out.c2; have hy3 := HK.out.c3; have hy4 := HK.out.c4; have ho0 := blk_cell HO.out 0; have ho1 := blk_cell HO.out 1; have ho2 := blk_cell HO.out 2; have ho3 := blk_cell HO.out 3; have ho4 := blk_cell HO.out 4; have hf0 := blk_frozen HO.out 0; have hf1 := blk_frozen HO.out 1; have hf2 := blk_frozen HO.out 2; have hf3 := blk_frozen HO.out 3; have hf4 := blk_frozen HO.out 4; have hg4 := blk_frozen HK.out.1 4))
 have hgb : w.heap.size + 1 < g4 := Nat.lt_of_lt_of_le HS1.out HGB.out
 have HR2 := Aside0.mk (Kd.R_set HR.out HK.out.1 (by decide) 4 (.slice (some ⟨g4, 0, none⟩) l0_4.length c4))
 have HP2 := Aside0.mk (blk_set HK.out.1 4 (.slice (some ⟨g4, 0, none⟩) l0_4.length c4))
 have HO2 := Aside0.mk (blk_far HO.out (p := ⟨w.heap.size, 4, none⟩) (by show w.heap.size + 1 ≠ w.heap.size; omega) (.slice (some ⟨g4, 0, none⟩) l0_4.length c4))
 have HB2 := Aside0.mk (below_set (j := 4) (v := .slice (some ⟨g4, 0, none⟩) l0_4.length c4) HB.out (Nat.le_refl _))
 clear HK HB HO HR hy0 hy1 hy2 hy3 hy4 ho0 ho1 ho2 ho3 ho4 hf0 hf1 hf2 hf3 hf4 hg4 HGB HS1
 generalize w1.setCell ⟨w.heap.size, 4, none⟩ (.slice (some ⟨g4, 0, none⟩) l0_4.length c4) = w2 at *
 have hy4 : w2.cell? ⟨w.heap.size, 4, none⟩ = some (.slice (some ⟨g4, 0, none⟩) l0_4.length c4) := blk_cell HP2.out 4
 obtain ⟨hom, hfz⟩ := Kd.R_celln (0 : Int) HR2.out ((n : Nat) : Int) (by omega) (by omega)
 rw [Int.toNat_natCast] at hom hfz
 go_upto_region 8 with fail
 have HR3 := Aside0.mk (Kd.R_putn HR2.out ((n : Nat) : Int) (0 : Int))
 rw [Int.toNat_natCast] at HR3
 have HP3 := Aside0.mk (blk_far HP2.out (p := ⟨g4, n, none⟩) (by show w.heap.size ≠ g4; omega) (.int .i64 (0)))
 have HO3 := Aside0.mk (blk_far HO2.out (p := ⟨g4, n, none⟩) (by show w.heap.size + 1 ≠ g4; omega) (.int .i64 (0)))
 have HB3 := Aside0.mk (below_set (j := n) (v := .int .i64 (0)) HB2.out (show w.heap.size ≤ g4 by omega))
 clear HR2 HP2 HO2 HB2 hy4 hom hfz
 generalize w2.setCell ⟨g4, n, none⟩ (.int .i64 (0)) = w3 at *
 have hy4 : w3.cell? ⟨w.heap.size, 4, none⟩ = some (.slice (some ⟨g4, 0, none⟩) l0_4.length c4) := blk_cell HP3.out 4
 obtain ⟨hom, hfz⟩ := Kd.R_celln (0 : Int) HR3.out ((n : Nat) : Int) (by omega) (by omega)
 rw [Int.toNat_natCast] at hom hfz
 cases fails with
 | true =>
  go_upto_region 10 with fail
  have HR4 := Aside0.mk (Kd.R_putn HR3.out ((n : Nat) : Int) (16 : Int))
  rw [Int.toNat_natCast] at HR4
  have HP4 := Aside0.mk (blk_far HP3.out (p := ⟨g4, n, none⟩) (by show w.heap.size ≠ g4; omega) (.int .i64 (16)))
  have HO4 := Aside0.mk (blk_far HO3.out (p := ⟨g4, n, none⟩) (by show w.heap.size + 1 ≠ g4; omega) (.int .i64 (16)))
  have HB4 := Aside0.mk (below_set (j := n) (v := .int .i64 (16)) HB3.out (show w.heap.size ≤ g4 by omega))
  clear HR3 HP3 HO3 HB3 hy4 hom hfz
  generalize w3.setCell ⟨g4, n, none⟩ (.int .i64 (16)) = w4 at *
  have hy0 : w4.cell? ⟨w.heap.size, 0, none⟩ = some (.int .i64 a0_0) := blk_cell HP4.out 0
  have hy1 : w4.cell? ⟨w.heap.size, 1, none⟩ = some (.slice A0_1 l0_1.length c0_1) := blk_cell HP4.out 1
  have hy2 : w4.cell? ⟨w.heap.size, 2, none⟩ = some (.int .i64 a0_2) := blk_cell HP4.out 2
  have hy3 : w4.cell? ⟨w.heap.size, 3, none⟩ = some (.slice A0_3 l0_3.length c0_3) := blk_cell HP4.out 3
  have hy4 : w4.cell? ⟨w.heap.size, 4, none⟩ = some (.slice (some ⟨g4, 0, none⟩) l0_4.length c4) := blk_cell HP4.out 4
  have ho0 := blk_cell HO4.out 0
  have ho1 := blk_cell HO4.out 1
  have ho2 := blk_cell HO4.out 2
  have ho3 := blk_cell HO4.out 3
  have ho4 := blk_cell HO4.out 4
  have hf0 := blk_frozen HO4.out 0
  have hf1 := blk_frozen HO4.out 1
  have hf2 := blk_frozen HO4.out 2
  have hf3 := blk_frozen HO4.out 3
  have hf4 := blk_frozen HO4.out 4
  go_wp2
  refine bodyPost_ret (results_ct rfl _ _ (w.heap.size + 1) 64 #[.int .i64 a0_0, .slice A0_1 l0_1.length c0_1, .int .i64 a0_2, .slice A0_3 l0_3.length c0_3, .slice (some ⟨g4, 0, none⟩) l0_4.length c4] (0, 0) _ rfl (by refine blk_put (cs := #[.int .i64 a0_0, .slice A0_1 l0_1.length c0_1, .int .i64 a0_2, .slice A0_3 l0_3.length c0_3, .slice none 0 0]) ?_ 4 _ rfl; refine blk_put (cs := #[.int .i64 a0_0, .slice A0_1 l0_1.length c0_1, .int .i64 a0_2, .slice none 0 0, .slice none 0 0]) ?_ 3 _ rfl; refine blk_put (cs := #[.int .i64 a0_0, .slice A0_1 l0_1.length c0_1, .int .i64 0, .slice none 0 0, .slice none 0 0]) ?_ 2 _ rfl; refine blk_put (cs := #[.int .i64 a0_0, .slice none 0 0, .int .i64 0, .slice none 0 0, .slice none 0 0]) ?_ 1 _ rfl; refine blk_put (cs := #[.int .i64 0, .slice none 0 0, .int .i64 0, .slice none 0 0, .slice none 0 0]) ?_ 0 _ rfl; exact HO4.out) Tryd.underlying64 rfl (by kernel_rfl)) rfl ?_
  have hok : ∀ k_, some k_ = (Value.slice (some ⟨g4, 0, none⟩) l0_4.length c4).ownBlock → k_ ≠ w.heap.size + 1 := fun k_ hk_ => by (have h5 : k_ = g4 := (by simpa [Value.ownBlock] using hk_)); omega
  have hrl := Kd.R_lower (Kd.R_tight rfl HR4.out) HLOW.out
  rw [List.set_set] at hrl
  exact ⟨g4, c4, rfl, Kd.R_mono (Kd.R_far (p := ⟨w.heap.size + 1, 4, none⟩) (Kd.R_far (p := ⟨w.heap.size + 1, 3, none⟩) (Kd.R_far (p := ⟨w.heap.size + 1, 2, none⟩) (Kd.R_far (p := ⟨w.heap.size + 1, 1, none⟩) (Kd.R_far (p := ⟨w.heap.size + 1, 0, none⟩) hrl hok _) hok _) hok _) hok _) hok _) (fun _ _ => trivial), below_set (below_set (below_set (below_set (below_set HB4.out (by omega)) (by omega)) (by omega)) (by omega)) (by omega)⟩
 | false =>
  clear hom hfz hy4
  have hy0 : w3.cell? ⟨w.heap.size, 0, none⟩ = some (.int .i64 a0_0) := blk_cell HP3.out 0
  have hy1 : w3.cell? ⟨w.heap.size, 1, none⟩ = some (.slice A0_1 l0_1.length c0_1) := blk_cell HP3.out 1
  have hy2 : w3.cell? ⟨w.heap.size, 2, none⟩ = some (.int .i64 a0_2) := blk_cell HP3.out 2
  have hy3 : w3.cell? ⟨w.heap.size, 3, none⟩ = some (.slice A0_3 l0_3.length c0_3) := blk_cell HP3.out 3
  have hy4 : w3.cell? ⟨w.heap.size, 4, none⟩ = some (.slice (some ⟨g4, 0, none⟩) l0_4.length c4) := blk_cell HP3.out 4
  have ho0 := blk_cell HO3.out 0
  have ho1 := blk_cell HO3.out 1
  have ho2 := blk_cell HO3.out 2
  have ho3 := blk_cell HO3.out 3
  have ho4 := blk_cell HO3.out 4
  have hf0 := blk_frozen HO3.out 0
  have hf1 := blk_frozen HO3.out 1
  have hf2 := blk_frozen HO3.out 2
  have hf3 := blk_frozen HO3.out 3
  have hf4 := blk_frozen HO3.out 4
  go_wp2
  refine bodyPost_ret (results_ct rfl _ _ (w.heap.size + 1) 64 #[.int .i64 a0_0, .slice A0_1 l0_1.length c0_1, .int .i64 a0_2, .slice A0_3 l0_3.length c0_3, .slice (some ⟨g4, 0, none⟩) l0_4.length c4] (0, 0) _ rfl (by refine blk_put (cs := #[.int .i64 a0_0, .slice A0_1 l0_1.length c0_1, .int .i64 a0_2, .slice A0_3 l0_3.length c0_3, .slice none 0 0]) ?_ 4 _ rfl; refine blk_put (cs := #[.int .i64 a0_0, .slice A0_1 l0_1.length c0_1, .int .i64 a0_2, .slice none 0 0, .slice none 0 0]) ?_ 3 _ rfl; refine blk_put (cs := #[.int .i64 a0_0, .slice A0_1 l0_1.length c0_1, .int .i64 0, .slice none 0 0, .slice none 0 0]) ?_ 2 _ rfl; refine blk_put (cs := #[.int .i64 a0_0, .slice none 0 0, .int .i64 0, .slice none 0 0, .slice none 0 0]) ?_ 1 _ rfl; refine blk_put (cs := #[.int .i64 0, .slice none 0 0, .int .i64 0, .slice none 0 0, .slice none 0 0]) ?_ 0 _ rfl; exact HO3.out) Tryd.underlying64 rfl (by kernel_rfl)) rfl ?_
  have hok : ∀ k_, some k_ = (Value.slice (some ⟨g4, 0, none⟩) l0_4.length c4).ownBlock → k_ ≠ w.heap.size + 1 := fun k_ hk_ => by (have h5 : k_ = g4 := (by simpa [Value.ownBlock] using hk_)); omega
  have hrl := Kd.R_lower (Kd.R_tight rfl HR3.out) HLOW.out
  exact ⟨g4, c4, rfl, Kd.R_mono (Kd.R_far (p := ⟨w.heap.size + 1, 4, none⟩) (Kd.R_far (p := ⟨w.heap.size + 1, 3, none⟩) (Kd.R_far (p := ⟨w.heap.size + 1, 2, none⟩) (Kd.R_far (p := ⟨w.heap.size + 1, 1, none⟩) (Kd.R_far (p := ⟨w.heap.size + 1, 0, none⟩) hrl hok _) hok _) hok _) hok _) hok _) (fun _ _ => trivial), below_set (below_set (below_set (below_set (below_set HB3.out (by omega)) (by omega)) (by omega)) (by omega)) (by omega)⟩


/-! ### quietuslaw12_sanity: function 38 -/
section
variable {g : Nat} {d : Int} {A : Option Addr} {c : Nat} {l : List (List Int)} {m : Int} {Aa : Option Addr} {ca : Nat} {pl : List Int} {Ac : Option Addr} {cc : Nat} {ch : List Int} {W W' : World}
theorem PerilAt.total {k : Nat} {r1 r2 : Int} (h : PerilAt g d A c l m Aa ca pl Ac cc ch W) (hr : risk_Total.f k d l m pl ch = some (r1, r2)) :
  Calls Tryd.prog 40 #[.agg #[.int .i64 d, .slice A l.length c, .int .i64 m, .slice Aa pl.length ca, .slice Ac ch.length cc]] W fun e w' => e = .returned (.tuple #[.int .i64 r1, .int .i64 r2]) ∧ Below W.heap.size W w' :=
 risk_Total.calls k d A c l m Aa ca pl Ac cc ch r1 r2 W h.hg h.hgr h.hc h.hpl h.hca h.hch h.hcc hr
theorem PerilAt.lost {k : Nat} {a1 : Int} {r1 : Bool} {r2 : Int} (h : PerilAt g d A c l m Aa ca pl Ac cc ch W) (hr : risk_Lost.f k d l m pl ch a1 = some (r1, r2)) :
  Calls Tryd.prog 41 #[.agg #[.int .i64 d, .slice A l.length c, .int .i64 m, .slice Aa pl.length ca, .slice Ac ch.length cc], .int .i64 a1] W fun e w' => e = .returned (.tuple #[.bool r1, .int .i64 r2]) ∧ Below W.heap.size W w' :=
 risk_Lost.calls k d A c l m Aa ca pl Ac cc ch a1 r1 r2 W h.hg h.hgr h.hc h.hpl h.hca h.hch h.hcc hr
theorem PerilAt.loss {k : Nat} {r1 r2 : Int} (h : PerilAt g d A c l m Aa ca pl Ac cc ch W) (hr : risk_Loss.f k d l m pl ch = some (r1, r2)) :
  Calls Tryd.prog 42 #[.agg #[.int .i64 d, .slice A l.length c, .int .i64 m, .slice Aa pl.length ca, .slice Ac ch.length cc]] W fun e w' => e = .returned (.tuple #[.int .i64 r1, .int .i64 r2]) ∧ Below W.heap.size W w' :=
 risk_Loss.calls k d A c l m Aa ca pl Ac cc ch r1 r2 W h.hg h.hgr h.hc h.hpl h.hca h.hch h.hcc hr
theorem PerilAt.least {k : Nat} {r1 r2 : Int} (h : PerilAt g d A c l m Aa ca pl Ac cc ch W) (hr : risk_Least.f k d l m pl ch = some (r1, r2)) :
  Calls Tryd.prog 43 #[.agg #[.int .i64 d, .slice A l.length c, .int .i64 m, .slice Aa pl.length ca, .slice Ac ch.length cc]] W fun e w' => e = .returned (.tuple #[.int .i64 r1, .int .i64 r2]) ∧ Below W.heap.size W w' :=
 risk_Least.calls k d A c l m Aa ca pl Ac cc ch r1 r2 W h.hg h.hgr h.hc h.hpl h.hca h.hch h.hcc hr
theorem PerilAt.millionths {k : Nat} {r1 r2 : Int} (h : PerilAt g d A c l m Aa ca pl Ac cc ch W) (hr : risk_Millionths.f k d l m pl ch = some (r1, r2)) :
  Calls Tryd.prog 45 #[.agg #[.int .i64 d, .slice A l.length c, .int .i64 m, .slice Aa pl.length ca, .slice Ac ch.length cc]] W fun e w' => e = .returned (.tuple #[.int .i64 r1, .int .i64 r2]) ∧ Below W.heap.size W w' :=
 risk_Millionths.calls k d A c l m Aa ca pl Ac cc ch r1 r2 W h.hg h.hgr h.hc h.hpl h.hca h.hch h.hcc hr
end
theorem PerilAt.given {k g : Nat} {d : Int} {A : Option Addr} {c : Nat} {l : List (List Int)} {m : Int} {Aa : Option Addr} {ca : Nat} {pl : List Int} {Ac : Option Addr} {cc : Nat} {ch : List Int} {W : World} (n : Nat) (fails : Bool) (h : PerilAt g d A c l m Aa ca pl Ac cc ch W) (hn : n < ch.length) (hl : ch.length ≤ 1000) (hr : risk_Check.f k d l m pl ch = some 0) :
  Calls Tryd.prog 53 #[.agg #[.int .i64 d, .slice A l.length c, .int .i64 m, .slice Aa pl.length ca, .slice Ac ch.length cc], .int .i64 (n : Int), .bool fails] W fun e w' => ∃ g cp, e = .returned (.tuple #[.agg #[.int .i64 d, .slice A l.length c, .int .i64 m, .slice Aa pl.length ca, .slice (some ⟨g, 0, none⟩) ch.length cp], .int .i64 0]) ∧ Kd.R (Kd.int .i64) 3 w' W.heap.size (fun _ => True) (.slice (some ⟨g, 0, none⟩) ch.length cp) (ch.set n (if fails = true then 16 else 0)) ∧ Below W.heap.size W w' :=
 risk_Given.calls k d A c l m Aa ca pl Ac cc ch n fails W h.hg h.hgr h.hc h.hpl h.hca h.hch h.hcc hn hl hr
theorem PerilAt.given0 {k g : Nat} {d : Int} {A : Option Addr} {c : Nat} {l : List (List Int)} {m : Int} {Aa : Option Addr} {ca : Nat} {pl : List Int} {Ac : Option Addr} {cc : Nat} {ch : List Int} {W : World} (fails : Bool) (h : PerilAt g d A c l m Aa ca pl Ac cc ch W) (hn : 0 < ch.length) (hl : ch.length ≤ 1000) (hr : risk_Check.f k d l m pl ch = some 0) :
  Calls Tryd.prog 53 #[.agg #[.int .i64 d, .slice A l.length c, .int .i64 m, .slice Aa pl.length ca, .slice Ac ch.length cc], .int .i64 0, .bool fails] W fun e w' => ∃ g cp, e = .returned (.tuple #[.agg #[.int .i64 d, .slice A l.length c, .int .i64 m, .slice Aa pl.length ca, .slice (some ⟨g, 0, none⟩) ch.length cp], .int .i64 0]) ∧ Kd.R (Kd.int .i64) 3 w' W.heap.size (fun _ => True) (.slice (some ⟨g, 0, none⟩) ch.length cp) (ch.set 0 (if fails = true then 16 else 0)) ∧ Below W.heap.size W w' := h.given 0 fails hn hl hr
theorem PerilAt.c4' {g : Nat} {d : Int} {A : Option Addr} {c : Nat} {l : List (List Int)} {m : Int} {Aa : Option Addr} {ca : Nat} {pl : List Int} {Ac : Option Addr} {cc : Nat} {ch : List Int} {W : World} (h : PerilAt g d A c l m Aa ca pl Ac cc ch W) {n : Nat} (hn : ch.length = n) : W.cell? ⟨g, 4, none⟩ = some (.slice Ac n cc) := by rw [← hn]; exact h.c4
theorem PerilAt.c3' {g : Nat} {d : Int} {A : Option Addr} {c : Nat} {l : List (List Int)} {m : Int} {Aa : Option Addr} {ca : Nat} {pl : List Int} {Ac : Option Addr} {cc : Nat} {ch : List Int} {W : World} (h : PerilAt g d A c l m Aa ca pl Ac cc ch W) {n : Nat} (hn : pl.length = n) : W.cell? ⟨g, 3, none⟩ = some (.slice Aa n ca) := by rw [← hn]; exact h.c3
theorem PerilAt.loss' {k g : Nat} {d : Int} {A : Option Addr} {c : Nat} {l : List (List Int)} {m : Int} {Aa : Option Addr} {ca : Nat} {pl : List Int} {Ac : Option Addr} {cc : Nat} {ch : List Int} {W : World} {r1 r2 : Int} (h : PerilAt g d A c l m Aa ca pl Ac cc ch W) (hr : risk_Loss.f k d l m pl ch = some (r1, r2)) {n n2 : Nat} (hn : pl.length = n) (hn2 : ch.length = n2) :
  Calls Tryd.prog 42 #[.agg #[.int .i64 d, .slice A l.length c, .int .i64 m, .slice Aa n ca, .slice Ac n2 cc]] W fun e w' => e = .returned (.tuple #[.int .i64 r1, .int .i64 r2]) ∧ Below W.heap.size W w' := by subst hn hn2; exact h.loss hr
theorem PerilAt.compare' {k g g2 : Nat} {W : World} {a0_0 : Int} {A0_1 : Option Addr} {c0_1 : Nat} {l0_1 : List (List Int)} {a0_2 : Int} {A0_3 : Option Addr} {c0_3 : Nat} {l0_3 : List Int} {A0_4 : Option Addr} {c0_4 : Nat} {l0_4 : List Int} {a1_0 : Int} {A1_1 : Option Addr} {c1_1 : Nat} {l1_1 : List (List Int)} {a1_2 : Int} {A1_3 : Option Addr} {c1_3 : Nat} {l1_3 : List Int} {A1_4 : Option Addr} {c1_4 : Nat} {l1_4 : List Int} {r1 r2 : Int} (h : PerilAt g a0_0 A0_1 c0_1 l0_1 a0_2 A0_3 c0_3 l0_3 A0_4 c0_4 l0_4 W) (h2 : PerilAt g2 a1_0 A1_1 c1_1 l1_1 a1_2 A1_3 c1_3 l1_3 A1_4 c1_4 l1_4 W) (hr : risk_Compare.f k a0_0 l0_1 a0_2 l0_3 l0_4 a1_0 l1_1 a1_2 l1_3 l1_4 = some (r1, r2)) {n : Nat} (hn : l1_3.length = n) :
  Calls Tryd.prog 44 #[.agg #[.int .i64 a0_0, .slice A0_1 l0_1.length c0_1, .int .i64 a0_2, .slice A0_3 l0_3.length c0_3, .slice A0_4 l0_4.length c0_4], .agg #[.int .i64 a1_0, .slice A1_1 l1_1.length c1_1, .int .i64 a1_2, .slice A1_3 n c1_3, .slice A1_4 l1_4.length c1_4]] W fun e w' => e = .returned (.tuple #[.int .i64 r1, .int .i64 r2]) ∧ Below W.heap.size W w' := by
 subst hn
 exact risk_Compare.calls k a0_0 A0_1 c0_1 l0_1 a0_2 A0_3 c0_3 l0_3 A0_4 c0_4 l0_4 a1_0 A1_1 c1_1 l1_1 a1_2 A1_3 c1_3 l1_3 A1_4 c1_4 l1_4 r1 r2 W h.hg h.hgr h.hc h.hpl h.hca h.hch h.hcc h2.hgr h2.hc h2.hpl h2.hca h2.hch h2.hcc hr

theorem x12_check : risk_Check.f 40 2 [] 1 [0, 1, 2] [1, 2, 4] = some 0 := by decide +kernel
theorem x12_total : risk_Total.f 40 2 [] 1 [0, 1, 2] [1, 2, 4] = some (4096, 0) := by decide +kernel
theorem x12_lost1 : risk_Lost.f 40 2 [] 1 [0, 1, 2] [1, 2, 4] 1 = some (false, 0) := by decide +kernel
theorem x12_lost2 : risk_Lost.f 40 2 [] 1 [0, 1, 2] [1, 2, 4] 3 = some (true, 0) := by decide +kernel
theorem x12_loss : risk_Loss.f 40 2 [] 1 [0, 1, 2] [1, 2, 4] = some (208, 0) := by decide +kernel
theorem x12_least : risk_Least.f 40 2 [] 1 [0, 1, 2] [1, 2, 4] = some (3, 0) := by decide +kernel
theorem x12_loss1 : risk_Loss.f 40 2 [] 1 [0, 1, 2] [16, 2, 4] = some (1408, 0) := by decide +kernel
theorem x12_loss0 : risk_Loss.f 40 2 [] 1 [0, 1, 2] [0, 2, 4] = some (128, 0) := by decide +kernel
theorem x12_mill : risk_Millionths.f 40 2 [] 1 [0, 1, 2] [1, 2, 4] = some (50782, 0) := by decide +kernel
theorem x12_lossn : risk_Loss.f 40 2 [] 1 [0, 1, -1] [1, 2, 4] = some (736, 0) := by decide +kernel
theorem x12_comp : risk_Compare.f 40 2 [] 1 [0, 1, 2] [1, 2, 4] 2 [] 1 [0, 1, -1] [1, 2, 4] = some (-1, 0) := by decide +kernel
set_option maxHeartbeats 4000000 in
set_option maxRecDepth 100000 in
theorem quietuslaw12_sanity.main (k : Nat) (gs : List (List Int)) (pl ch pn d1 d0 : List Int) (hex : quietuslaw12_example.f = some (2, gs, 1, pl, ch)) (hpl : pl.length = 3) (hch : ch.length = 3) (hpn : pn = pl.set 2 (-1)) (hd1 : d1 = ch.set 0 16) (hd0 : d0 = ch.set 0 0)
  (h0 : risk_Check.f k 2 gs 1 pl ch = some 0) (h1 : risk_Total.f k 2 gs 1 pl ch = some (4096, 0)) (h2 : risk_Lost.f k 2 gs 1 pl ch 1 = some (false, 0)) (h3 : risk_Lost.f k 2 gs 1 pl ch 3 = some (true, 0)) (h4 : risk_Loss.f k 2 gs 1 pl ch = some (208, 0)) (h5 : risk_Least.f k 2 gs 1 pl ch = some (3, 0))
  (h6 : risk_Loss.f k 2 gs 1 pl d1 = some (1408, 0)) (h7 : risk_Loss.f k 2 gs 1 pl d0 = some (128, 0)) (h8 : risk_Millionths.f k 2 gs 1 pl ch = some (50782, 0)) (h9 : risk_Loss.f k 2 gs 1 pn ch = some (736, 0)) (h10 : risk_Compare.f k 2 gs 1 pl ch 2 gs 1 pn ch = some (-1, 0)) (w : World) (hG : HG w) :
  Calls Tryd.prog 38 #[] w fun e w' => e = .returned (.bool true) ∧ Below w.heap.size w w' := by
 have Hex := Aside0.mk hex
 have H0 := Aside0.mk h0
 have H1 := Aside0.mk h1
 have H2 := Aside0.mk h2
 have H3 := Aside0.mk h3
 have H4 := Aside0.mk h4
 have H5 := Aside0.mk h5
 have H6 := Aside0.mk h6
 have H7 := Aside0.mk h7
 have H8 := Aside0.mk h8
 have H9 := Aside0.mk h9
 have H10 := Aside0.mk h10
 have Hpl := Aside0.mk hpl
 have Hch := Aside0.mk hch
 have Hpn := Aside0.mk hpn
 have HLd1 := Aside0.mk (show d1.length = ch.length by rw [hd1, List.length_set])
 have HLd0 := Aside0.mk (show d0.length = ch.length by rw [hd0, List.length_set])
 have HLpn := Aside0.mk (show pn.length = pl.length by rw [hpn, List.length_set])
 have HD1 := Aside0.mk hd1
 have HD0 := Aside0.mk hd0
 have HGw := Aside0.mk hG
 have hu64 := Tryd.underlying64
 have hu24 := Tryd.underlying24
 clear hex h0 h1 h2 h3 h4 h5 h6 h7 h8 h9 h10 hpl hch hpn hd1 hd0 hG
 go_enter Tryd.func38, Tryd.ntmps38
 go_upto_region 2 with (first | (go_at_call 76; (with_reducible refine (quietuslaw12_example.calls 2 gs 1 pl ch _ HGw.out Hex.out).mono ?_); rintro e w1 ⟨v1, v3, v4, rfl, hS, hR3, hR4, hb⟩; obtain ⟨A, c, rfl⟩ := Kd.S_slice hS; obtain ⟨Aa, ca, rfl⟩ := Kd.R_slice hR3; obtain ⟨Ac, cc, rfl⟩ := Kd.R_slice hR4; have HB := Aside0.mk hb; have HSS := Aside0.mk (Kd.S_reads' hS); have HR3 := Aside0.mk (Kd.R_reads' hR3); have HR4 := Aside0.mk (Kd.R_reads' hR4); clear hS hR3 hR4 hb))
 have HK := Aside0.mk (show PerilAt w1.heap.size 2 A c gs 1 Aa ca pl Ac cc ch (w1.alloc (.cells #[.int .i64 2, .slice A gs.length c, .int .i64 1, .slice Aa pl.length ca, .slice Ac ch.length cc] 64)) from ⟨blk_new _ _, HSS.out.2.1, Kd.C_alloc HSS.out.2.2 _, HR3.out.2.1, Kd.C_alloc HR3.out.2.2 _, HR4.out.2.1, Kd.C_alloc HR4.out.2.2 _, (HGw.out.below HB.out).alloc _⟩)
 have hdum := True.intro
 have hb := below_alloc (Below.refl w1.heap.size w1) (.cells #[.int .i64 2, .slice A gs.length c, .int .i64 1, .slice Aa pl.length ca, .slice Ac ch.length cc] 64)
 have HBn := Aside0.mk (below_step HB.out hb)
 clear HB hdum hb
 have HB := HBn
 clear HBn
 have hdum := True.intro
 generalize w1.alloc (.cells #[.int .i64 2, .slice A gs.length c, .int .i64 1, .slice Aa pl.length ca, .slice Ac ch.length cc] 64) = ws at *
 have cHK0 := HK.out.c0
 have cHK1 := HK.out.c1
 have cHK2 := HK.out.c2
 have cHK3 := HK.out.c3
 have cHK4 := HK.out.c4
 clear HSS HR3 HR4
 go_upto_region 7 with (first | (go_at_call 40; (with_reducible refine (HK.out.total H1.out).mono ?_); rintro e w1 ⟨rfl, hb⟩; have HBn := Aside0.mk (below_step HB.out hb); have HKn := Aside0.mk (HK.out.below hb); clear HB HK cHK0 cHK1 cHK2 cHK3 cHK4 hb; have HB := HBn; have HK := HKn; clear HBn HKn; have cHK0 := HK.out.c0; have cHK1 := HK.out.c1; have cHK2 := HK.out.c2; have cHK3 := HK.out.c3; have cHK4 := HK.out.c4) | (go_at_call 41; (with_reducible refine (HK.out.lost H2.out).mono ?_); rintro e w1 ⟨rfl, hb⟩; have HBn := Aside0.mk (below_step HB.out hb); have HKn := Aside0.mk (HK.out.below hb); clear HB HK cHK0 cHK1 cHK2 cHK3 cHK4 hb; have HB := HBn; have HK := HKn; clear HBn HKn; have cHK0 := HK.out.c0; have cHK1 := HK.out.c1; have cHK2 := HK.out.c2; have cHK3 := HK.out.c3; have cHK4 := HK.out.c4) | (go_at_call 41; (with_reducible refine (HK.out.lost H3.out).mono ?_); rintro e w1 ⟨rfl, hb⟩; have HBn := Aside0.mk (below_step HB.out hb); have HKn := Aside0.mk (HK.out.below hb); clear HB HK cHK0 cHK1 cHK2 cHK3 cHK4 hb; have HB := HBn; have HK := HKn; clear HBn HKn; have cHK0 := HK.out.c0; have cHK1 := HK.out.c1; have cHK2 := HK.out.c2; have cHK3 := HK.out.c3; have cHK4 := HK.out.c4) | (go_at_call 42; (with_reducible refine (HK.out.loss H4.out).mono ?_); rintro e w1 ⟨rfl, hb⟩; have HBn := Aside0.mk (below_step HB.out hb); have HKn := Aside0.mk (HK.out.below hb); clear HB HK cHK0 cHK1 cHK2 cHK3 cHK4 hb; have HB := HBn; have HK := HKn; clear HBn HKn; have cHK0 := HK.out.c0; have cHK1 := HK.out.c1; have cHK2 := HK.out.c2; have cHK3 := HK.out.c3; have cHK4 := HK.out.c4) | (go_at_call 43; (with_reducible refine (HK.out.least H5.out).mono ?_); rintro e w1 ⟨rfl, hb⟩; have HBn := Aside0.mk (below_step HB.out hb); have HKn := Aside0.mk (HK.out.below hb); clear HB HK cHK0 cHK1 cHK2 cHK3 cHK4 hb; have HB := HBn; have HK := HKn; clear HBn HKn; have cHK0 := HK.out.c0; have cHK1 := HK.out.c1; have cHK2 := HK.out.c2; have cHK3 := HK.out.c3; have cHK4 := HK.out.c4))
 go_upto_region 8 with (first | (go_at_call 53; (with_reducible refine (HK.out.given0 true (by rw [Hch.out]; decide) (by rw [Hch.out]; decide) H0.out).mono ?_); rintro e w1 ⟨g1, cp1, rfl, hR, hb⟩; have HRn_ := Aside0.mk (show Kd.R (Kd.int .i64) 3 _ _ (fun _ => True) (.slice (some ⟨g1, 0, none⟩) ch.length cp1) d1 from by rw [HD1.out]; exact hR); clear hR; have HBn := Aside0.mk (below_step HB.out hb); have HKn := Aside0.mk (HK.out.below hb); clear HB HK cHK0 cHK1 cHK2 cHK3 cHK4 hb; have HB := HBn; have HK := HKn; clear HBn HKn; have cHK0 := HK.out.c0; have cHK1 := HK.out.c1; have cHK2 := HK.out.c2; have cHK3 := HK.out.c3; have cHK4 := HK.out.c4))
 have HK1 := Aside0.mk (show PerilAt w1.heap.size 2 A c gs 1 Aa ca pl (some ⟨g1, 0, none⟩) cp1 d1 (w1.alloc (.cells #[.int .i64 2, .slice A gs.length c, .int .i64 1, .slice Aa pl.length ca, .slice (some ⟨g1, 0, none⟩) ch.length cp1] 64)) from ⟨by rw [HLd1.out]; exact blk_new _ _, HK.out.hc, Kd.C_alloc HK.out.hgr _, HK.out.hca, Kd.C_alloc HK.out.hpl _, by rw [HLd1.out]; exact (Kd.R_reads' HRn_.out).2.1, Kd.C_alloc (Kd.R_reads' HRn_.out).2.2 _, HK.out.hg.alloc _⟩)
 clear HRn_
 have hb := below_alloc (Below.refl w1.heap.size w1) (.cells #[.int .i64 2, .slice A gs.length c, .int .i64 1, .slice Aa pl.length ca, .slice (some ⟨g1, 0, none⟩) ch.length cp1] 64)
 have HBn := Aside0.mk (below_step HB.out hb)
 have HKn := Aside0.mk (HK.out.below hb)
 clear HB HK cHK0 cHK1 cHK2 cHK3 cHK4 hb
 have HB := HBn
 have HK := HKn
 clear HBn HKn
 have cHK0 := HK.out.c0
 have cHK1 := HK.out.c1
 have cHK2 := HK.out.c2
 have cHK3 := HK.out.c3
 have cHK4 := HK.out.c4
 generalize w1.alloc (.cells #[.int .i64 2, .slice A gs.length c, .int .i64 1, .slice Aa pl.length ca, .slice (some ⟨g1, 0, none⟩) ch.length cp1] 64) = ws at *
 have cHK10 := HK1.out.c0
 have cHK11 := HK1.out.c1
 have cHK12 := HK1.out.c2
 have cHK13 := HK1.out.c3
 have cHK14 := HK1.out.c4' HLd1.out
 go_upto_region 9 with (first | (go_at_call 53; (with_reducible refine (HK.out.given0 false (by rw [Hch.out]; decide) (by rw [Hch.out]; decide) H0.out).mono ?_); rintro e w1 ⟨g0, cp0, rfl, hR, hb⟩; have HRn_ := Aside0.mk (show Kd.R (Kd.int .i64) 3 _ _ (fun _ => True) (.slice (some ⟨g0, 0, none⟩) ch.length cp0) d0 from by rw [HD0.out]; exact hR); clear hR; have HBn := Aside0.mk (below_step HB.out hb); have HKn := Aside0.mk (HK.out.below hb); have HK1n := Aside0.mk (HK1.out.below hb); clear HB HK HK1 cHK0 cHK1 cHK2 cHK3 cHK4 cHK10 cHK11 cHK12 cHK13 cHK14 hb; have HB := HBn; have HK := HKn; have HK1 := HK1n; clear HBn HKn HK1n; have cHK0 := HK.out.c0; have cHK1 := HK.out.c1; have cHK2 := HK.out.c2; have cHK3 := HK.out.c3; have cHK4 := HK.out.c4; have cHK10 := HK1.out.c0; have cHK11 := HK1.out.c1; have cHK12 := HK1.out.c2; have cHK13 := HK1.out.c3; have cHK14 := HK1.out.c4' HLd1.out))
 have HK0 := Aside0.mk (show PerilAt w1.heap.size 2 A c gs 1 Aa ca pl (some ⟨g0, 0, none⟩) cp0 d0 (w1.alloc (.cells #[.int .i64 2, .slice A gs.length c, .int .i64 1, .slice Aa pl.length ca, .slice (some ⟨g0, 0, none⟩) ch.length cp0] 64)) from ⟨by rw [HLd0.out]; exact blk_new _ _, HK.out.hc, Kd.C_alloc HK.out.hgr _, HK.out.hca, Kd.C_alloc HK.out.hpl _, by rw [HLd0.out]; exact (Kd.R_reads' HRn_.out).2.1, Kd.C_alloc (Kd.R_reads' HRn_.out).2.2 _, HK.out.hg.alloc _⟩)
 clear HRn_
 have hb := below_alloc (Below.refl w1.heap.size w1) (.cells #[.int .i64 2, .slice A gs.length c, .int .i64 1, .slice Aa pl.length ca, .slice (some ⟨g0, 0, none⟩) ch.length cp0] 64)
 have HBn := Aside0.mk (below_step HB.out hb)
 have HKn := Aside0.mk (HK.out.below hb)
 have HK1n := Aside0.mk (HK1.out.below hb)
 clear HB HK HK1 cHK0 cHK1 cHK2 cHK3 cHK4 cHK10 cHK11 cHK12 cHK13 cHK14 hb
 have HB := HBn
 have HK := HKn
 have HK1 := HK1n
 clear HBn HKn HK1n
 have cHK0 := HK.out.c0
 have cHK1 := HK.out.c1
 have cHK2 := HK.out.c2
 have cHK3 := HK.out.c3
 have cHK4 := HK.out.c4
 have cHK10 := HK1.out.c0
 have cHK11 := HK1.out.c1
 have cHK12 := HK1.out.c2
 have cHK13 := HK1.out.c3
 have cHK14 := HK1.out.c4' HLd1.out
 generalize w1.alloc (.cells #[.int .i64 2, .slice A gs.length c, .int .i64 1, .slice Aa pl.length ca, .slice (some ⟨g0, 0, none⟩) ch.length cp0] 64) = ws at *
 have cHK00 := HK0.out.c0
 have cHK01 := HK0.out.c1
 have cHK02 := HK0.out.c2
 have cHK03 := HK0.out.c3
 have cHK04 := HK0.out.c4' HLd0.out
 go_upto_region 10 with (first | (go_at_call 42; (with_reducible refine (HK1.out.loss' H6.out rfl HLd1.out).mono ?_); rintro e w1 ⟨rfl, hb⟩; have HBn := Aside0.mk (below_step HB.out hb); have HKn := Aside0.mk (HK.out.below hb); have HK1n := Aside0.mk (HK1.out.below hb); have HK0n := Aside0.mk (HK0.out.below hb); clear HB HK HK1 HK0 cHK0 cHK1 cHK2 cHK3 cHK4 cHK10 cHK11 cHK12 cHK13 cHK14 cHK00 cHK01 cHK02 cHK03 cHK04 hb; have HB := HBn; have HK := HKn; have HK1 := HK1n; have HK0 := HK0n; clear HBn HKn HK1n HK0n; have cHK0 := HK.out.c0; have cHK1 := HK.out.c1; have cHK2 := HK.out.c2; have cHK3 := HK.out.c3; have cHK4 := HK.out.c4; have cHK10 := HK1.out.c0; have cHK11 := HK1.out.c1; have cHK12 := HK1.out.c2; have cHK13 := HK1.out.c3; have cHK14 := HK1.out.c4' HLd1.out; have cHK00 := HK0.out.c0; have cHK01 := HK0.out.c1; have cHK02 := HK0.out.c2; have cHK03 := HK0.out.c3; have cHK04 := HK0.out.c4' HLd0.out))
 go_upto_region 11 with (first | (go_at_call 42; (with_reducible refine (HK0.out.loss' H7.out rfl HLd0.out).mono ?_); rintro e w1 ⟨rfl, hb⟩; have HBn := Aside0.mk (below_step HB.out hb); have HKn := Aside0.mk (HK.out.below hb); have HK1n := Aside0.mk (HK1.out.below hb); have HK0n := Aside0.mk (HK0.out.below hb); clear HB HK HK1 HK0 cHK0 cHK1 cHK2 cHK3 cHK4 cHK10 cHK11 cHK12 cHK13 cHK14 cHK00 cHK01 cHK02 cHK03 cHK04 hb; have HB := HBn; have HK := HKn; have HK1 := HK1n; have HK0 := HK0n; clear HBn HKn HK1n HK0n; have cHK0 := HK.out.c0; have cHK1 := HK.out.c1; have cHK2 := HK.out.c2; have cHK3 := HK.out.c3; have cHK4 := HK.out.c4; have cHK10 := HK1.out.c0; have cHK11 := HK1.out.c1; have cHK12 := HK1.out.c2; have cHK13 := HK1.out.c3; have cHK14 := HK1.out.c4' HLd1.out; have cHK00 := HK0.out.c0; have cHK01 := HK0.out.c1; have cHK02 := HK0.out.c2; have cHK03 := HK0.out.c3; have cHK04 := HK0.out.c4' HLd0.out))
 clear HK1 HK0 cHK10 cHK11 cHK12 cHK13 cHK14 cHK00 cHK01 cHK02 cHK03 cHK04
 go_upto_region 12 with (first | (go_at_call 45; (with_reducible refine (HK.out.millionths H8.out).mono ?_); rintro e w1 ⟨rfl, hb⟩; have HBn := Aside0.mk (below_step HB.out hb); have HKn := Aside0.mk (HK.out.below hb); clear HB HK cHK0 cHK1 cHK2 cHK3 cHK4 hb; have HB := HBn; have HK := HKn; clear HBn HKn; have cHK0 := HK.out.c0; have cHK1 := HK.out.c1; have cHK2 := HK.out.c2; have cHK3 := HK.out.c3; have cHK4 := HK.out.c4))
 go_upto_region 13 with (first | (go_at_call 76; (with_reducible refine (quietuslaw12_example.calls 2 gs 1 pl ch _ HK.out.hg Hex.out).mono ?_); rintro e w1 ⟨v1, v3, v4, rfl, hS, hR3, hR4, hb⟩; obtain ⟨A2, c2, rfl⟩ := Kd.S_slice hS; obtain ⟨ga, ca2, rfl, hgb, hgl, _⟩ := Kd.R_form hR3 (by rw [Hpl.out]; decide); obtain ⟨Ac2, cc2, rfl⟩ := Kd.R_slice hR4; have HBE := Aside0.mk hb; have HS2 := Aside0.mk hS; have HR3 := Aside0.mk hR3; have HR4 := Aside0.mk hR4; have HGB := Aside0.mk hgb; have HGL := Aside0.mk hgl; clear hS hR3 hR4 hb hgb hgl cHK0 cHK1 cHK2 cHK3 cHK4))
 have HN := Aside0.mk (blk_new w1 (.cells #[.int .i64 2, .slice A2 gs.length c2, .int .i64 1, .slice (some ⟨ga, 0, none⟩) pl.length ca2, .slice Ac2 ch.length cc2] 64))
 have HSa := Aside0.mk (Kd.S_alloc HS2.out (.cells #[.int .i64 2, .slice A2 gs.length c2, .int .i64 1, .slice (some ⟨ga, 0, none⟩) pl.length ca2, .slice Ac2 ch.length cc2] 64))
 have HRa := Aside0.mk (Kd.R_alloc HR3.out (.cells #[.int .i64 2, .slice A2 gs.length c2, .int .i64 1, .slice (some ⟨ga, 0, none⟩) pl.length ca2, .slice Ac2 ch.length cc2] 64))
 have HRb := Aside0.mk (Kd.R_alloc HR4.out (.cells #[.int .i64 2, .slice A2 gs.length c2, .int .i64 1, .slice (some ⟨ga, 0, none⟩) pl.length ca2, .slice Ac2 ch.length cc2] 64))
 have HBa := Aside0.mk (below_alloc HBE.out (.cells #[.int .i64 2, .slice A2 gs.length c2, .int .i64 1, .slice (some ⟨ga, 0, none⟩) pl.length ca2, .slice Ac2 ch.length cc2] 64))
 clear HS2 HR3 HR4 HBE
 generalize w1.alloc (.cells #[.int .i64 2, .slice A2 gs.length c2, .int .i64 1, .slice (some ⟨ga, 0, none⟩) pl.length ca2, .slice Ac2 ch.length cc2] 64) = wn at *
 generalize w1.heap.size = gn at *
 have hgne : gn ≠ ga := by have := HGL.out; omega
 have HNE := Aside0.mk hgne
 have cn3 : wn.cell? ⟨gn, 3, none⟩ = some (.slice (some ⟨ga, 0, none⟩) pl.length ca2) := blk_cell HN.out 3
 obtain ⟨hom, hfz⟩ := Kd.R_celln (0 : Int) HRa.out (2 : Int) (by omega) (by rw [Hpl.out]; decide)
 rw [show (2 : Int).toNat = 2 from rfl] at hom hfz
 have hp2 : (2 : Int) < (pl.length : Int) := by rw [Hpl.out]; decide
 go_upto_region 14 with fail
 have HRP := Aside0.mk (Kd.R_putn HRa.out (2 : Int) (-1 : Int))
 rw [show (2 : Int).toNat = 2 from rfl] at HRP
 rw [← Hpn.out] at HRP
 have HBs := Aside0.mk (below_set (j := 2) (v := .int .i64 (-1)) HBa.out HGB.out)
 have hok : ∀ k_, some k_ ≠ (Value.slice (some ⟨ga, 0, none⟩) pl.length ca2).ownBlock → k_ ≠ ga := fun k_ hk_ e_ => hk_ (by rw [e_]; rfl)
 have HQ := Aside0.mk (show PerilAt gn 2 A2 c2 gs 1 (some ⟨ga, 0, none⟩) ca2 pn Ac2 cc2 ch (wn.setCell ⟨ga, 2, none⟩ (.int .i64 (-1))) from ⟨by rw [HLpn.out]; exact blk_far HN.out (p := ⟨ga, 2, none⟩) HNE.out _, (Kd.S_reads' HSa.out).2.1, (Kd.S_reads' (Kd.S_far (p := ⟨ga, 2, none⟩) HSa.out (fun k_ hk_ => hok k_ hk_.1) (.int .i64 (-1)))).2.2, by rw [HLpn.out]; exact (Kd.R_reads' HRa.out).2.1, (Kd.R_reads' HRP.out).2.2, (Kd.R_reads' HRb.out).2.1, (Kd.R_reads' (Kd.R_far (p := ⟨ga, 2, none⟩) HRb.out hok (.int .i64 (-1)))).2.2, HK.out.hg.below HBs.out⟩)
 have HKm := Aside0.mk (HK.out.below HBs.out)
 have HBm := Aside0.mk (below_step HB.out HBs.out)
 clear HK HB HN HSa HRa HRb HBa HRP HBs hom hfz cn3 hok hp2
 have HK := HKm
 have HB := HBm
 clear HKm HBm
 generalize wn.setCell ⟨ga, 2, none⟩ (.int .i64 (-1)) = w9 at *
 have cHK0 := HK.out.c0
 have cHK1 := HK.out.c1
 have cHK2 := HK.out.c2
 have cHK3 := HK.out.c3
 have cHK4 := HK.out.c4
 have cHQ0 := HQ.out.c0
 have cHQ1 := HQ.out.c1
 have cHQ2 := HQ.out.c2
 have cHKn3 := HQ.out.c3' HLpn.out
 have cHQ4 := HQ.out.c4
 go_upto_region 15 with (first | (go_at_call 42; (with_reducible refine (HQ.out.loss' H9.out HLpn.out rfl).mono ?_); rintro e w1 ⟨rfl, hb⟩; have HBn := Aside0.mk (below_step HB.out hb); have HKn := Aside0.mk (HK.out.below hb); have HQn := Aside0.mk (HQ.out.below hb); clear HB HK HQ cHK0 cHK1 cHK2 cHK3 cHK4 cHQ0 cHQ1 cHQ2 cHKn3 cHQ4 hb; have HB := HBn; have HK := HKn; have HQ := HQn; clear HBn HKn HQn; have cHK0 := HK.out.c0; have cHK1 := HK.out.c1; have cHK2 := HK.out.c2; have cHK3 := HK.out.c3; have cHK4 := HK.out.c4; have cHQ0 := HQ.out.c0; have cHQ1 := HQ.out.c1; have cHQ2 := HQ.out.c2; have cHKn3 := HQ.out.c3' HLpn.out; have cHQ4 := HQ.out.c4))
 go_upto_region 16 with (first | (go_at_call 44; (with_reducible refine (HK.out.compare' HQ.out H10.out HLpn.out).mono ?_); rintro e w1 ⟨rfl, hb⟩; have HBn := Aside0.mk (below_step HB.out hb); have HKn := Aside0.mk (HK.out.below hb); have HQn := Aside0.mk (HQ.out.below hb); clear HB HK HQ cHK0 cHK1 cHK2 cHK3 cHK4 cHQ0 cHQ1 cHQ2 cHKn3 cHQ4 hb; have HB := HBn; have HK := HKn; have HQ := HQn; clear HBn HKn HQn; have cHK0 := HK.out.c0; have cHK1 := HK.out.c1; have cHK2 := HK.out.c2; have cHK3 := HK.out.c3; have cHK4 := HK.out.c4; have cHQ0 := HQ.out.c0; have cHQ1 := HQ.out.c1; have cHQ2 := HQ.out.c2; have cHKn3 := HQ.out.c3' HLpn.out; have cHQ4 := HQ.out.c4))
 go_wp2
 go_ret
 exact ⟨rfl, HB.out⟩
theorem quietuslaw12_sanity.yes (w : World) (hG : HG w) :
  Calls Tryd.prog 38 #[] w fun e w' => e = .returned (.bool true) ∧ Below w.heap.size w w' :=
 quietuslaw12_sanity.main 40 [] [0, 1, 2] [1, 2, 4] [0, 1, -1] [16, 2, 4] [0, 2, 4] rfl rfl rfl rfl rfl rfl x12_check x12_total x12_lost1 x12_lost2 x12_loss x12_least x12_loss1 x12_loss0 x12_mill x12_lossn x12_comp w hG


/-! ### quietuslaw12_RiskLeastIsLeast: function 11 -/
theorem PerilAt.few {k g : Nat} {d : Int} {A : Option Addr} {c : Nat} {l : List (List Int)} {m : Int} {Aa : Option Addr} {ca : Nat} {pl : List Int} {Ac : Option Addr} {cc : Nat} {ch : List Int} {W : World} {n : Int} {r : Bool} (h : PerilAt g d A c l m Aa ca pl Ac cc ch W) (hr : quietusref12_Few.f k d l m pl ch n = some r) :
  Calls Tryd.prog 37 #[.agg #[.int .i64 d, .slice A l.length c, .int .i64 m, .slice Aa pl.length ca, .slice Ac ch.length cc], .int .i64 n] W fun e w' => e = .returned (.bool r) ∧ Below W.heap.size W w' :=
 quietusref12_Few.calls k d A c l m Aa ca pl Ac cc ch n r W h.hg h.hgr h.hc h.hpl h.hca h.hch h.hcc hr

/-! ### quietuslaw12_RiskConditions: function 9 -/
-- over PerilAt.few PerilAt.given
theorem PerilAt.same' {k g g2 : Nat} {W : World} {a0_0 : Int} {A0_1 : Option Addr} {c0_1 : Nat} {l0_1 : List (List Int)} {a0_2 : Int} {A0_3 : Option Addr} {c0_3 : Nat} {l0_3 : List Int} {A0_4 : Option Addr} {c0_4 : Nat} {l0_4 : List Int} {a1_0 : Int} {A1_1 : Option Addr} {c1_1 : Nat} {l1_1 : List (List Int)} {a1_2 : Int} {A1_3 : Option Addr} {c1_3 : Nat} {l1_3 : List Int} {A1_4 : Option Addr} {c1_4 : Nat} {l1_4 : List Int} {r1 : Bool} (h : PerilAt g a0_0 A0_1 c0_1 l0_1 a0_2 A0_3 c0_3 l0_3 A0_4 c0_4 l0_4 W) (h2 : PerilAt g2 a1_0 A1_1 c1_1 l1_1 a1_2 A1_3 c1_3 l1_3 A1_4 c1_4 l1_4 W) (hr : quietusref12_Same.f k a0_0 l0_1 a0_2 l0_3 l0_4 a1_0 l1_1 a1_2 l1_3 l1_4 = some r1) {n1 n2 : Nat} (hn1 : l0_4.length = n1) (hn2 : l1_4.length = n2) :
  Calls Tryd.prog 54 #[.agg #[.int .i64 a0_0, .slice A0_1 l0_1.length c0_1, .int .i64 a0_2, .slice A0_3 l0_3.length c0_3, .slice A0_4 n1 c0_4], .agg #[.int .i64 a1_0, .slice A1_1 l1_1.length c1_1, .int .i64 a1_2, .slice A1_3 l1_3.length c1_3, .slice A1_4 n2 c1_4]] W fun e w' => e = .returned (.bool r1) ∧ Below W.heap.size W w' := by
 subst hn1 hn2
 exact quietusref12_Same.calls k a0_0 A0_1 c0_1 l0_1 a0_2 A0_3 c0_3 l0_3 A0_4 c0_4 l0_4 a1_0 A1_1 c1_1 l1_1 a1_2 A1_3 c1_3 l1_3 A1_4 c1_4 l1_4 r1 W h.hg h.hgr h.hc h.hpl h.hca h.hch h.hcc h2.hgr h2.hc h2.hpl h2.hca h2.hch h2.hcc hr
set_option maxHeartbeats 4000000 in
set_option maxRecDepth 100000 in
theorem law12_cond.aside (k : Nat) (d : Int) (A : Option Addr) (c : Nat) (l : List (List Int)) (m : Int) (Aa : Option Addr) (ca : Nat) (pl : List Int) (Ac : Option Addr) (cc : Nat) (ch : List Int) (dom : Int) (few : Bool) (e : Int) (w : World) (hG : HG w) (hC : Kd.C (Kd.slice 3 (Kd.int .i64)) w A l.length l) (hc : l.length ≤ c) (hP : (Kd.int .i64).C w Aa pl.length pl) (hca : pl.length ≤ ca) (hH : (Kd.int .i64).C w Ac ch.length ch) (hcc : ch.length ≤ cc) (hfew : quietusref12_Few.f k d l m pl ch 9 = some few) (hchk : few = true → risk_Check.f k d l m pl ch = some e ∧ (e ≠ 0 ∨ ch.length = 0)) :
  Calls Tryd.prog 9 #[.agg #[.int .i64 d, .slice A l.length c, .int .i64 m, .slice Aa pl.length ca, .slice Ac ch.length cc], .int .u8 dom] w fun e w' => e = .returned (.bool true) ∧ Below w.heap.size w w' := by
 have HK := Aside0.mk (show PerilAt w.heap.size d A c l m Aa ca pl Ac cc ch (w.alloc (.cells #[.int .i64 d, .slice A l.length c, .int .i64 m, .slice Aa pl.length ca, .slice Ac ch.length cc] 64)) from ⟨blk_new _ _, hc, Kd.C_alloc hC _, hca, Kd.C_alloc hP _, hcc, Kd.C_alloc hH _, hG.alloc _⟩)
 have HB := Aside0.mk (below_alloc (Below.refl w.heap.size w) (.cells #[.int .i64 d, .slice A l.length c, .int .i64 m, .slice Aa pl.length ca, .slice Ac ch.length cc] 64))
 have hu64 := Tryd.underlying64
 have hu24 := Tryd.underlying24
 have cHK0 := HK.out.c0
 have cHK1 := HK.out.c1
 have cHK2 := HK.out.c2
 have cHK3 := HK.out.c3
 have cHK4 := HK.out.c4
 clear hG hC hc hP hca hH hcc
 have HFEW := Aside0.mk hfew
 clear hfew
 cases few with
 | false =>
  clear hchk
  go_enter Tryd.func9, Tryd.ntmps9
  go_wp2_with (first | (go_at_call 37; (with_reducible refine (HK.out.few HFEW.out).mono ?_); rintro e w1 ⟨rfl, hb⟩; have HBn := Aside0.mk (below_step HB.out hb); have HKn := Aside0.mk (HK.out.below hb); clear HB HK cHK0 cHK1 cHK2 cHK3 cHK4 hb; have HB := HBn; have HK := HKn; clear HBn HKn; have cHK0 := HK.out.c0; have cHK1 := HK.out.c1; have cHK2 := HK.out.c2; have cHK3 := HK.out.c3; have cHK4 := HK.out.c4) | (go_at_call 38; (with_reducible refine (quietuslaw12_sanity.yes _ HK.out.hg).mono ?_); rintro e w1 ⟨rfl, hb⟩; have HBn := Aside0.mk (below_step HB.out hb); have HKn := Aside0.mk (HK.out.below hb); clear HB HK cHK0 cHK1 cHK2 cHK3 cHK4 hb; have HB := HBn; have HK := HKn; clear HBn HKn; have cHK0 := HK.out.c0; have cHK1 := HK.out.c1; have cHK2 := HK.out.c2; have cHK3 := HK.out.c3; have cHK4 := HK.out.c4))
  go_ret
  exact ⟨rfl, HB.out⟩
 | true =>
  obtain ⟨hk, he⟩ := hchk rfl
  have HCHK := Aside0.mk hk
  clear hchk hk
  by_cases e0 : e = 0
  ·subst e0
   have hz : ch.length = 0 := he.resolve_left (fun hh => hh rfl)
   have b3 : ((ch.length : Int) == 0) = true := beq_iff_eq.2 (by omega)
   have b4 : (ch.length == 0) = true := beq_iff_eq.2 hz
   clear he hz
   go_enter Tryd.func9, Tryd.ntmps9
   go_wp2_with (first | (go_at_call 37; (with_reducible refine (HK.out.few HFEW.out).mono ?_); rintro e w1 ⟨rfl, hb⟩; have HBn := Aside0.mk (below_step HB.out hb); have HKn := Aside0.mk (HK.out.below hb); clear HB HK cHK0 cHK1 cHK2 cHK3 cHK4 hb; have HB := HBn; have HK := HKn; clear HBn HKn; have cHK0 := HK.out.c0; have cHK1 := HK.out.c1; have cHK2 := HK.out.c2; have cHK3 := HK.out.c3; have cHK4 := HK.out.c4) | (go_at_call 50; (with_reducible refine (HK.out.check HCHK.out).mono ?_); rintro e w1 ⟨rfl, hb⟩; have HBn := Aside0.mk (below_step HB.out hb); have HKn := Aside0.mk (HK.out.below hb); clear HB HK cHK0 cHK1 cHK2 cHK3 cHK4 hb; have HB := HBn; have HK := HKn; clear HBn HKn; have cHK0 := HK.out.c0; have cHK1 := HK.out.c1; have cHK2 := HK.out.c2; have cHK3 := HK.out.c3; have cHK4 := HK.out.c4) | (go_at_call 38; (with_reducible refine (quietuslaw12_sanity.yes _ HK.out.hg).mono ?_); rintro e w1 ⟨rfl, hb⟩; have HBn := Aside0.mk (below_step HB.out hb); have HKn := Aside0.mk (HK.out.below hb); clear HB HK cHK0 cHK1 cHK2 cHK3 cHK4 hb; have HB := HBn; have HK := HKn; clear HBn HKn; have cHK0 := HK.out.c0; have cHK1 := HK.out.c1; have cHK2 := HK.out.c2; have cHK3 := HK.out.c3; have cHK4 := HK.out.c4))
   go_ret
   exact ⟨rfl, HB.out⟩
  ·have b1 : (e == 0) = false := beq_eq_false_iff_ne.2 e0
   have b2 : (e != 0) = true := bne_iff_ne.2 e0
   clear he e0
   go_enter Tryd.func9, Tryd.ntmps9
   go_wp2_with (first | (go_at_call 37; (with_reducible refine (HK.out.few HFEW.out).mono ?_); rintro e w1 ⟨rfl, hb⟩; have HBn := Aside0.mk (below_step HB.out hb); have HKn := Aside0.mk (HK.out.below hb); clear HB HK cHK0 cHK1 cHK2 cHK3 cHK4 hb; have HB := HBn; have HK := HKn; clear HBn HKn; have cHK0 := HK.out.c0; have cHK1 := HK.out.c1; have cHK2 := HK.out.c2; have cHK3 := HK.out.c3; have cHK4 := HK.out.c4) | (go_at_call 50; (with_reducible refine (HK.out.check HCHK.out).mono ?_); rintro e w1 ⟨rfl, hb⟩; have HBn := Aside0.mk (below_step HB.out hb); have HKn := Aside0.mk (HK.out.below hb); clear HB HK cHK0 cHK1 cHK2 cHK3 cHK4 hb; have HB := HBn; have HK := HKn; clear HBn HKn; have cHK0 := HK.out.c0; have cHK1 := HK.out.c1; have cHK2 := HK.out.c2; have cHK3 := HK.out.c3; have cHK4 := HK.out.c4) | (go_at_call 38; (with_reducible refine (quietuslaw12_sanity.yes _ HK.out.hg).mono ?_); rintro e w1 ⟨rfl, hb⟩; have HBn := Aside0.mk (below_step HB.out hb); have HKn := Aside0.mk (HK.out.below hb); clear HB HK cHK0 cHK1 cHK2 cHK3 cHK4 hb; have HB := HBn; have HK := HKn; clear HBn HKn; have cHK0 := HK.out.c0; have cHK1 := HK.out.c1; have cHK2 := HK.out.c2; have cHK3 := HK.out.c3; have cHK4 := HK.out.c4))
   go_ret
   exact ⟨rfl, HB.out⟩
set_option maxHeartbeats 4000000 in
set_option maxRecDepth 100000 in
theorem law12_cond.main (k : Nat) (d : Int) (A : Option Addr) (c : Nat) (l : List (List Int)) (m : Int) (Aa : Option Addr) (ca : Nat) (pl : List Int) (Ac : Option Addr) (cc : Nat) (ch : List Int) (dom : Int) (dd : Nat) (x y z q : Int) (w : World) (hG : HG w) (hC : Kd.C (Kd.slice 3 (Kd.int .i64)) w A l.length l) (hc : l.length ≤ c) (hP : (Kd.int .i64).C w Aa pl.length pl) (hca : pl.length ≤ ca) (hH : (Kd.int .i64).C w Ac ch.length ch) (hcc : ch.length ≤ cc)
  (hfew : quietusref12_Few.f k d l m pl ch 9 = some true) (hchk : risk_Check.f k d l m pl ch = some 0) (hn : ch.length ≤ 12) (hn0 : dd < ch.length) (ho0 : 0 ≤ dom) (ho1 : dom < 256) (hdd : dom % (ch.length : Int) = (dd : Int)) (hq : rd ch (dd : Int) = q)
  (h1 : risk_Loss.f k d l m pl ch = some (x, 0)) (h2 : risk_Loss.f k d l m pl (ch.set dd 16) = some (y, 0)) (h3 : risk_Loss.f k d l m pl (ch.set dd 0) = some (z, 0)) (heq : (wrap64 (16 * x) == wrap64 (wrap64 (q * y) + wrap64 (wrap64 (16 - q) * z))) = true) (h4 : quietusref12_Same.f k d l m pl ch d l m pl ch = some true) :
  Calls Tryd.prog 9 #[.agg #[.int .i64 d, .slice A l.length c, .int .i64 m, .slice Aa pl.length ca, .slice Ac ch.length cc], .int .u8 dom] w fun e w' => e = .returned (.bool true) ∧ Below w.heap.size w w' := by
 have HFEW := Aside0.mk hfew
 have HCHK := Aside0.mk hchk
 have Hdd := Aside0.mk hdd
 have Hq := Aside0.mk hq
 have H1 := Aside0.mk h1
 have H2 := Aside0.mk h2
 have H3 := Aside0.mk h3
 have Heq := Aside0.mk heq
 have H4 := Aside0.mk h4
 have HK := Aside0.mk (show PerilAt w.heap.size d A c l m Aa ca pl Ac cc ch (w.alloc (.cells #[.int .i64 d, .slice A l.length c, .int .i64 m, .slice Aa pl.length ca, .slice Ac ch.length cc] 64)) from ⟨blk_new _ _, hc, Kd.C_alloc hC _, hca, Kd.C_alloc hP _, hcc, Kd.C_alloc hH _, hG.alloc _⟩)
 have HB := Aside0.mk (below_alloc (Below.refl w.heap.size w) (.cells #[.int .i64 d, .slice A l.length c, .int .i64 m, .slice Aa pl.length ca, .slice Ac ch.length cc] 64))
 have hu64 := Tryd.underlying64
 have hu24 := Tryd.underlying24
 have cHK0 := HK.out.c0
 have cHK1 := HK.out.c1
 have cHK2 := HK.out.c2
 have cHK3 := HK.out.c3
 have cHK4 := HK.out.c4
 clear hG hC hc hP hca hH hcc
 clear hfew hchk hdd hq h1 h2 h3 heq h4
 have HL1 := Aside0.mk (show (ch.set dd 16).length = ch.length by rw [List.length_set])
 have HL0 := Aside0.mk (show (ch.set dd 0).length = ch.length by rw [List.length_set])
 have HN0 := Aside0.mk hn0
 have HN1 := Aside0.mk hn
 have b3 : ((ch.length : Int) == 0) = false := beq_eq_false_iff_ne.2 (by omega)
 have b4 : (ch.length == 0) = false := beq_eq_false_iff_ne.2 (by omega)
 have hpos : (0 : Int) < (ch.length : Int) := by omega
 have hne : (ch.length : Int) ≠ 0 := by omega
 go_enter Tryd.func9, Tryd.ntmps9
 go_upto_region 5 with (first | (go_at_call 37; (with_reducible refine (HK.out.few HFEW.out).mono ?_); rintro e w1 ⟨rfl, hb⟩; have HBn := Aside0.mk (below_step HB.out hb); have HKn := Aside0.mk (HK.out.below hb); clear HB HK cHK0 cHK1 cHK2 cHK3 cHK4 hb; have HB := HBn; have HK := HKn; clear HBn HKn; have cHK0 := HK.out.c0; have cHK1 := HK.out.c1; have cHK2 := HK.out.c2; have cHK3 := HK.out.c3; have cHK4 := HK.out.c4) | (go_at_call 50; (with_reducible refine (HK.out.check HCHK.out).mono ?_); rintro e w1 ⟨rfl, hb⟩; have HBn := Aside0.mk (below_step HB.out hb); have HKn := Aside0.mk (HK.out.below hb); clear HB HK cHK0 cHK1 cHK2 cHK3 cHK4 hb; have HB := HBn; have HK := HKn; clear HBn HKn; have cHK0 := HK.out.c0; have cHK1 := HK.out.c1; have cHK2 := HK.out.c2; have cHK3 := HK.out.c3; have cHK4 := HK.out.c4))
 rw [Hdd.out]
 clear hpos hne b3 b4
 go_upto_region 6 with (first | (go_at_call 53; (with_reducible refine (HK.out.given dd true HN0.out (Nat.le_trans HN1.out (by decide)) HCHK.out).mono ?_); rintro e w1 ⟨g1, cp1, rfl, hR, hb⟩; have HRn_ := Aside0.mk (show Kd.R (Kd.int .i64) 3 _ _ (fun _ => True) (.slice (some ⟨g1, 0, none⟩) ch.length cp1) (ch.set dd 16) from hR); clear hR; have HBn := Aside0.mk (below_step HB.out hb); have HKn := Aside0.mk (HK.out.below hb); clear HB HK cHK0 cHK1 cHK2 cHK3 cHK4 hb; have HB := HBn; have HK := HKn; clear HBn HKn; have cHK0 := HK.out.c0; have cHK1 := HK.out.c1; have cHK2 := HK.out.c2; have cHK3 := HK.out.c3; have cHK4 := HK.out.c4))
 have HK1 := Aside0.mk (show PerilAt w1.heap.size d A c l m Aa ca pl (some ⟨g1, 0, none⟩) cp1 (ch.set dd 16) (w1.alloc (.cells #[.int .i64 d, .slice A l.length c, .int .i64 m, .slice Aa pl.length ca, .slice (some ⟨g1, 0, none⟩) ch.length cp1] 64)) from ⟨by rw [HL1.out]; exact blk_new _ _, HK.out.hc, Kd.C_alloc HK.out.hgr _, HK.out.hca, Kd.C_alloc HK.out.hpl _, by rw [HL1.out]; have := (Kd.R_reads' HRn_.out).2.1; exact this, Kd.C_alloc (Kd.R_reads' HRn_.out).2.2 _, HK.out.hg.alloc _⟩)
 clear HRn_
 have hb := below_alloc (Below.refl w1.heap.size w1) (.cells #[.int .i64 d, .slice A l.length c, .int .i64 m, .slice Aa pl.length ca, .slice (some ⟨g1, 0, none⟩) ch.length cp1] 64)
 have HBn := Aside0.mk (below_step HB.out hb)
 have HKn := Aside0.mk (HK.out.below hb)
 clear HB HK cHK0 cHK1 cHK2 cHK3 cHK4 hb
 have HB := HBn
 have HK := HKn
 clear HBn HKn
 have cHK0 := HK.out.c0
 have cHK1 := HK.out.c1
 have cHK2 := HK.out.c2
 have cHK3 := HK.out.c3
 have cHK4 := HK.out.c4
 generalize w1.alloc (.cells #[.int .i64 d, .slice A l.length c, .int .i64 m, .slice Aa pl.length ca, .slice (some ⟨g1, 0, none⟩) ch.length cp1] 64) = ws at *
 have cHK10 := HK1.out.c0
 have cHK11 := HK1.out.c1
 have cHK12 := HK1.out.c2
 have cHK13 := HK1.out.c3
 have cHK14 := HK1.out.c4' HL1.out
 go_upto_region 7 with (first | (go_at_call 53; (with_reducible refine (HK.out.given dd false HN0.out (Nat.le_trans HN1.out (by decide)) HCHK.out).mono ?_); rintro e w1 ⟨g0, cp0, rfl, hR, hb⟩; have HRn_ := Aside0.mk (show Kd.R (Kd.int .i64) 3 _ _ (fun _ => True) (.slice (some ⟨g0, 0, none⟩) ch.length cp0) (ch.set dd 0) from hR); clear hR; have HBn := Aside0.mk (below_step HB.out hb); have HKn := Aside0.mk (HK.out.below hb); have HK1n := Aside0.mk (HK1.out.below hb); clear HB HK HK1 cHK0 cHK1 cHK2 cHK3 cHK4 cHK10 cHK11 cHK12 cHK13 cHK14 hb; have HB := HBn; have HK := HKn; have HK1 := HK1n; clear HBn HKn HK1n; have cHK0 := HK.out.c0; have cHK1 := HK.out.c1; have cHK2 := HK.out.c2; have cHK3 := HK.out.c3; have cHK4 := HK.out.c4; have cHK10 := HK1.out.c0; have cHK11 := HK1.out.c1; have cHK12 := HK1.out.c2; have cHK13 := HK1.out.c3; have cHK14 := HK1.out.c4' HL1.out))
 have HK0 := Aside0.mk (show PerilAt w1.heap.size d A c l m Aa ca pl (some ⟨g0, 0, none⟩) cp0 (ch.set dd 0) (w1.alloc (.cells #[.int .i64 d, .slice A l.length c, .int .i64 m, .slice Aa pl.length ca, .slice (some ⟨g0, 0, none⟩) ch.length cp0] 64)) from ⟨by rw [HL0.out]; exact blk_new _ _, HK.out.hc, Kd.C_alloc HK.out.hgr _, HK.out.hca, Kd.C_alloc HK.out.hpl _, by rw [HL0.out]; have := (Kd.R_reads' HRn_.out).2.1; exact this, Kd.C_alloc (Kd.R_reads' HRn_.out).2.2 _, HK.out.hg.alloc _⟩)
 clear HRn_
 have hb := below_alloc (Below.refl w1.heap.size w1) (.cells #[.int .i64 d, .slice A l.length c, .int .i64 m, .slice Aa pl.length ca, .slice (some ⟨g0, 0, none⟩) ch.length cp0] 64)
 have HBn := Aside0.mk (below_step HB.out hb)
 have HKn := Aside0.mk (HK.out.below hb)
 have HK1n := Aside0.mk (HK1.out.below hb)
 clear HB HK HK1 cHK0 cHK1 cHK2 cHK3 cHK4 cHK10 cHK11 cHK12 cHK13 cHK14 hb
 have HB := HBn
 have HK := HKn
 have HK1 := HK1n
 clear HBn HKn HK1n
 have cHK0 := HK.out.c0
 have cHK1 := HK.out.c1
 have cHK2 := HK.out.c2
 have cHK3 := HK.out.c3
 have cHK4 := HK.out.c4
 have cHK10 := HK1.out.c0
 have cHK11 := HK1.out.c1
 have cHK12 := HK1.out.c2
 have cHK13 := HK1.out.c3
 have cHK14 := HK1.out.c4' HL1.out
 generalize w1.alloc (.cells #[.int .i64 d, .slice A l.length c, .int .i64 m, .slice Aa pl.length ca, .slice (some ⟨g0, 0, none⟩) ch.length cp0] 64) = ws at *
 have cHK00 := HK0.out.c0
 have cHK01 := HK0.out.c1
 have cHK02 := HK0.out.c2
 have cHK03 := HK0.out.c3
 have cHK04 := HK0.out.c4' HL0.out
 have hd16 : rd (ch.set dd 16) (dd : Int) = 16 := by rw [rdi (by rw [HL1.out]; exact hn0), List.getElem_set_self]
 have hd0 : rd (ch.set dd 0) (dd : Int) = 0 := by rw [rdi (by rw [HL0.out]; exact hn0), List.getElem_set_self]
 obtain ⟨a1, e1, hx1⟩ := at_int_nat HK1.out.hch dd (by rw [HL1.out]; exact hn0)
 obtain rfl : (⟨g1, 0, none⟩ : Addr) = a1 := by injection e1
 obtain ⟨a0, e0, hx0⟩ := at_int_nat HK0.out.hch dd (by rw [HL0.out]; exact hn0)
 obtain rfl : (⟨g0, 0, none⟩ : Addr) = a0 := by injection e0
 rw [hd16, show (⟨g1, 0, none⟩ : Addr).add dd = ⟨g1, dd, none⟩ from add_plain _ _] at hx1
 rw [hd0, show (⟨g0, 0, none⟩ : Addr).add dd = ⟨g0, dd, none⟩ from add_plain _ _] at hx0
 clear hd16 hd0 e1 e0
 go_upto_region 9 with fail
 clear hx0 hx1
 go_upto_region 12 with (first | (go_at_call 42; (with_reducible refine (HK.out.loss H1.out).mono ?_); rintro e w1 ⟨rfl, hb⟩; have HBn := Aside0.mk (below_step HB.out hb); have HKn := Aside0.mk (HK.out.below hb); have HK1n := Aside0.mk (HK1.out.below hb); have HK0n := Aside0.mk (HK0.out.below hb); clear HB HK HK1 HK0 cHK0 cHK1 cHK2 cHK3 cHK4 cHK10 cHK11 cHK12 cHK13 cHK14 cHK00 cHK01 cHK02 cHK03 cHK04 hb; have HB := HBn; have HK := HKn; have HK1 := HK1n; have HK0 := HK0n; clear HBn HKn HK1n HK0n; have cHK0 := HK.out.c0; have cHK1 := HK.out.c1; have cHK2 := HK.out.c2; have cHK3 := HK.out.c3; have cHK4 := HK.out.c4; have cHK10 := HK1.out.c0; have cHK11 := HK1.out.c1; have cHK12 := HK1.out.c2; have cHK13 := HK1.out.c3; have cHK14 := HK1.out.c4' HL1.out; have cHK00 := HK0.out.c0; have cHK01 := HK0.out.c1; have cHK02 := HK0.out.c2; have cHK03 := HK0.out.c3; have cHK04 := HK0.out.c4' HL0.out) | (go_at_call 42; (with_reducible refine (HK1.out.loss' H2.out rfl HL1.out).mono ?_); rintro e w1 ⟨rfl, hb⟩; have HBn := Aside0.mk (below_step HB.out hb); have HKn := Aside0.mk (HK.out.below hb); have HK1n := Aside0.mk (HK1.out.below hb); have HK0n := Aside0.mk (HK0.out.below hb); clear HB HK HK1 HK0 cHK0 cHK1 cHK2 cHK3 cHK4 cHK10 cHK11 cHK12 cHK13 cHK14 cHK00 cHK01 cHK02 cHK03 cHK04 hb; have HB := HBn; have HK := HKn; have HK1 := HK1n; have HK0 := HK0n; clear HBn HKn HK1n HK0n; have cHK0 := HK.out.c0; have cHK1 := HK.out.c1; have cHK2 := HK.out.c2; have cHK3 := HK.out.c3; have cHK4 := HK.out.c4; have cHK10 := HK1.out.c0; have cHK11 := HK1.out.c1; have cHK12 := HK1.out.c2; have cHK13 := HK1.out.c3; have cHK14 := HK1.out.c4' HL1.out; have cHK00 := HK0.out.c0; have cHK01 := HK0.out.c1; have cHK02 := HK0.out.c2; have cHK03 := HK0.out.c3; have cHK04 := HK0.out.c4' HL0.out) | (go_at_call 42; (with_reducible refine (HK0.out.loss' H3.out rfl HL0.out).mono ?_); rintro e w1 ⟨rfl, hb⟩; have HBn := Aside0.mk (below_step HB.out hb); have HKn := Aside0.mk (HK.out.below hb); have HK1n := Aside0.mk (HK1.out.below hb); have HK0n := Aside0.mk (HK0.out.below hb); clear HB HK HK1 HK0 cHK0 cHK1 cHK2 cHK3 cHK4 cHK10 cHK11 cHK12 cHK13 cHK14 cHK00 cHK01 cHK02 cHK03 cHK04 hb; have HB := HBn; have HK := HKn; have HK1 := HK1n; have HK0 := HK0n; clear HBn HKn HK1n HK0n; have cHK0 := HK.out.c0; have cHK1 := HK.out.c1; have cHK2 := HK.out.c2; have cHK3 := HK.out.c3; have cHK4 := HK.out.c4; have cHK10 := HK1.out.c0; have cHK11 := HK1.out.c1; have cHK12 := HK1.out.c2; have cHK13 := HK1.out.c3; have cHK14 := HK1.out.c4' HL1.out; have cHK00 := HK0.out.c0; have cHK01 := HK0.out.c1; have cHK02 := HK0.out.c2; have cHK03 := HK0.out.c3; have cHK04 := HK0.out.c4' HL0.out))
 obtain ⟨ac, eac, hxc⟩ := at_int_nat HK.out.hch dd HN0.out
 rw [Hq.out] at hxc
 subst eac
 go_upto_region 13 with fail
 clear hxc
 go_upto_region 14 with fail
 have HBK := Aside0.mk (blk_new w1 (.cells #[.int .i64 d, .slice A l.length c, .int .i64 m, .slice Aa pl.length ca, .slice (some ⟨g1, 0, none⟩) ch.length cp1] 64))
 have HBE := Aside0.mk (below_alloc (Below.refl w1.heap.size w1) (.cells #[.int .i64 d, .slice A l.length c, .int .i64 m, .slice Aa pl.length ca, .slice (some ⟨g1, 0, none⟩) ch.length cp1] 64))
 clear cHK0 cHK1 cHK2 cHK3 cHK4 cHK10 cHK11 cHK12 cHK13 cHK14 cHK00 cHK01 cHK02 cHK03 cHK04
 have HWG := Aside0.mk (Nat.le_refl w1.heap.size)
 generalize w1.alloc (.cells #[.int .i64 d, .slice A l.length c, .int .i64 m, .slice Aa pl.length ca, .slice (some ⟨g1, 0, none⟩) ch.length cp1] 64) = wb at *
 have hgbl := blk_lt HBK.out
 have HGBL := Aside0.mk hgbl
 have hlt1 := blk_lt (HK1.out.below HBE.out).1
 have HCH1 := Aside0.mk (show (Kd.int .i64).C wb (some ⟨g1, 0, none⟩) ch.length (ch.set dd 16) from by have h5 := (HK1.out.below HBE.out).hch; rw [HL1.out] at h5; exact h5)
 have hy4 : wb.cell? ⟨w1.heap.size, 4, none⟩ = some (.slice (some ⟨g1, 0, none⟩) ch.length cp1) := blk_cell HBK.out 4
 have c14 : wb.cell? ⟨_, 4, none⟩ = some (.slice (some ⟨g1, 0, none⟩) ch.length cp1) := (HK1.out.below HBE.out).c4' HL1.out
 go_upto_region 15 with (first | (at_builtin; refine Kd.R_append_row (Value.int .i64) (0 : Int) (h1 := fun _ => rfl) (w0 := wb) wb.heap.size rfl (.tmp 114) (.tmp 116) 60 3 (.int .i64 0) 8 rfl Tryd.underlying60 info3 rfl (by decide) _ [] (ch.set dd 16) (some ⟨g1, 0, none⟩) ch.length cp1 (fun _ => True) rfl rfl (fun _ _ => trivial) ?uB1 ?uB2 ?uB3 ?uB4 ?uB5 ?_; (case uB1 => exact Kd.R_mono (arr_own (k := .i64) (xs := []) (blk_new wb _) (Nat.le_refl _) (by simp) 0 rfl) (fun _ _ => trivial)); (case uB2 => exact Kd.C_below HCH1.out (below_alloc (Below.refl _ _) _)); (case uB3 => exact (below_alloc (Below.refl _ _) _)); (case uB4 => (rw [World.size_alloc]; omega)); (case uB5 => (simp; omega)); intro v5 w5 ho hb hg hat; rw [List.nil_append] at ho; obtain ⟨g5, c5, hv, hgb, hgl, _⟩ := Kd.R_form ho (by rw [HL1.out]; omega); rw [HL1.out] at hv; subst hv; have HR5 := Aside0.mk ho; have HGB := Aside0.mk hgb; have HBK5 := Aside0.mk (blk_below HBK.out hb); have HBE5 := Aside0.mk (below_step HBE.out hb); clear ho hb hg hat hgb hgl hy4 c14; have hy4 := blk_cell HBK5.out 4; have hf4 := blk_frozen HBK5.out 4))
 have HR6 := Aside0.mk (Kd.R_set (show Kd.R (Kd.int .i64) 3 _ _ (fun _ => True) _ _ from HR5.out) HBK5.out (by decide) 4 (.slice (some ⟨g5, 0, none⟩) ch.length c5))
 have HBK6 := Aside0.mk (blk_set HBK5.out 4 (.slice (some ⟨g5, 0, none⟩) ch.length c5))
 have HBE6 := Aside0.mk (below_set (j := 4) (v := (.slice (some ⟨g5, 0, none⟩) ch.length c5)) HBE5.out (Nat.le_refl _))
 have hg5 : w1.heap.size < g5 := Nat.lt_of_lt_of_le HGBL.out HGB.out
 have HG5 := Aside0.mk hg5
 clear HR5 HBK5 HBE5 hy4 hf4 HBK HBE hgbl hlt1 HCH1 HGB HGBL hg5
 generalize w5.setCell ⟨w1.heap.size, 4, none⟩ (.slice (some ⟨g5, 0, none⟩) ch.length c5) = w6 at *
 have hy4 : w6.cell? ⟨w1.heap.size, 4, none⟩ = some (.slice (some ⟨g5, 0, none⟩) ch.length c5) := blk_cell HBK6.out 4
 obtain ⟨hom, hfz⟩ := Kd.R_celln (0 : Int) HR6.out ((dd : Nat) : Int) (by omega) (by omega)
 rw [Int.toNat_natCast] at hom hfz
 go_upto_region 16 with fail
 have HR7 := Aside0.mk (Kd.R_putn HR6.out ((dd : Nat) : Int) q)
 rw [Int.toNat_natCast, List.set_set, show ch.set dd q = ch by rw [← Hq.out, rdi HN0.out]; exact List.set_getElem_self _] at HR7
 have HBK7 := Aside0.mk (blk_far HBK6.out (p := ⟨g5, dd, none⟩) (by show w1.heap.size ≠ g5; have := HG5.out; omega) (.int .i64 q))
 have HBE7 := Aside0.mk (below_set (j := dd) (v := .int .i64 q) HBE6.out (Nat.le_of_lt HG5.out))
 clear HR6 HBK6 HBE6 hy4 hom hfz
 generalize w6.setCell ⟨g5, dd, none⟩ (.int .i64 q) = w7 at *
 have HKf := Aside0.mk (HK.out.below HBE7.out)
 have HBf := Aside0.mk (below_step HB.out HBE7.out)
 have HQ := Aside0.mk (show PerilAt w1.heap.size d A c l m Aa ca pl (some ⟨g5, 0, none⟩) c5 ch w7 from ⟨HBK7.out, HKf.out.hc, HKf.out.hgr, HKf.out.hca, HKf.out.hpl, (Kd.R_reads' HR7.out).2.1, (Kd.R_reads' HR7.out).2.2, HKf.out.hg⟩)
 clear HK HB HK1 HK0 HR7 HBK7 HBE7
 have HK := HKf
 have HB := HBf
 clear HKf HBf
 have cHK0 := HK.out.c0
 have cHK1 := HK.out.c1
 have cHK2 := HK.out.c2
 have cHK3 := HK.out.c3
 have cHK4 := HK.out.c4
 have cHQ0 := HQ.out.c0
 have cHQ1 := HQ.out.c1
 have cHQ2 := HQ.out.c2
 have cHQ3 := HQ.out.c3
 have cHQ4 := HQ.out.c4
 have heq := Heq.out
 go_wp2_with (first | (go_at_call 38; (with_reducible refine (quietuslaw12_sanity.yes _ HK.out.hg).mono ?_); rintro e w1 ⟨rfl, hb⟩; have HBn := Aside0.mk (below_step HB.out hb); have HKn := Aside0.mk (HK.out.below hb); have HQn := Aside0.mk (HQ.out.below hb); clear HB HK HQ cHK0 cHK1 cHK2 cHK3 cHK4 cHQ0 cHQ1 cHQ2 cHQ3 cHQ4 hb; have HB := HBn; have HK := HKn; have HQ := HQn; clear HBn HKn HQn; have cHK0 := HK.out.c0; have cHK1 := HK.out.c1; have cHK2 := HK.out.c2; have cHK3 := HK.out.c3; have cHK4 := HK.out.c4; have cHQ0 := HQ.out.c0; have cHQ1 := HQ.out.c1; have cHQ2 := HQ.out.c2; have cHQ3 := HQ.out.c3; have cHQ4 := HQ.out.c4) | (go_at_call 54; (with_reducible refine (HQ.out.same' HK.out H4.out rfl rfl).mono ?_); rintro e w1 ⟨rfl, hb⟩; have HBn := Aside0.mk (below_step HB.out hb); have HKn := Aside0.mk (HK.out.below hb); have HQn := Aside0.mk (HQ.out.below hb); clear HB HK HQ cHK0 cHK1 cHK2 cHK3 cHK4 cHQ0 cHQ1 cHQ2 cHQ3 cHQ4 hb; have HB := HBn; have HK := HKn; have HQ := HQn; clear HBn HKn HQn; have cHK0 := HK.out.c0; have cHK1 := HK.out.c1; have cHK2 := HK.out.c2; have cHK3 := HK.out.c3; have cHK4 := HK.out.c4; have cHQ0 := HQ.out.c0; have cHQ1 := HQ.out.c1; have cHQ2 := HQ.out.c2; have cHQ3 := HQ.out.c3; have cHQ4 := HQ.out.c4))
 go_ret
 exact ⟨rfl, HB.out⟩


/-! ### quietusref07_Few: function 14 -/
def quietusref07_Few.l0 : Nat → Int → Int → List (List Int) → Int → Option (Bool)
 | 0, _, _, _, _ => none
 | k + 1, x5, x102000, x102001, x102002 => if x5 < (x102001.length : Int) then (if 0 ≤ x5 then (if ((rd_L1 x102001 x5).length : Int) > 20 then (some false) else (quietusref07_Few.l0 k (wrap64 (x5 + 1)) x102000 x102001 x102002)) else (none)) else (some true)
def quietusref07_Few.f (k : Nat) (a0_0 : Int) (l0_1 : List (List Int)) (a0_2 : Int) (a1 : Int) : Option (Bool) := if (l0_1.length : Int) > a1 then (some false) else (quietusref07_Few.l0 k 0 a0_0 l0_1 a0_2)
set_option maxHeartbeats 8000000 in
set_option maxRecDepth 100000 in
theorem quietusref07_Few.calls (k : Nat) (a0_0 : Int) (A0_1 : Option Addr) (c0_1 : Nat) (l0_1 : List (List Int)) (a0_2 : Int) (a1 : Int) (r : Bool) (w : World) (hG : HG w) (hr0_1 : Kd.C (Kd.slice 3 (Kd.int .i64)) w A0_1 l0_1.length l0_1) (hc0_1 : l0_1.length ≤ c0_1) (h : quietusref07_Few.f k a0_0 l0_1 a0_2 a1 = some r) :
  Calls Tryd.prog 14 #[.agg #[.int .i64 a0_0, .slice A0_1 l0_1.length c0_1, .int .i64 a0_2], .int .i64 a1] w fun e w' => e = .returned (.bool r) ∧ Below w.heap.size w w' := by
 have HGw := Aside0.mk hG
 clear hG
 have hu24 := Tryd.underlying24
 have HR0_1 := Aside0.mk hr0_1
 have HC0_1 := Aside0.mk hc0_1
 clear hr0_1 hc0_1
 have HB := Aside0.mk (Below.refl w.heap.size w)
 have H : (if (l0_1.length : Int) > a1 then (some false) else (quietusref07_Few.l0 k 0 a0_0 l0_1 a0_2)) = some r := h
 clear h
 by_cases c3 : (l0_1.length : Int) > a1
 ·rw [if_pos c3] at H
  have c3b0 : decide (a1 < (l0_1.length : Int)) = true := decide_eq_true c3
  clear c3
  obtain rfl := Option.some.inj H
  go_enter Tryd.func14, Tryd.ntmps14
  go_wp2_with (first | ((with_reducible refine gate_dst (N := 2) rfl ?_); refine box_event ?hg (N := 2) ?hd (cs := #[.int .i64 a0_0, .slice A0_1 l0_1.length c0_1, .int .i64 a0_2]) (t := 24) ?hr ?_; (case hd => rfl); (case hg => rfl); (case hr => first | (go_simp; done) | (go_simp; rfl)); intro gb101 hg w4 hbox hb; have n0_ := Aside0.mk (below_step (by repeat (first | (with_reducible first | exact HB.out | apply below_alloc | apply pw_below_drewN | apply below_drew1) | exact HB.out)) hb); have n1_ := Aside0.mk (hbox); have n2_ := Aside0.mk ((by rw [hg]; exact (below_size (by repeat (first | (with_reducible first | exact HB.out | apply below_alloc | apply pw_below_drewN | apply below_drew1) | exact HB.out))) : w.heap.size ≤ gb101)); have n3_ := Aside0.mk ((by rw [hg]; exact (below_size (by repeat (first | (with_reducible first | exact HB.out | apply below_alloc | apply pw_below_drewN | apply below_drew1) | exact HB.out))) : w.heap.size ≤ gb101)); clear HB; have HB := n0_; have BK101 := n1_; have GW101 := n2_; have GE101 := n3_; clear n0_ n1_ n2_ n3_; clear hb hbox hg; have hcz5_0 : w4.cell? ⟨gb101, 0, none⟩ = some (.int .i64 a0_0) := (blk_cell BK101.out 0).trans rfl; have hcz5_1 : w4.cell? ⟨gb101, 1, none⟩ = some (.slice A0_1 l0_1.length c0_1) := (blk_cell BK101.out 1).trans rfl; have hcz5_2 : w4.cell? ⟨gb101, 2, none⟩ = some (.int .i64 a0_2) := (blk_cell BK101.out 2).trans rfl; have hfz5_0 := blk_frozen BK101.out 0; have hfz5_1 := blk_frozen BK101.out 1; have hfz5_2 := blk_frozen BK101.out 2))
  go_ret
  exact ⟨by first | rfl | (simp [errW_none, errW_some] <;> rfl) | (simp [*, errW_none, errW_some] <;> rfl), by repeat (first | (with_reducible first | exact HB.out | apply below_alloc | apply pw_below_drewN | apply below_drew1 | refine below_set ?_ GE101.out) | exact HB.out)⟩
 ·rw [if_neg c3] at H
  have c3b0 : decide (a1 < (l0_1.length : Int)) = false := decide_eq_false c3
  clear c3
  have H' := Aside0.mk H
  clear H
  go_enter Tryd.func14, Tryd.ntmps14
  go_wp2_with (first | ((with_reducible refine gate_dst (N := 2) rfl ?_); refine box_event ?hg (N := 2) ?hd (cs := #[.int .i64 a0_0, .slice A0_1 l0_1.length c0_1, .int .i64 a0_2]) (t := 24) ?hr ?_; (case hd => rfl); (case hg => rfl); (case hr => first | (go_simp; done) | (go_simp; rfl)); intro gb101 hg w6 hbox hb; have n0_ := Aside0.mk (below_step (by repeat (first | (with_reducible first | exact HB.out | apply below_alloc | apply pw_below_drewN | apply below_drew1) | exact HB.out)) hb); have n1_ := Aside0.mk (hbox); have n2_ := Aside0.mk ((by rw [hg]; exact (below_size (by repeat (first | (with_reducible first | exact HB.out | apply below_alloc | apply pw_below_drewN | apply below_drew1) | exact HB.out))) : w.heap.size ≤ gb101)); have n3_ := Aside0.mk ((by rw [hg]; exact (below_size (by repeat (first | (with_reducible first | exact HB.out | apply below_alloc | apply pw_below_drewN | apply below_drew1) | exact HB.out))) : w.heap.size ≤ gb101)); clear HB; have HB := n0_; have BK101 := n1_; have GW101 := n2_; have GE101 := n3_; clear n0_ n1_ n2_ n3_; clear hb hbox hg; have hcz7_0 : w6.cell? ⟨gb101, 0, none⟩ = some (.int .i64 a0_0) := (blk_cell BK101.out 0).trans rfl; have hcz7_1 : w6.cell? ⟨gb101, 1, none⟩ = some (.slice A0_1 l0_1.length c0_1) := (blk_cell BK101.out 1).trans rfl; have hcz7_2 : w6.cell? ⟨gb101, 2, none⟩ = some (.int .i64 a0_2) := (blk_cell BK101.out 2).trans rfl; have hfz7_0 := blk_frozen BK101.out 0; have hfz7_1 := blk_frozen BK101.out 1; have hfz7_2 := blk_frozen BK101.out 2))
  go_loopg [5] k (fun kq v5 w' => ∃ (x5_1 : Int), v5 = .int .i64 x5_1 ∧ Aside0 (quietusref07_Few.l0 kq x5_1 a0_0 l0_1 a0_2 = some r) ∧ Aside0 (kq ≤ k) ∧ Aside0 (w'.heap[gb101]? = some (.cells #[.int .i64 a0_0, (.slice A0_1 l0_1.length c0_1), .int .i64 a0_2] 24 (0, 0))) ∧ Aside0 (Below w.heap.size w w'))
  case atStart => exact ⟨(0), (by first | rfl | (simp; done) | (simp [*]; done)), H', ⟨Nat.le_refl _⟩, ⟨by (with_reducible repeat (first | refine blk_drewN ?_ _ | refine blk_drew ?_ | refine blk_alloc ?_ _)); exact BK101.out⟩, ⟨by repeat (first | (with_reducible first | exact HB.out | apply below_alloc | apply pw_below_drewN | apply below_drew1 | refine below_set ?_ GE101.out) | exact HB.out)⟩⟩
  case round =>
   clear H'
   try clear c1
   try clear p2
   try clear c3
   try clear c3b0
   try clear hcz5_0
   try clear hcz5_1
   try clear hcz5_2
   try clear hcz7_0
   try clear hcz7_1
   try clear hcz7_2
   try clear hfz5_0
   try clear hfz5_1
   try clear hfz5_2
   try clear hfz7_0
   try clear hfz7_1
   try clear hfz7_2
   obtain ⟨x5_1, rfl, HA, HK1, BK101, HB⟩ := hrel
   cases gk with
   | zero => exact absurd HA.out (by simp [quietusref07_Few.l0])
   | succ k1 =>
    have H := HA.out
    clear HA
    simp only [quietusref07_Few.l0] at H
    by_cases c8 : x5_1 < (l0_1.length : Int)
    ·rw [if_pos c8] at H
     have c8b0 : decide (x5_1 < (l0_1.length : Int)) = true := decide_eq_true c8
     clear c8
     by_cases c9 : 0 ≤ x5_1
     ·rw [if_pos c9] at H
      have c9b0 : decide (0 ≤ x5_1) = true := decide_eq_true c9
      clear c9
      by_cases c10 : ((rd_L1 l0_1 x5_1).length : Int) > 20
      ·rw [if_pos c10] at H
       have c10b0 : decide (20 < ((rd_L1 l0_1 x5_1).length : Int)) = true := decide_eq_true c10
       have c10b1 : decide (20 < (rd_L1 l0_1 x5_1).length) = true := decide_eq_true (by omega)
       clear c10
       obtain rfl := Option.some.inj H
       have hcz11_0 : wr.cell? ⟨gb101, 0, none⟩ = some (.int .i64 a0_0) := (blk_cell BK101.out 0).trans rfl
       have hcz11_1 : wr.cell? ⟨gb101, 1, none⟩ = some (.slice A0_1 l0_1.length c0_1) := (blk_cell BK101.out 1).trans rfl
       have hcz11_2 : wr.cell? ⟨gb101, 2, none⟩ = some (.int .i64 a0_2) := (blk_cell BK101.out 2).trans rfl
       have hfz11_0 := blk_frozen BK101.out 0
       have hfz11_1 := blk_frozen BK101.out 1
       have hfz11_2 := blk_frozen BK101.out 2
       have p102 : 0 ≤ (x5_1 : Int) := of_decide_eq_true (by first | (with_reducible assumption) | assumption)
       have q102 : x5_1 < (l0_1.length : Int) := of_decide_eq_true (by first | (with_reducible assumption) | assumption)
       obtain ⟨ad102, A102_0, c102_0, e102, hx102_0, hl102_0, hi102_0⟩ := at_L1 HR0_1.out x5_1 p102 q102
       cases e102
       replace hx102_0 := (HB.out.cell (World.block_lt_of_cell? w _ hx102_0)).trans hx102_0
       have HR102_0 := Aside0.mk hi102_0
       have HC102_0 := Aside0.mk hl102_0
       clear hi102_0 hl102_0
       replace p102 := eq_true p102
       replace q102 := eq_true q102
       go_wp2
       go_ret
       exact ⟨by first | rfl | (simp [errW_none, errW_some] <;> rfl) | (simp [*, errW_none, errW_some] <;> rfl), by repeat (first | (with_reducible first | exact HB.out | apply below_alloc | apply pw_below_drewN | apply below_drew1 | refine below_set ?_ GE101.out) | exact HB.out)⟩
      ·rw [if_neg c10] at H
       have c10b0 : decide (20 < ((rd_L1 l0_1 x5_1).length : Int)) = false := decide_eq_false c10
       have c10b1 : decide (20 < (rd_L1 l0_1 x5_1).length) = false := decide_eq_false (by omega)
       clear c10
       have H' := Aside0.mk H
       clear H
       have hcz12_0 : wr.cell? ⟨gb101, 0, none⟩ = some (.int .i64 a0_0) := (blk_cell BK101.out 0).trans rfl
       have hcz12_1 : wr.cell? ⟨gb101, 1, none⟩ = some (.slice A0_1 l0_1.length c0_1) := (blk_cell BK101.out 1).trans rfl
       have hcz12_2 : wr.cell? ⟨gb101, 2, none⟩ = some (.int .i64 a0_2) := (blk_cell BK101.out 2).trans rfl
       have hfz12_0 := blk_frozen BK101.out 0
       have hfz12_1 := blk_frozen BK101.out 1
       have hfz12_2 := blk_frozen BK101.out 2
       have p102 : 0 ≤ (x5_1 : Int) := of_decide_eq_true (by first | (with_reducible assumption) | assumption)
       have q102 : x5_1 < (l0_1.length : Int) := of_decide_eq_true (by first | (with_reducible assumption) | assumption)
       obtain ⟨ad102, A102_0, c102_0, e102, hx102_0, hl102_0, hi102_0⟩ := at_L1 HR0_1.out x5_1 p102 q102
       cases e102
       replace hx102_0 := (HB.out.cell (World.block_lt_of_cell? w _ hx102_0)).trans hx102_0
       have HR102_0 := Aside0.mk hi102_0
       have HC102_0 := Aside0.mk hl102_0
       clear hi102_0 hl102_0
       replace p102 := eq_true p102
       replace q102 := eq_true q102
       go_wp2
       go_roundg k1
       case measure => have := HK1.out; omega
       case rel => exact ⟨(wrap64 (x5_1 + 1)), (by first | rfl | (simp; done) | (simp [*]; done)), H', ⟨by have := HK1.out; omega⟩, ⟨by (with_reducible repeat (first | refine blk_drewN ?_ _ | refine blk_drew ?_ | refine blk_alloc ?_ _)); exact BK101.out⟩, ⟨by repeat (first | (with_reducible first | exact HB.out | apply below_alloc | apply pw_below_drewN | apply below_drew1 | refine below_set ?_ GE101.out) | exact HB.out)⟩⟩
     ·rw [if_neg c9] at H
      exact absurd H (by simp)
    ·rw [if_neg c8] at H
     have c8b0 : decide (x5_1 < (l0_1.length : Int)) = false := decide_eq_false c8
     clear c8
     obtain rfl := Option.some.inj H
     have hcz13_0 : wr.cell? ⟨gb101, 0, none⟩ = some (.int .i64 a0_0) := (blk_cell BK101.out 0).trans rfl
     have hcz13_1 : wr.cell? ⟨gb101, 1, none⟩ = some (.slice A0_1 l0_1.length c0_1) := (blk_cell BK101.out 1).trans rfl
     have hcz13_2 : wr.cell? ⟨gb101, 2, none⟩ = some (.int .i64 a0_2) := (blk_cell BK101.out 2).trans rfl
     have hfz13_0 := blk_frozen BK101.out 0
     have hfz13_1 := blk_frozen BK101.out 1
     have hfz13_2 := blk_frozen BK101.out 2
     go_wp2
     go_ret
     exact ⟨by first | rfl | (simp [errW_none, errW_some] <;> rfl) | (simp [*, errW_none, errW_some] <;> rfl), by repeat (first | (with_reducible first | exact HB.out | apply below_alloc | apply pw_below_drewN | apply below_drew1 | refine below_set ?_ GE101.out) | exact HB.out)⟩


/-! ### quietusref07_Has: function 83 -/
def quietusref07_Has.l0 : Nat → List Int → Int → Int → Option (Bool)
 | 0, _, _, _ => none
 | k + 1, x0, x1, x5 => if x5 < (x0.length : Int) then (if 0 ≤ x5 then (if (rd x0 x5) = x1 then (some true) else (quietusref07_Has.l0 k x0 x1 (wrap64 (x5 + 1)))) else (none)) else (some false)
def quietusref07_Has.f (k : Nat) (l0 : List Int) (a1 : Int) : Option (Bool) := quietusref07_Has.l0 k l0 a1 0
set_option maxHeartbeats 8000000 in
set_option maxRecDepth 100000 in
theorem quietusref07_Has.calls (k : Nat) (A0 : Option Addr) (c0 : Nat) (l0 : List Int) (a1 : Int) (r : Bool) (w : World) (hG : HG w) (hr0 : Kd.C (Kd.int .i64) w A0 l0.length l0) (hc0 : l0.length ≤ c0) (h : quietusref07_Has.f k l0 a1 = some r) :
  Calls Tryd.prog 83 #[.slice A0 l0.length c0, .int .i64 a1] w fun e w' => e = .returned (.bool r) ∧ Drawn0 w w' := by
 have HGw := Aside0.mk hG
 clear hG
 have HR0 := Aside0.mk hr0
 have HC0 := Aside0.mk hc0
 clear hr0 hc0
 have H : (quietusref07_Has.l0 k l0 a1 0) = some r := h
 clear h
 have H' := Aside0.mk H
 clear H
 go_enter Tryd.func83, Tryd.ntmps83
 go_wp2
 go_loopg [5] k (fun kq v5 w' => ∃ (x5_1 : Int), v5 = .int .i64 x5_1 ∧ Aside0 (quietusref07_Has.l0 kq l0 a1 x5_1 = some r) ∧ Aside0 (kq ≤ k) ∧ Drawn0 w w')
 case atStart => exact ⟨(0), (by first | rfl | (simp; done) | (simp [*]; done)), H', ⟨Nat.le_refl _⟩, by repeat (first | exact Drawn0.refl _ | apply Drawn0.step)⟩
 case round =>
  clear H'
  try clear p2
  obtain ⟨x5_1, rfl, HA, HK1, ⟨m1, rfl⟩⟩ := hrel
  cases gk with
  | zero => exact absurd HA.out (by simp [quietusref07_Has.l0])
  | succ k1 =>
   have H := HA.out
   clear HA
   simp only [quietusref07_Has.l0] at H
   by_cases c3 : x5_1 < (l0.length : Int)
   ·rw [if_pos c3] at H
    have c3b0 : decide (x5_1 < (l0.length : Int)) = true := decide_eq_true c3
    clear c3
    by_cases c4 : 0 ≤ x5_1
    ·rw [if_pos c4] at H
     have c4b0 : decide (0 ≤ x5_1) = true := decide_eq_true c4
     clear c4
     by_cases c5 : (rd l0 x5_1) = a1
     ·rw [if_pos c5] at H
      have c5b0 : ((rd l0 x5_1) == a1) = true := beq_iff_eq.mpr c5
      have c5b1 : ((rd l0 x5_1) != a1) = false := bne_eq_false_iff_eq.mpr c5
      clear c5
      obtain rfl := Option.some.inj H
      have p103 : 0 ≤ (x5_1 : Int) := of_decide_eq_true (by first | (with_reducible assumption) | assumption)
      have q103 : x5_1 < (l0.length : Int) := of_decide_eq_true (by first | (with_reducible assumption) | assumption)
      obtain ⟨ad103, e103, hx103_0⟩ := Kd.at_int HR0.out x5_1 p103 q103
      cases e103
      replace p103 := eq_true p103
      replace q103 := eq_true q103
      go_wp2
      go_ret
      exact ⟨by first | rfl | (simp; done) | (simp [*]; done), by repeat (first | exact Drawn0.refl _ | apply Drawn0.step)⟩
     ·rw [if_neg c5] at H
      have c5b0 : ((rd l0 x5_1) == a1) = false := beq_eq_false_iff_ne.mpr c5
      have c5b1 : ((rd l0 x5_1) != a1) = true := bne_iff_ne.mpr c5
      have H' := Aside0.mk H
      clear H
      have p103 : 0 ≤ (x5_1 : Int) := of_decide_eq_true (by first | (with_reducible assumption) | assumption)
      have q103 : x5_1 < (l0.length : Int) := of_decide_eq_true (by first | (with_reducible assumption) | assumption)
      obtain ⟨ad103, e103, hx103_0⟩ := Kd.at_int HR0.out x5_1 p103 q103
      cases e103
      replace p103 := eq_true p103
      replace q103 := eq_true q103
      go_wp2
      go_roundg k1
      case measure => have := HK1.out; omega
      case rel => exact ⟨(wrap64 (x5_1 + 1)), (by first | rfl | (simp; done) | (simp [*]; done)), H', ⟨by have := HK1.out; omega⟩, by repeat (first | exact Drawn0.refl _ | apply Drawn0.step)⟩
    ·rw [if_neg c4] at H
     exact absurd H (by simp)
   ·rw [if_neg c3] at H
    have c3b0 : decide (x5_1 < (l0.length : Int)) = false := decide_eq_false c3
    clear c3
    obtain rfl := Option.some.inj H
    go_wp2
    go_ret
    exact ⟨by first | rfl | (simp; done) | (simp [*]; done), by repeat (first | exact Drawn0.refl _ | apply Drawn0.step)⟩


/-! ### quietusref07_group: function 57 -/
mutual
def quietusref07_group.l0 : Nat → Int → Int → Int → List (List Int) → Int → Option (Int)
 | 0, _, _, _, _, _ => none
 | k + 1, x1, x5, x105000, x105001, x105002 => if 0 ≤ x1 then (if x1 < (x105001.length : Int) then (if x5 < ((rd_L1 x105001 x1).length : Int) then (if 0 ≤ x5 then (if (rd (rd_L1 x105001 x1) x5) < 0 then (quietusref07_group.j1 k x1 x5 (rd (rd_L1 x105001 x1) x5) true x105000 x105001 x105002) else (if (rd (rd_L1 x105001 x1) x5) ≥ x105000 then (quietusref07_group.j1 k x1 x5 (rd (rd_L1 x105001 x1) x5) true x105000 x105001 x105002) else (if x5 > 0 then (if 0 ≤ (wrap64 (x5 - 1)) then (if (wrap64 (x5 - 1)) < ((rd_L1 x105001 x1).length : Int) then (quietusref07_group.j1 k x1 x5 (rd (rd_L1 x105001 x1) x5) (decide ((rd (rd_L1 x105001 x1) x5) ≤ (rd (rd_L1 x105001 x1) (wrap64 (x5 - 1))))) x105000 x105001 x105002) else (none)) else (none)) else (quietusref07_group.j1 k x1 x5 (rd (rd_L1 x105001 x1) x5) false x105000 x105001 x105002)))) else (none)) else (some 0)) else (none)) else (none)
def quietusref07_group.j1 : Nat → Int → Int → Int → Bool → Int → List (List Int) → Int → Option (Int)
 | 0, _, _, _, _, _, _, _ => none
 | k + 1, x1, x5, x6, x58, x105000, x105001, x105002 => if x58 = true then (some 1) else (quietusref07_group.l1 k x1 x5 x6 0 x105000 x105001 x105002)
def quietusref07_group.l1 : Nat → Int → Int → Int → Int → Int → List (List Int) → Int → Option (Int)
 | 0, _, _, _, _, _, _, _ => none
 | k + 1, x1, x5, x6, x7, x105000, x105001, x105002 => if x7 < x1 then (if 0 ≤ x7 then (if x7 < (x105001.length : Int) then ((quietusref07_Has.f k (rd_L1 x105001 x7) x6).bind fun t112 => (if t112 = true then (some 1) else (quietusref07_group.l1 k x1 x5 x6 (wrap64 (x7 + 1)) x105000 x105001 x105002))) else (none)) else (none)) else (quietusref07_group.l0 k x1 (wrap64 (x5 + 1)) x105000 x105001 x105002)
end
def quietusref07_group.f (k : Nat) (a0_0 : Int) (l0_1 : List (List Int)) (a0_2 : Int) (a1 : Int) : Option (Int) := if 0 ≤ a1 then (if a1 < (l0_1.length : Int) then (if ((rd_L1 l0_1 a1).length : Int) = 0 then (some 8) else (quietusref07_group.l0 k a1 0 a0_0 l0_1 a0_2)) else (none)) else (none)
set_option maxHeartbeats 8000000 in
set_option maxRecDepth 100000 in
theorem quietusref07_group.calls (k : Nat) (a0_0 : Int) (A0_1 : Option Addr) (c0_1 : Nat) (l0_1 : List (List Int)) (a0_2 : Int) (a1 : Int) (r : Int) (w : World) (hG : HG w) (hr0_1 : Kd.C (Kd.slice 3 (Kd.int .i64)) w A0_1 l0_1.length l0_1) (hc0_1 : l0_1.length ≤ c0_1) (h : quietusref07_group.f k a0_0 l0_1 a0_2 a1 = some r) :
  Calls Tryd.prog 57 #[.agg #[.int .i64 a0_0, .slice A0_1 l0_1.length c0_1, .int .i64 a0_2], .int .i64 a1] w fun e w' => e = .returned (.int .i64 r) ∧ Below w.heap.size w w' := by
 have HGw := Aside0.mk hG
 clear hG
 have hu24 := Tryd.underlying24
 have HR0_1 := Aside0.mk hr0_1
 have HC0_1 := Aside0.mk hc0_1
 clear hr0_1 hc0_1
 have HB := Aside0.mk (Below.refl w.heap.size w)
 have H : (if 0 ≤ a1 then (if a1 < (l0_1.length : Int) then (if ((rd_L1 l0_1 a1).length : Int) = 0 then (some 8) else (quietusref07_group.l0 k a1 0 a0_0 l0_1 a0_2)) else (none)) else (none)) = some r := h
 clear h
 by_cases c3 : 0 ≤ a1
 ·rw [if_pos c3] at H
  have c3b0 : decide (0 ≤ a1) = true := decide_eq_true c3
  clear c3
  by_cases c4 : a1 < (l0_1.length : Int)
  ·rw [if_pos c4] at H
   have c4b0 : decide (a1 < (l0_1.length : Int)) = true := decide_eq_true c4
   clear c4
   by_cases c5 : ((rd_L1 l0_1 a1).length : Int) = 0
   ·rw [if_pos c5] at H
    have c5b0 : (((rd_L1 l0_1 a1).length : Int) == 0) = true := beq_iff_eq.mpr c5
    have c5b1 : (((rd_L1 l0_1 a1).length : Int) != 0) = false := bne_eq_false_iff_eq.mpr c5
    clear c5
    obtain rfl := Option.some.inj H
    go_enter Tryd.func57, Tryd.ntmps57
    go_wp2_with (first | ((with_reducible refine gate_dst (N := 2) rfl ?_); refine box_event ?hg (N := 2) ?hd (cs := #[.int .i64 a0_0, .slice A0_1 l0_1.length c0_1, .int .i64 a0_2]) (t := 24) ?hr ?_; (case hd => rfl); (case hg => rfl); (case hr => first | (go_simp; done) | (go_simp; rfl)); intro gb104 hg w6 hbox hb; have n0_ := Aside0.mk (below_step (by repeat (first | (with_reducible first | exact HB.out | apply below_alloc | apply pw_below_drewN | apply below_drew1) | exact HB.out)) hb); have n1_ := Aside0.mk (hbox); have n2_ := Aside0.mk ((by rw [hg]; exact (below_size (by repeat (first | (with_reducible first | exact HB.out | apply below_alloc | apply pw_below_drewN | apply below_drew1) | exact HB.out))) : w.heap.size ≤ gb104)); have n3_ := Aside0.mk ((by rw [hg]; exact (below_size (by repeat (first | (with_reducible first | exact HB.out | apply below_alloc | apply pw_below_drewN | apply below_drew1) | exact HB.out))) : w.heap.size ≤ gb104)); clear HB; have HB := n0_; have BK104 := n1_; have GW104 := n2_; have GE104 := n3_; clear n0_ n1_ n2_ n3_; clear hb hbox hg; have hcz7_0 : w6.cell? ⟨gb104, 0, none⟩ = some (.int .i64 a0_0) := (blk_cell BK104.out 0).trans rfl; have hcz7_1 : w6.cell? ⟨gb104, 1, none⟩ = some (.slice A0_1 l0_1.length c0_1) := (blk_cell BK104.out 1).trans rfl; have hcz7_2 : w6.cell? ⟨gb104, 2, none⟩ = some (.int .i64 a0_2) := (blk_cell BK104.out 2).trans rfl; have hfz7_0 := blk_frozen BK104.out 0; have hfz7_1 := blk_frozen BK104.out 1; have hfz7_2 := blk_frozen BK104.out 2; have p105 : 0 ≤ (a1 : Int) := of_decide_eq_true (by first | (with_reducible assumption) | assumption); have q105 : a1 < (l0_1.length : Int) := of_decide_eq_true (by first | (with_reducible assumption) | assumption); obtain ⟨ad105, A105_0, c105_0, e105, hx105_0, hl105_0, hi105_0⟩ := at_L1 HR0_1.out a1 p105 q105; cases e105; replace hx105_0 := (HB.out.cell (World.block_lt_of_cell? w _ hx105_0)).trans hx105_0; have HR105_0 := Aside0.mk hi105_0; have HC105_0 := Aside0.mk hl105_0; clear hi105_0 hl105_0; replace p105 := eq_true p105; replace q105 := eq_true q105))
    go_ret
    exact ⟨by first | rfl | (simp [errW_none, errW_some] <;> rfl) | (simp [*, errW_none, errW_some] <;> rfl), by repeat (first | (with_reducible first | exact HB.out | apply below_alloc | apply pw_below_drewN | apply below_drew1 | refine below_set ?_ GE104.out) | exact HB.out)⟩
   ·rw [if_neg c5] at H
    have c5b0 : (((rd_L1 l0_1 a1).length : Int) == 0) = false := beq_eq_false_iff_ne.mpr c5
    have c5b1 : (((rd_L1 l0_1 a1).length : Int) != 0) = true := bne_iff_ne.mpr c5
    have c5b2 : ¬ ((rd_L1 l0_1 a1) = []) := fun h_ => c5 (by rw [h_]; rfl)
    have H' := Aside0.mk H
    clear H
    go_enter Tryd.func57, Tryd.ntmps57
    go_wp2_with (first | ((with_reducible refine gate_dst (N := 2) rfl ?_); refine box_event ?hg (N := 2) ?hd (cs := #[.int .i64 a0_0, .slice A0_1 l0_1.length c0_1, .int .i64 a0_2]) (t := 24) ?hr ?_; (case hd => rfl); (case hg => rfl); (case hr => first | (go_simp; done) | (go_simp; rfl)); intro gb104 hg w8 hbox hb; have n0_ := Aside0.mk (below_step (by repeat (first | (with_reducible first | exact HB.out | apply below_alloc | apply pw_below_drewN | apply below_drew1) | exact HB.out)) hb); have n1_ := Aside0.mk (hbox); have n2_ := Aside0.mk ((by rw [hg]; exact (below_size (by repeat (first | (with_reducible first | exact HB.out | apply below_alloc | apply pw_below_drewN | apply below_drew1) | exact HB.out))) : w.heap.size ≤ gb104)); have n3_ := Aside0.mk ((by rw [hg]; exact (below_size (by repeat (first | (with_reducible first | exact HB.out | apply below_alloc | apply pw_below_drewN | apply below_drew1) | exact HB.out))) : w.heap.size ≤ gb104)); clear HB; have HB := n0_; have BK104 := n1_; have GW104 := n2_; have GE104 := n3_; clear n0_ n1_ n2_ n3_; clear hb hbox hg; have hcz9_0 : w8.cell? ⟨gb104, 0, none⟩ = some (.int .i64 a0_0) := (blk_cell BK104.out 0).trans rfl; have hcz9_1 : w8.cell? ⟨gb104, 1, none⟩ = some (.slice A0_1 l0_1.length c0_1) := (blk_cell BK104.out 1).trans rfl; have hcz9_2 : w8.cell? ⟨gb104, 2, none⟩ = some (.int .i64 a0_2) := (blk_cell BK104.out 2).trans rfl; have hfz9_0 := blk_frozen BK104.out 0; have hfz9_1 := blk_frozen BK104.out 1; have hfz9_2 := blk_frozen BK104.out 2; have p105 : 0 ≤ (a1 : Int) := of_decide_eq_true (by first | (with_reducible assumption) | assumption); have q105 : a1 < (l0_1.length : Int) := of_decide_eq_true (by first | (with_reducible assumption) | assumption); obtain ⟨ad105, A105_0, c105_0, e105, hx105_0, hl105_0, hi105_0⟩ := at_L1 HR0_1.out a1 p105 q105; cases e105; replace hx105_0 := (HB.out.cell (World.block_lt_of_cell? w _ hx105_0)).trans hx105_0; have HR105_0 := Aside0.mk hi105_0; have HC105_0 := Aside0.mk hl105_0; clear hi105_0 hl105_0; replace p105 := eq_true p105; replace q105 := eq_true q105))
    go_loopg [5] k (fun kq v5 w' => ∃ (x5_1 : Int), v5 = .int .i64 x5_1 ∧ Aside0 (quietusref07_group.l0 kq a1 x5_1 a0_0 l0_1 a0_2 = some r) ∧ Aside0 (kq ≤ k) ∧ Aside0 (w'.heap[gb104]? = some (.cells #[.int .i64 a0_0, (.slice (some ad105) l0_1.length c0_1), .int .i64 a0_2] 24 (0, 0))) ∧ Aside0 (Below w.heap.size w w'))
    case atStart => exact ⟨(0), (by first | rfl | (simp; done) | (simp [*]; done)), H', ⟨Nat.le_refl _⟩, ⟨by (with_reducible repeat (first | refine blk_drewN ?_ _ | refine blk_drew ?_ | refine blk_alloc ?_ _)); exact BK104.out⟩, ⟨by repeat (first | (with_reducible first | exact HB.out | apply below_alloc | apply pw_below_drewN | apply below_drew1 | refine below_set ?_ GE104.out) | exact HB.out)⟩⟩
    case round =>
     clear H'
     try clear c1
     try clear p1
     try clear q1
     try clear hx1
     try clear p2
     try clear c3
     try clear c3b0
     try clear c4
     try clear c4b0
     try clear c5
     try clear c5b0
     try clear c5b1
     try clear c5b2
     try clear hcz7_0
     try clear hcz7_1
     try clear hcz7_2
     try clear hcz9_0
     try clear hcz9_1
     try clear hcz9_2
     try clear hfz7_0
     try clear hfz7_1
     try clear hfz7_2
     try clear hfz9_0
     try clear hfz9_1
     try clear hfz9_2
     try clear hx105_0
     try clear p105
     try clear q105
     obtain ⟨x5_1, rfl, HA, HK1, BK104, HB⟩ := hrel
     cases gk with
     | zero => exact absurd HA.out (by simp [quietusref07_group.l0])
     | succ k1 =>
      have H := HA.out
      clear HA
      simp only [quietusref07_group.l0] at H
      by_cases c10 : 0 ≤ a1
      ·rw [if_pos c10] at H
       have c10b0 : decide (0 ≤ a1) = true := decide_eq_true c10
       clear c10
       by_cases c11 : a1 < (l0_1.length : Int)
       ·rw [if_pos c11] at H
        have c11b0 : decide (a1 < (l0_1.length : Int)) = true := decide_eq_true c11
        clear c11
        by_cases c12 : x5_1 < ((rd_L1 l0_1 a1).length : Int)
        ·rw [if_pos c12] at H
         have c12b0 : decide (x5_1 < ((rd_L1 l0_1 a1).length : Int)) = true := decide_eq_true c12
         clear c12
         by_cases c13 : 0 ≤ x5_1
         ·rw [if_pos c13] at H
          have c13b0 : decide (0 ≤ x5_1) = true := decide_eq_true c13
          clear c13
          have HC14 := Aside0.mk H
          clear H
          have hcz15_0 : wr.cell? ⟨gb104, 0, none⟩ = some (.int .i64 a0_0) := (blk_cell BK104.out 0).trans rfl
          have hcz15_1 : wr.cell? ⟨gb104, 1, none⟩ = some (.slice (some ad105) l0_1.length c0_1) := (blk_cell BK104.out 1).trans rfl
          have hcz15_2 : wr.cell? ⟨gb104, 2, none⟩ = some (.int .i64 a0_2) := (blk_cell BK104.out 2).trans rfl
          have hfz15_0 := blk_frozen BK104.out 0
          have hfz15_1 := blk_frozen BK104.out 1
          have hfz15_2 := blk_frozen BK104.out 2
          have p106 : 0 ≤ (a1 : Int) := of_decide_eq_true (by first | (with_reducible assumption) | assumption)
          have q106 : a1 < (l0_1.length : Int) := of_decide_eq_true (by first | (with_reducible assumption) | assumption)
          obtain ⟨ad106, A106_0, c106_0, e106, hx106_0, hl106_0, hi106_0⟩ := at_L1 HR0_1.out a1 p106 q106
          obtain rfl : ad105 = ad106 := (by injection e106)
          replace hx106_0 := (HB.out.cell (World.block_lt_of_cell? w _ hx106_0)).trans hx106_0
          have HR106_0 := Aside0.mk hi106_0
          have HC106_0 := Aside0.mk hl106_0
          clear hi106_0 hl106_0
          replace p106 := eq_true p106
          replace q106 := eq_true q106
          have p107 : 0 ≤ (a1 : Int) := of_decide_eq_true (by first | (with_reducible assumption) | assumption)
          have q107 : a1 < (l0_1.length : Int) := of_decide_eq_true (by first | (with_reducible assumption) | assumption)
          obtain ⟨ad107, A107_0, c107_0, e107, hx107_0, hl107_0, hi107_0⟩ := at_L1 HR0_1.out a1 p107 q107
          obtain rfl : ad105 = ad107 := (by injection e107)
          replace hx107_0 := (HB.out.cell (World.block_lt_of_cell? w _ hx107_0)).trans hx107_0
          have HR107_0 := Aside0.mk hi107_0
          have HC107_0 := Aside0.mk hl107_0
          clear hi107_0 hl107_0
          replace p107 := eq_true p107
          replace q107 := eq_true q107
          have ea_ := Option.some.inj (hx106_0.symm.trans hx107_0)
          injection ea_ with ea_ en_ ec_
          subst ea_
          subst ec_
          clear en_
          have p108 : 0 ≤ (x5_1 : Int) := of_decide_eq_true (by first | (with_reducible assumption) | assumption)
          have q108 : x5_1 < ((rd_L1 l0_1 a1).length : Int) := of_decide_eq_true (by first | (with_reducible assumption) | assumption)
          obtain ⟨ad108, e108, hx108_0⟩ := Kd.at_int HR107_0.out x5_1 p108 q108
          cases e108
          replace hx108_0 := (HB.out.cell (World.block_lt_of_cell? w _ hx108_0)).trans hx108_0
          replace p108 := eq_true p108
          replace q108 := eq_true q108
          go_upto_region 7 with (fail)
          go_cut [58] (fun v58 wc => ∃ (kq : Nat) (x58_13 : Bool), v58 = .bool x58_13 ∧ Aside0 (quietusref07_group.j1 kq a1 x5_1 (rd (rd_L1 l0_1 a1) x5_1) x58_13 a0_0 l0_1 a0_2 = some r) ∧ Aside0 (kq ≤ k1) ∧ Aside0 (wc.heap[gb104]? = some (.cells #[.int .i64 a0_0, (.slice (some ad105) l0_1.length c0_1), .int .i64 a0_2] 24 (0, 0))) ∧ Aside0 (Below w.heap.size w wc))
          case first =>
           have H := HC14.out
           clear HC14
           by_cases c16 : (rd (rd_L1 l0_1 a1) x5_1) < 0
           ·rw [if_pos c16] at H
            have c16b0 : decide ((rd (rd_L1 l0_1 a1) x5_1) < 0) = true := decide_eq_true c16
            clear c16
            (first | rw [c16b0] | (simp only [i64_w, i32_w]; rw [c16b0]) | skip)
            have H' := Aside0.mk H
            clear H
            go_wp2
            go_meet
            case rel => exact ⟨_, (true), (by first | rfl | (simp; done) | (simp [*]; done)), H', ⟨by have := HK1.out; first | omega | exact Nat.le_refl _⟩, ⟨by (with_reducible repeat (first | refine blk_drewN ?_ _ | refine blk_drew ?_ | refine blk_alloc ?_ _)); exact BK104.out⟩, ⟨by repeat (first | (with_reducible first | exact HB.out | apply below_alloc | apply pw_below_drewN | apply below_drew1 | refine below_set ?_ GE104.out) | exact HB.out)⟩⟩
           ·rw [if_neg c16] at H
            have c16b0 : decide ((rd (rd_L1 l0_1 a1) x5_1) < 0) = false := decide_eq_false c16
            clear c16
            (first | rw [c16b0] | (simp only [i64_w, i32_w]; rw [c16b0]) | skip)
            by_cases c17 : (rd (rd_L1 l0_1 a1) x5_1) ≥ a0_0
            ·rw [if_pos c17] at H
             have c17b0 : decide (a0_0 ≤ (rd (rd_L1 l0_1 a1) x5_1)) = true := decide_eq_true c17
             clear c17
             have H' := Aside0.mk H
             clear H
             have hcz18_0 : wr.cell? ⟨gb104, 0, none⟩ = some (.int .i64 a0_0) := (blk_cell BK104.out 0).trans rfl
             have hcz18_1 : wr.cell? ⟨gb104, 1, none⟩ = some (.slice (some ad105) l0_1.length c0_1) := (blk_cell BK104.out 1).trans rfl
             have hcz18_2 : wr.cell? ⟨gb104, 2, none⟩ = some (.int .i64 a0_2) := (blk_cell BK104.out 2).trans rfl
             have hfz18_0 := blk_frozen BK104.out 0
             have hfz18_1 := blk_frozen BK104.out 1
             have hfz18_2 := blk_frozen BK104.out 2
             go_wp2
             go_meet
             case rel => exact ⟨_, (true), (by first | rfl | (simp; done) | (simp [*]; done)), H', ⟨by have := HK1.out; first | omega | exact Nat.le_refl _⟩, ⟨by (with_reducible repeat (first | refine blk_drewN ?_ _ | refine blk_drew ?_ | refine blk_alloc ?_ _)); exact BK104.out⟩, ⟨by repeat (first | (with_reducible first | exact HB.out | apply below_alloc | apply pw_below_drewN | apply below_drew1 | refine below_set ?_ GE104.out) | exact HB.out)⟩⟩
            ·rw [if_neg c17] at H
             have c17b0 : decide (a0_0 ≤ (rd (rd_L1 l0_1 a1) x5_1)) = false := decide_eq_false c17
             clear c17
             by_cases c19 : x5_1 > 0
             ·rw [if_pos c19] at H
              have c19b0 : decide (0 < x5_1) = true := decide_eq_true c19
              clear c19
              obtain ⟨ji20, hji20⟩ : ∃ j_ : Int, (wrap64 (x5_1 - 1)) = j_ := ⟨_, rfl⟩
              replace H : (if 0 ≤ (ji20) then (if (ji20) < ((rd_L1 l0_1 a1).length : Int) then (quietusref07_group.j1 k1 a1 x5_1 (rd (rd_L1 l0_1 a1) x5_1) (decide ((rd (rd_L1 l0_1 a1) x5_1) ≤ (rd (rd_L1 l0_1 a1) (ji20)))) a0_0 l0_1 a0_2) else (none)) else (none)) = some r := by first | (rw [hji20] at H; exact H) | (simp only [hji20] at H ⊢; exact H)
              have hji20w : (IntKind.i64.wrap (x5_1 - 1)) = ji20 := (i64_w _).trans hji20
              by_cases c21 : 0 ≤ (ji20)
              ·rw [if_pos c21] at H
               have c21b0 : decide (0 ≤ (ji20)) = true := decide_eq_true c21
               clear c21
               by_cases c22 : (ji20) < ((rd_L1 l0_1 a1).length : Int)
               ·rw [if_pos c22] at H
                have c22b0 : decide ((ji20) < ((rd_L1 l0_1 a1).length : Int)) = true := decide_eq_true c22
                clear c22
                have H' := Aside0.mk H
                clear H
                have hcz23_0 : wr.cell? ⟨gb104, 0, none⟩ = some (.int .i64 a0_0) := (blk_cell BK104.out 0).trans rfl
                have hcz23_1 : wr.cell? ⟨gb104, 1, none⟩ = some (.slice (some ad105) l0_1.length c0_1) := (blk_cell BK104.out 1).trans rfl
                have hcz23_2 : wr.cell? ⟨gb104, 2, none⟩ = some (.int .i64 a0_2) := (blk_cell BK104.out 2).trans rfl
                have hfz23_0 := blk_frozen BK104.out 0
                have hfz23_1 := blk_frozen BK104.out 1
                have hfz23_2 := blk_frozen BK104.out 2
                have p109 : 0 ≤ (a1 : Int) := of_decide_eq_true (by first | (with_reducible assumption) | assumption)
                have q109 : a1 < (l0_1.length : Int) := of_decide_eq_true (by first | (with_reducible assumption) | assumption)
                obtain ⟨ad109, A109_0, c109_0, e109, hx109_0, hl109_0, hi109_0⟩ := at_L1 HR0_1.out a1 p109 q109
                obtain rfl : ad105 = ad109 := (by injection e109)
                replace hx109_0 := (HB.out.cell (World.block_lt_of_cell? w _ hx109_0)).trans hx109_0
                have HR109_0 := Aside0.mk hi109_0
                have HC109_0 := Aside0.mk hl109_0
                clear hi109_0 hl109_0
                try (have ea_ := Option.some.inj (hx106_0.symm.trans hx109_0); injection ea_ with ea_ en_ ec_; subst ea_; subst ec_; clear en_)
                try (have ea_ := Option.some.inj (hx107_0.symm.trans hx109_0); injection ea_ with ea_ en_ ec_; subst ea_; subst ec_; clear en_)
                replace p109 := eq_true p109
                replace q109 := eq_true q109
                have p110 : 0 ≤ ((ji20) : Int) := of_decide_eq_true (by first | (with_reducible assumption) | assumption)
                have q110 : (ji20) < ((rd_L1 l0_1 a1).length : Int) := of_decide_eq_true (by first | (with_reducible assumption) | assumption)
                obtain ⟨ad110, e110, hx110_0⟩ := Kd.at_int HR109_0.out (ji20) p110 q110
                cases e110
                replace hx110_0 := (HB.out.cell (World.block_lt_of_cell? w _ hx110_0)).trans hx110_0
                replace p110 := eq_true p110
                replace q110 := eq_true q110
                go_wp2
                go_meet
                case rel => exact ⟨_, (decide ((rd (rd_L1 l0_1 a1) x5_1) ≤ (rd (rd_L1 l0_1 a1) (ji20)))), (by first | rfl | (simp; done) | (simp only [← hji20] <;> (first | rfl | simp)) | (simp [*]; done)), H', ⟨by have := HK1.out; first | omega | exact Nat.le_refl _⟩, ⟨by (with_reducible repeat (first | refine blk_drewN ?_ _ | refine blk_drew ?_ | refine blk_alloc ?_ _)); exact BK104.out⟩, ⟨by repeat (first | (with_reducible first | exact HB.out | apply below_alloc | apply pw_below_drewN | apply below_drew1 | refine below_set ?_ GE104.out) | exact HB.out)⟩⟩
               ·rw [if_neg c22] at H
                exact absurd H (by simp)
              ·rw [if_neg c21] at H
               exact absurd H (by simp)
             ·rw [if_neg c19] at H
              have c19b0 : decide (0 < x5_1) = false := decide_eq_false c19
              clear c19
              have H' := Aside0.mk H
              clear H
              have hcz24_0 : wr.cell? ⟨gb104, 0, none⟩ = some (.int .i64 a0_0) := (blk_cell BK104.out 0).trans rfl
              have hcz24_1 : wr.cell? ⟨gb104, 1, none⟩ = some (.slice (some ad105) l0_1.length c0_1) := (blk_cell BK104.out 1).trans rfl
              have hcz24_2 : wr.cell? ⟨gb104, 2, none⟩ = some (.int .i64 a0_2) := (blk_cell BK104.out 2).trans rfl
              have hfz24_0 := blk_frozen BK104.out 0
              have hfz24_1 := blk_frozen BK104.out 1
              have hfz24_2 := blk_frozen BK104.out 2
              go_wp2
              go_meet
              case rel => exact ⟨_, (false), (by first | rfl | (simp; done) | (simp [*]; done)), H', ⟨by have := HK1.out; first | omega | exact Nat.le_refl _⟩, ⟨by (with_reducible repeat (first | refine blk_drewN ?_ _ | refine blk_drew ?_ | refine blk_alloc ?_ _)); exact BK104.out⟩, ⟨by repeat (first | (with_reducible first | exact HB.out | apply below_alloc | apply pw_below_drewN | apply below_drew1 | refine below_set ?_ GE104.out) | exact HB.out)⟩⟩
          case rest =>
           clear HC14
           try clear c1
           try clear p1
           try clear q1
           try clear hx1
           try clear c2
           try clear p2
           try clear c3
           try clear c3b0
           try clear c4
           try clear c4b0
           try clear c5
           try clear c5b0
           try clear c5b1
           try clear c5b2
           try clear p6
           try clear c10
           try clear c10b0
           try clear p10
           try clear q10
           try clear hx10
           try clear c11
           try clear c11b0
           try clear p11
           try clear q11
           try clear hx11
           try clear c12
           try clear c12b0
           try clear c13
           try clear c13b0
           try clear c16
           try clear c16b0
           try clear c17
           try clear c17b0
           try clear c19
           try clear c19b0
           try clear c21
           try clear c21b0
           try clear c22
           try clear c22b0
           try clear hcz15_0
           try clear hcz15_1
           try clear hcz15_2
           try clear hcz18_0
           try clear hcz18_1
           try clear hcz18_2
           try clear hcz23_0
           try clear hcz23_1
           try clear hcz23_2
           try clear hcz24_0
           try clear hcz24_1
           try clear hcz24_2
           try clear hcz7_0
           try clear hcz7_1
           try clear hcz7_2
           try clear hcz9_0
           try clear hcz9_1
           try clear hcz9_2
           try clear hfz15_0
           try clear hfz15_1
           try clear hfz15_2
           try clear hfz18_0
           try clear hfz18_1
           try clear hfz18_2
           try clear hfz23_0
           try clear hfz23_1
           try clear hfz23_2
           try clear hfz24_0
           try clear hfz24_1
           try clear hfz24_2
           try clear hfz7_0
           try clear hfz7_1
           try clear hfz7_2
           try clear hfz9_0
           try clear hfz9_1
           try clear hfz9_2
           try clear hx105_0
           try clear hx106_0
           try clear hx107_0
           try clear hx108_0
           try clear hx109_0
           try clear hx110_0
           try clear p1
           try clear p105
           try clear p106
           try clear p107
           try clear p108
           try clear p109
           try clear p110
           try clear p2
           try clear q1
           try clear q105
           try clear q106
           try clear q107
           try clear q108
           try clear q109
           try clear q110
           obtain ⟨kq, x58_13, rfl, HA, HJ13, BK104, HB⟩ := hcut
           cases kq with
           | zero => exact absurd HA.out (by simp [quietusref07_group.j1])
           | succ kj13 =>
            have H := HA.out
            clear HA
            simp only [quietusref07_group.j1] at H
            by_cases c25 : x58_13 = true
            ·subst c25
             have H1 : (some 1) = some r := by rw [if_pos rfl] at H; exact H
             clear H
             have H := H1
             clear H1
             obtain rfl := Option.some.inj H
             go_wp2
             go_ret
             exact ⟨by first | rfl | (simp [errW_none, errW_some] <;> rfl) | (simp [*, errW_none, errW_some] <;> rfl), by repeat (first | (with_reducible first | exact HB.out | apply below_alloc | apply pw_below_drewN | apply below_drew1 | refine below_set ?_ GE104.out) | exact HB.out)⟩
            ·replace c25 := Bool.eq_false_iff.mpr c25
             subst c25
             have H1 : (quietusref07_group.l1 kj13 a1 x5_1 (rd (rd_L1 l0_1 a1) x5_1) 0 a0_0 l0_1 a0_2) = some r := by rw [if_neg (show ¬ (false = true) by decide)] at H; exact H
             clear H
             have H := H1
             clear H1
             have H' := Aside0.mk H
             clear H
             go_wp2
             go_loopg [7] kj13 (fun kq v7 w' => ∃ (x7_3 : Int), v7 = .int .i64 x7_3 ∧ Aside0 (quietusref07_group.l1 kq a1 x5_1 (rd (rd_L1 l0_1 a1) x5_1) x7_3 a0_0 l0_1 a0_2 = some r) ∧ Aside0 (kq ≤ kj13) ∧ Aside0 (w'.heap[gb104]? = some (.cells #[.int .i64 a0_0, (.slice (some ad105) l0_1.length c0_1), .int .i64 a0_2] 24 (0, 0))) ∧ Aside0 (Below w.heap.size w w'))
             case atStart => exact ⟨(0), (by first | rfl | (simp; done) | (simp [*]; done)), H', ⟨Nat.le_refl _⟩, ⟨by (with_reducible repeat (first | refine blk_drewN ?_ _ | refine blk_drew ?_ | refine blk_alloc ?_ _)); exact BK104.out⟩, ⟨by repeat (first | (with_reducible first | exact HB.out | apply below_alloc | apply pw_below_drewN | apply below_drew1 | refine below_set ?_ GE104.out) | exact HB.out)⟩⟩
             case round =>
              clear H'
              try clear c1
              try clear p1
              try clear q1
              try clear hx1
              try clear c2
              try clear p2
              try clear c3
              try clear c3b0
              try clear c4
              try clear c4b0
              try clear c5
              try clear c5b0
              try clear c5b1
              try clear c5b2
              try clear p6
              try clear c10
              try clear c10b0
              try clear p10
              try clear q10
              try clear hx10
              try clear c11
              try clear c11b0
              try clear p11
              try clear q11
              try clear hx11
              try clear c12
              try clear c12b0
              try clear c13
              try clear c13b0
              try clear c16
              try clear c16b0
              try clear c17
              try clear c17b0
              try clear c19
              try clear c19b0
              try clear c21
              try clear c21b0
              try clear c22
              try clear c22b0
              try clear c25
              try clear hcz15_0
              try clear hcz15_1
              try clear hcz15_2
              try clear hcz18_0
              try clear hcz18_1
              try clear hcz18_2
              try clear hcz23_0
              try clear hcz23_1
              try clear hcz23_2
              try clear hcz24_0
              try clear hcz24_1
              try clear hcz24_2
              try clear hcz7_0
              try clear hcz7_1
              try clear hcz7_2
              try clear hcz9_0
              try clear hcz9_1
              try clear hcz9_2
              try clear hfz15_0
              try clear hfz15_1
              try clear hfz15_2
              try clear hfz18_0
              try clear hfz18_1
              try clear hfz18_2
              try clear hfz23_0
              try clear hfz23_1
              try clear hfz23_2
              try clear hfz24_0
              try clear hfz24_1
              try clear hfz24_2
              try clear hfz7_0
              try clear hfz7_1
              try clear hfz7_2
              try clear hfz9_0
              try clear hfz9_1
              try clear hfz9_2
              try clear hx105_0
              try clear hx106_0
              try clear hx107_0
              try clear hx108_0
              try clear hx109_0
              try clear hx110_0
              try clear p1
              try clear p10
              try clear p105
              try clear p106
              try clear p107
              try clear p108
              try clear p109
              try clear p11
              try clear p110
              try clear p2
              try clear p6
              try clear q1
              try clear q10
              try clear q105
              try clear q106
              try clear q107
              try clear q108
              try clear q109
              try clear q11
              try clear q110
              obtain ⟨x7_3, rfl, HA, HK3, BK104, HB⟩ := hrel
              cases gk with
              | zero => exact absurd HA.out (by simp [quietusref07_group.l1])
              | succ k3 =>
               have H := HA.out
               clear HA
               simp only [quietusref07_group.l1] at H
               by_cases c26 : x7_3 < a1
               ·rw [if_pos c26] at H
                have c26b0 : decide (x7_3 < a1) = true := decide_eq_true c26
                clear c26
                by_cases c27 : 0 ≤ x7_3
                ·rw [if_pos c27] at H
                 have c27b0 : decide (0 ≤ x7_3) = true := decide_eq_true c27
                 clear c27
                 by_cases c28 : x7_3 < (l0_1.length : Int)
                 ·rw [if_pos c28] at H
                  have c28b0 : decide (x7_3 < (l0_1.length : Int)) = true := decide_eq_true c28
                  clear c28
                  replace H := Option.bind_eq_some_iff.mp H
                  obtain ⟨t112, A290, H⟩ := H
                  replace H : (if t112 = true then (some 1) else (quietusref07_group.l1 k3 a1 x5_1 (rd (rd_L1 l0_1 a1) x5_1) (wrap64 (x7_3 + 1)) a0_0 l0_1 a0_2)) = some r := H
                  have A29 := Aside0.mk A290
                  clear A290
                  by_cases c30 : t112 = true
                  ·subst c30
                   have H1 : (some 1) = some r := by rw [if_pos rfl] at H; exact H
                   clear H
                   have H := H1
                   clear H1
                   obtain rfl := Option.some.inj H
                   have hcz31_0 : wr.cell? ⟨gb104, 0, none⟩ = some (.int .i64 a0_0) := (blk_cell BK104.out 0).trans rfl
                   have hcz31_1 : wr.cell? ⟨gb104, 1, none⟩ = some (.slice (some ad105) l0_1.length c0_1) := (blk_cell BK104.out 1).trans rfl
                   have hcz31_2 : wr.cell? ⟨gb104, 2, none⟩ = some (.int .i64 a0_2) := (blk_cell BK104.out 2).trans rfl
                   have hfz31_0 := blk_frozen BK104.out 0
                   have hfz31_1 := blk_frozen BK104.out 1
                   have hfz31_2 := blk_frozen BK104.out 2
                   have p111 : 0 ≤ (x7_3 : Int) := of_decide_eq_true (by first | (with_reducible assumption) | assumption)
                   have q111 : x7_3 < (l0_1.length : Int) := of_decide_eq_true (by first | (with_reducible assumption) | assumption)
                   obtain ⟨ad111, A111_0, c111_0, e111, hx111_0, hl111_0, hi111_0⟩ := at_L1 HR0_1.out x7_3 p111 q111
                   obtain rfl : ad105 = ad111 := (by injection e111)
                   replace hx111_0 := (HB.out.cell (World.block_lt_of_cell? w _ hx111_0)).trans hx111_0
                   have HR111_0 := Aside0.mk hi111_0
                   have HC111_0 := Aside0.mk hl111_0
                   clear hi111_0 hl111_0
                   try (have ea_ := Option.some.inj (hx106_0.symm.trans hx111_0); injection ea_ with ea_ en_ ec_; subst ea_; subst ec_; clear en_)
                   try (have ea_ := Option.some.inj (hx107_0.symm.trans hx111_0); injection ea_ with ea_ en_ ec_; subst ea_; subst ec_; clear en_)
                   try (have ea_ := Option.some.inj (hx109_0.symm.trans hx111_0); injection ea_ with ea_ en_ ec_; subst ea_; subst ec_; clear en_)
                   replace p111 := eq_true p111
                   replace q111 := eq_true q111
                   go_wp2_with (first | ((with_reducible refine gate_callee (f := 83) rfl ?_); refine goesL_ (some 70) rfl rfl Tryd.func83 (by kernel_rfl) rfl #[.slice A111_0 (rd_L1 l0_1 x7_3).length c111_0, .int .i64 (rd (rd_L1 l0_1 a1) x5_1)] rfl (by (try simp only [List.map_toArray, List.map_cons, List.map_nil]); first | done | rfl | (simp only [List.length_drop, List.length_take]; rfl)) ?_; (with_reducible refine (quietusref07_Has.calls k3 _ _ (rd_L1 l0_1 x7_3) (rd (rd_L1 l0_1 a1) x5_1) true _ ?side1 ?side2 ?side3 A29.out).mono ?_); (case side1 => exact HG.below HGw.out (by repeat (first | (with_reducible first | exact HB.out | apply below_alloc | apply pw_below_drewN | apply below_drew1 | refine below_set ?_ GE104.out) | exact HB.out))); (case side2 => repeat (first | exact (Kd.C_below HR111_0.out HB.out) | (with_reducible refine Kd.C_alloc ?_ _) | (with_reducible refine Kd.C_drewN ?_ _) | (with_reducible refine Kd.C_drew ?_))); (case side3 => exact HC111_0.out); rintro e w' ⟨rfl, ⟨nd, rfl⟩⟩; refine ⟨_, rfl, ?_⟩))
                   go_ret
                   exact ⟨by first | rfl | (simp [errW_none, errW_some] <;> rfl) | (simp [*, errW_none, errW_some] <;> rfl), by repeat (first | (with_reducible first | exact HB.out | apply below_alloc | apply pw_below_drewN | apply below_drew1 | refine below_set ?_ GE104.out) | exact HB.out)⟩
                  ·replace c30 := Bool.eq_false_iff.mpr c30
                   subst c30
                   have H1 : (quietusref07_group.l1 k3 a1 x5_1 (rd (rd_L1 l0_1 a1) x5_1) (wrap64 (x7_3 + 1)) a0_0 l0_1 a0_2) = some r := by rw [if_neg (show ¬ (false = true) by decide)] at H; exact H
                   clear H
                   have H := H1
                   clear H1
                   have H' := Aside0.mk H
                   clear H
                   have hcz32_0 : wr.cell? ⟨gb104, 0, none⟩ = some (.int .i64 a0_0) := (blk_cell BK104.out 0).trans rfl
                   have hcz32_1 : wr.cell? ⟨gb104, 1, none⟩ = some (.slice (some ad105) l0_1.length c0_1) := (blk_cell BK104.out 1).trans rfl
                   have hcz32_2 : wr.cell? ⟨gb104, 2, none⟩ = some (.int .i64 a0_2) := (blk_cell BK104.out 2).trans rfl
                   have hfz32_0 := blk_frozen BK104.out 0
                   have hfz32_1 := blk_frozen BK104.out 1
                   have hfz32_2 := blk_frozen BK104.out 2
                   have p111 : 0 ≤ (x7_3 : Int) := of_decide_eq_true (by first | (with_reducible assumption) | assumption)
                   have q111 : x7_3 < (l0_1.length : Int) := of_decide_eq_true (by first | (with_reducible assumption) | assumption)
                   obtain ⟨ad111, A111_0, c111_0, e111, hx111_0, hl111_0, hi111_0⟩ := at_L1 HR0_1.out x7_3 p111 q111
                   obtain rfl : ad105 = ad111 := (by injection e111)
                   replace hx111_0 := (HB.out.cell (World.block_lt_of_cell? w _ hx111_0)).trans hx111_0
                   have HR111_0 := Aside0.mk hi111_0
                   have HC111_0 := Aside0.mk hl111_0
                   clear hi111_0 hl111_0
                   try (have ea_ := Option.some.inj (hx106_0.symm.trans hx111_0); injection ea_ with ea_ en_ ec_; subst ea_; subst ec_; clear en_)
                   try (have ea_ := Option.some.inj (hx107_0.symm.trans hx111_0); injection ea_ with ea_ en_ ec_; subst ea_; subst ec_; clear en_)
                   try (have ea_ := Option.some.inj (hx109_0.symm.trans hx111_0); injection ea_ with ea_ en_ ec_; subst ea_; subst ec_; clear en_)
                   try (have ea_ := Option.some.inj (hx111_0.symm.trans hx111_0); injection ea_ with ea_ en_ ec_; subst ea_; subst ec_; clear en_)
                   replace p111 := eq_true p111
                   replace q111 := eq_true q111
                   go_wp2_with (first | ((with_reducible refine gate_callee (f := 83) rfl ?_); refine goesL_ (some 70) rfl rfl Tryd.func83 (by kernel_rfl) rfl #[.slice A111_0 (rd_L1 l0_1 x7_3).length c111_0, .int .i64 (rd (rd_L1 l0_1 a1) x5_1)] rfl (by (try simp only [List.map_toArray, List.map_cons, List.map_nil]); first | done | rfl | (simp only [List.length_drop, List.length_take]; rfl)) ?_; (with_reducible refine (quietusref07_Has.calls k3 _ _ (rd_L1 l0_1 x7_3) (rd (rd_L1 l0_1 a1) x5_1) false _ ?side1 ?side2 ?side3 A29.out).mono ?_); (case side1 => exact HG.below HGw.out (by repeat (first | (with_reducible first | exact HB.out | apply below_alloc | apply pw_below_drewN | apply below_drew1 | refine below_set ?_ GE104.out) | exact HB.out))); (case side2 => repeat (first | exact (Kd.C_below HR111_0.out HB.out) | (with_reducible refine Kd.C_alloc ?_ _) | (with_reducible refine Kd.C_drewN ?_ _) | (with_reducible refine Kd.C_drew ?_))); (case side3 => exact HC111_0.out); rintro e w' ⟨rfl, ⟨nd, rfl⟩⟩; refine ⟨_, rfl, ?_⟩))
                   go_roundg k3
                   case measure => have := HK1.out; have := HJ13.out; have := HK3.out; omega
                   case rel => exact ⟨(wrap64 (x7_3 + 1)), (by first | rfl | (simp; done) | (simp [*]; done)), H', ⟨by have := HK1.out; have := HJ13.out; have := HK3.out; omega⟩, ⟨by (with_reducible repeat (first | refine blk_drewN ?_ _ | refine blk_drew ?_ | refine blk_alloc ?_ _)); exact BK104.out⟩, ⟨by repeat (first | (with_reducible first | exact HB.out | apply below_alloc | apply pw_below_drewN | apply below_drew1 | refine below_set ?_ GE104.out) | exact HB.out)⟩⟩
                 ·rw [if_neg c28] at H
                  exact absurd H (by simp)
                ·rw [if_neg c27] at H
                 exact absurd H (by simp)
               ·rw [if_neg c26] at H
                have c26b0 : decide (x7_3 < a1) = false := decide_eq_false c26
                clear c26
                have H' := Aside0.mk H
                clear H
                go_wp2
                go_roundg k3
                case measure => have := HK1.out; have := HJ13.out; have := HK3.out; omega
                case rel => exact ⟨(wrap64 (x5_1 + 1)), (by first | rfl | (simp; done) | (simp [*]; done)), H', ⟨by have := HK1.out; have := HJ13.out; have := HK3.out; omega⟩, ⟨by (with_reducible repeat (first | refine blk_drewN ?_ _ | refine blk_drew ?_ | refine blk_alloc ?_ _)); exact BK104.out⟩, ⟨by repeat (first | (with_reducible first | exact HB.out | apply below_alloc | apply pw_below_drewN | apply below_drew1 | refine below_set ?_ GE104.out) | exact HB.out)⟩⟩
         ·rw [if_neg c13] at H
          exact absurd H (by simp)
        ·rw [if_neg c12] at H
         have c12b0 : decide (x5_1 < ((rd_L1 l0_1 a1).length : Int)) = false := decide_eq_false c12
         clear c12
         obtain rfl := Option.some.inj H
         have hcz33_0 : wr.cell? ⟨gb104, 0, none⟩ = some (.int .i64 a0_0) := (blk_cell BK104.out 0).trans rfl
         have hcz33_1 : wr.cell? ⟨gb104, 1, none⟩ = some (.slice (some ad105) l0_1.length c0_1) := (blk_cell BK104.out 1).trans rfl
         have hcz33_2 : wr.cell? ⟨gb104, 2, none⟩ = some (.int .i64 a0_2) := (blk_cell BK104.out 2).trans rfl
         have hfz33_0 := blk_frozen BK104.out 0
         have hfz33_1 := blk_frozen BK104.out 1
         have hfz33_2 := blk_frozen BK104.out 2
         have p106 : 0 ≤ (a1 : Int) := of_decide_eq_true (by first | (with_reducible assumption) | assumption)
         have q106 : a1 < (l0_1.length : Int) := of_decide_eq_true (by first | (with_reducible assumption) | assumption)
         obtain ⟨ad106, A106_0, c106_0, e106, hx106_0, hl106_0, hi106_0⟩ := at_L1 HR0_1.out a1 p106 q106
         obtain rfl : ad105 = ad106 := (by injection e106)
         replace hx106_0 := (HB.out.cell (World.block_lt_of_cell? w _ hx106_0)).trans hx106_0
         have HR106_0 := Aside0.mk hi106_0
         have HC106_0 := Aside0.mk hl106_0
         clear hi106_0 hl106_0
         try (have ea_ := Option.some.inj (hx107_0.symm.trans hx106_0); injection ea_ with ea_ en_ ec_; subst ea_; subst ec_; clear en_)
         try (have ea_ := Option.some.inj (hx109_0.symm.trans hx106_0); injection ea_ with ea_ en_ ec_; subst ea_; subst ec_; clear en_)
         try (have ea_ := Option.some.inj (hx111_0.symm.trans hx106_0); injection ea_ with ea_ en_ ec_; subst ea_; subst ec_; clear en_)
         try (have ea_ := Option.some.inj (hx111_0.symm.trans hx106_0); injection ea_ with ea_ en_ ec_; subst ea_; subst ec_; clear en_)
         replace p106 := eq_true p106
         replace q106 := eq_true q106
         go_wp2
         go_ret
         exact ⟨by first | rfl | (simp [errW_none, errW_some] <;> rfl) | (simp [*, errW_none, errW_some] <;> rfl), by repeat (first | (with_reducible first | exact HB.out | apply below_alloc | apply pw_below_drewN | apply below_drew1 | refine below_set ?_ GE104.out) | exact HB.out)⟩
       ·rw [if_neg c11] at H
        exact absurd H (by simp)
      ·rw [if_neg c10] at H
       exact absurd H (by simp)
  ·rw [if_neg c4] at H
   exact absurd H (by simp)
 ·rw [if_neg c3] at H
  exact absurd H (by simp)


/-! ### quietusref07_Check: function 16 -/
mutual
def quietusref07_Check.j0 : Nat → Bool → Int → List (List Int) → Int → Option (Int)
 | 0, _, _, _, _ => none
 | k + 1, x22, x114000, x114001, x114002 => if x22 = true then (some 3) else (if (wrap64 ((wrap64 (x114000 + (x114001.length : Int))) + x114002)) > 24 then (some 2) else (quietusref07_Check.l0 k 0 x114000 x114001 x114002))
def quietusref07_Check.l0 : Nat → Int → Int → List (List Int) → Int → Option (Int)
 | 0, _, _, _, _ => none
 | k + 1, x3, x114000, x114001, x114002 => if x3 < (x114001.length : Int) then ((quietusref07_group.f k x114000 x114001 x114002 x3).bind fun t114 => (if t114 = 0 then (quietusref07_Check.l0 k (wrap64 (x3 + 1)) x114000 x114001 x114002) else (some t114))) else (some 0)
end
def quietusref07_Check.f (k : Nat) (a0_0 : Int) (l0_1 : List (List Int)) (a0_2 : Int) : Option (Int) := if a0_0 < 1 then (quietusref07_Check.j0 k true a0_0 l0_1 a0_2) else (if a0_0 > 16 then (quietusref07_Check.j0 k true a0_0 l0_1 a0_2) else (if a0_2 < 0 then (quietusref07_Check.j0 k true a0_0 l0_1 a0_2) else (quietusref07_Check.j0 k (decide (a0_2 > 4)) a0_0 l0_1 a0_2)))
set_option maxHeartbeats 8000000 in
set_option maxRecDepth 100000 in
theorem quietusref07_Check.calls (k : Nat) (a0_0 : Int) (A0_1 : Option Addr) (c0_1 : Nat) (l0_1 : List (List Int)) (a0_2 : Int) (r : Int) (w : World) (hG : HG w) (hr0_1 : Kd.C (Kd.slice 3 (Kd.int .i64)) w A0_1 l0_1.length l0_1) (hc0_1 : l0_1.length ≤ c0_1) (h : quietusref07_Check.f k a0_0 l0_1 a0_2 = some r) :
  Calls Tryd.prog 16 #[.agg #[.int .i64 a0_0, .slice A0_1 l0_1.length c0_1, .int .i64 a0_2]] w fun e w' => e = .returned (.int .i64 r) ∧ Below w.heap.size w w' := by
 have HGw := Aside0.mk hG
 clear hG
 have hu24 := Tryd.underlying24
 have HR0_1 := Aside0.mk hr0_1
 have HC0_1 := Aside0.mk hc0_1
 clear hr0_1 hc0_1
 have HB := Aside0.mk (Below.refl w.heap.size w)
 have H : (if a0_0 < 1 then (quietusref07_Check.j0 k true a0_0 l0_1 a0_2) else (if a0_0 > 16 then (quietusref07_Check.j0 k true a0_0 l0_1 a0_2) else (if a0_2 < 0 then (quietusref07_Check.j0 k true a0_0 l0_1 a0_2) else (quietusref07_Check.j0 k (decide (a0_2 > 4)) a0_0 l0_1 a0_2)))) = some r := h
 clear h
 have HC2 := Aside0.mk H
 clear H
 go_enter Tryd.func16, Tryd.ntmps16
 go_upto_region 1 with (first | ((with_reducible refine gate_dst (N := 1) rfl ?_); refine box_event ?hg (N := 1) ?hd (cs := #[.int .i64 a0_0, .slice A0_1 l0_1.length c0_1, .int .i64 a0_2]) (t := 24) ?hr ?_; (case hd => rfl); (case hg => rfl); (case hr => first | (go_simp; done) | (go_simp; rfl)); intro gb113 hg w3 hbox hb; have n0_ := Aside0.mk (below_step (by repeat (first | (with_reducible first | exact HB.out | apply below_alloc | apply pw_below_drewN | apply below_drew1) | exact HB.out)) hb); have n1_ := Aside0.mk (hbox); have n2_ := Aside0.mk ((by rw [hg]; exact (below_size (by repeat (first | (with_reducible first | exact HB.out | apply below_alloc | apply pw_below_drewN | apply below_drew1) | exact HB.out))) : w.heap.size ≤ gb113)); have n3_ := Aside0.mk ((by rw [hg]; exact (below_size (by repeat (first | (with_reducible first | exact HB.out | apply below_alloc | apply pw_below_drewN | apply below_drew1) | exact HB.out))) : w.heap.size ≤ gb113)); clear HB; have HB := n0_; have BK113 := n1_; have GW113 := n2_; have GE113 := n3_; clear n0_ n1_ n2_ n3_; clear hb hbox hg))
 (try simp only [Act.put, List.setIfInBounds_toArray, List.set_cons_zero, List.set_cons_succ])
 go_cut [22] (fun v22 wc => ∃ (kq : Nat) (x22_1 : Bool), v22 = .bool x22_1 ∧ Aside0 (quietusref07_Check.j0 kq x22_1 a0_0 l0_1 a0_2 = some r) ∧ Aside0 (kq ≤ k) ∧ Aside0 (wc.heap[gb113]? = some (.cells #[.int .i64 a0_0, (.slice A0_1 l0_1.length c0_1), .int .i64 a0_2] 24 (0, 0))) ∧ Aside0 (Below w.heap.size w wc))
 case first =>
  have H := HC2.out
  clear HC2
  by_cases c4 : a0_0 < 1
  ·rw [if_pos c4] at H
   have c4b0 : decide (a0_0 < 1) = true := decide_eq_true c4
   clear c4
   (first | rw [c4b0] | (simp only [i64_w, i32_w]; rw [c4b0]) | skip)
   have H' := Aside0.mk H
   clear H
   have hcz5_0 : w3.cell? ⟨gb113, 0, none⟩ = some (.int .i64 a0_0) := (blk_cell BK113.out 0).trans rfl
   have hcz5_1 : w3.cell? ⟨gb113, 1, none⟩ = some (.slice A0_1 l0_1.length c0_1) := (blk_cell BK113.out 1).trans rfl
   have hcz5_2 : w3.cell? ⟨gb113, 2, none⟩ = some (.int .i64 a0_2) := (blk_cell BK113.out 2).trans rfl
   have hfz5_0 := blk_frozen BK113.out 0
   have hfz5_1 := blk_frozen BK113.out 1
   have hfz5_2 := blk_frozen BK113.out 2
   go_wp2
   go_meet
   case rel => exact ⟨_, (true), (by first | rfl | (simp; done) | (simp [*]; done)), H', ⟨by first | omega | exact Nat.le_refl _⟩, ⟨by (with_reducible repeat (first | refine blk_drewN ?_ _ | refine blk_drew ?_ | refine blk_alloc ?_ _)); exact BK113.out⟩, ⟨by repeat (first | (with_reducible first | exact HB.out | apply below_alloc | apply pw_below_drewN | apply below_drew1 | refine below_set ?_ GE113.out) | exact HB.out)⟩⟩
  ·rw [if_neg c4] at H
   have c4b0 : decide (a0_0 < 1) = false := decide_eq_false c4
   clear c4
   (first | rw [c4b0] | (simp only [i64_w, i32_w]; rw [c4b0]) | skip)
   by_cases c6 : a0_0 > 16
   ·rw [if_pos c6] at H
    have c6b0 : decide (16 < a0_0) = true := decide_eq_true c6
    clear c6
    have H' := Aside0.mk H
    clear H
    have hcz7_0 : w3.cell? ⟨gb113, 0, none⟩ = some (.int .i64 a0_0) := (blk_cell BK113.out 0).trans rfl
    have hcz7_1 : w3.cell? ⟨gb113, 1, none⟩ = some (.slice A0_1 l0_1.length c0_1) := (blk_cell BK113.out 1).trans rfl
    have hcz7_2 : w3.cell? ⟨gb113, 2, none⟩ = some (.int .i64 a0_2) := (blk_cell BK113.out 2).trans rfl
    have hfz7_0 := blk_frozen BK113.out 0
    have hfz7_1 := blk_frozen BK113.out 1
    have hfz7_2 := blk_frozen BK113.out 2
    go_wp2
    go_meet
    case rel => exact ⟨_, (true), (by first | rfl | (simp; done) | (simp [*]; done)), H', ⟨by first | omega | exact Nat.le_refl _⟩, ⟨by (with_reducible repeat (first | refine blk_drewN ?_ _ | refine blk_drew ?_ | refine blk_alloc ?_ _)); exact BK113.out⟩, ⟨by repeat (first | (with_reducible first | exact HB.out | apply below_alloc | apply pw_below_drewN | apply below_drew1 | refine below_set ?_ GE113.out) | exact HB.out)⟩⟩
   ·rw [if_neg c6] at H
    have c6b0 : decide (16 < a0_0) = false := decide_eq_false c6
    clear c6
    by_cases c8 : a0_2 < 0
    ·rw [if_pos c8] at H
     have c8b0 : decide (a0_2 < 0) = true := decide_eq_true c8
     clear c8
     have H' := Aside0.mk H
     clear H
     have hcz9_0 : w3.cell? ⟨gb113, 0, none⟩ = some (.int .i64 a0_0) := (blk_cell BK113.out 0).trans rfl
     have hcz9_1 : w3.cell? ⟨gb113, 1, none⟩ = some (.slice A0_1 l0_1.length c0_1) := (blk_cell BK113.out 1).trans rfl
     have hcz9_2 : w3.cell? ⟨gb113, 2, none⟩ = some (.int .i64 a0_2) := (blk_cell BK113.out 2).trans rfl
     have hfz9_0 := blk_frozen BK113.out 0
     have hfz9_1 := blk_frozen BK113.out 1
     have hfz9_2 := blk_frozen BK113.out 2
     go_wp2
     go_meet
     case rel => exact ⟨_, (true), (by first | rfl | (simp; done) | (simp [*]; done)), H', ⟨by first | omega | exact Nat.le_refl _⟩, ⟨by (with_reducible repeat (first | refine blk_drewN ?_ _ | refine blk_drew ?_ | refine blk_alloc ?_ _)); exact BK113.out⟩, ⟨by repeat (first | (with_reducible first | exact HB.out | apply below_alloc | apply pw_below_drewN | apply below_drew1 | refine below_set ?_ GE113.out) | exact HB.out)⟩⟩
    ·rw [if_neg c8] at H
     have c8b0 : decide (a0_2 < 0) = false := decide_eq_false c8
     clear c8
     have H' := Aside0.mk H
     clear H
     have hcz10_0 : w3.cell? ⟨gb113, 0, none⟩ = some (.int .i64 a0_0) := (blk_cell BK113.out 0).trans rfl
     have hcz10_1 : w3.cell? ⟨gb113, 1, none⟩ = some (.slice A0_1 l0_1.length c0_1) := (blk_cell BK113.out 1).trans rfl
     have hcz10_2 : w3.cell? ⟨gb113, 2, none⟩ = some (.int .i64 a0_2) := (blk_cell BK113.out 2).trans rfl
     have hfz10_0 := blk_frozen BK113.out 0
     have hfz10_1 := blk_frozen BK113.out 1
     have hfz10_2 := blk_frozen BK113.out 2
     go_wp2
     go_meet
     case rel => exact ⟨_, (decide (a0_2 > 4)), (by first | rfl | (simp; done) | (simp [*]; done)), H', ⟨by first | omega | exact Nat.le_refl _⟩, ⟨by (with_reducible repeat (first | refine blk_drewN ?_ _ | refine blk_drew ?_ | refine blk_alloc ?_ _)); exact BK113.out⟩, ⟨by repeat (first | (with_reducible first | exact HB.out | apply below_alloc | apply pw_below_drewN | apply below_drew1 | refine below_set ?_ GE113.out) | exact HB.out)⟩⟩
 case rest =>
  clear HC2
  try clear c1
  try clear p2
  try clear c4
  try clear c4b0
  try clear c6
  try clear c6b0
  try clear c8
  try clear c8b0
  try clear hcz10_0
  try clear hcz10_1
  try clear hcz10_2
  try clear hcz5_0
  try clear hcz5_1
  try clear hcz5_2
  try clear hcz7_0
  try clear hcz7_1
  try clear hcz7_2
  try clear hcz9_0
  try clear hcz9_1
  try clear hcz9_2
  try clear hfz10_0
  try clear hfz10_1
  try clear hfz10_2
  try clear hfz5_0
  try clear hfz5_1
  try clear hfz5_2
  try clear hfz7_0
  try clear hfz7_1
  try clear hfz7_2
  try clear hfz9_0
  try clear hfz9_1
  try clear hfz9_2
  obtain ⟨kq, x22_1, rfl, HA, HJ1, BK113, HB⟩ := hcut
  cases kq with
  | zero => exact absurd HA.out (by simp [quietusref07_Check.j0])
  | succ kj1 =>
   have H := HA.out
   clear HA
   simp only [quietusref07_Check.j0] at H
   by_cases c11 : x22_1 = true
   ·subst c11
    have H1 : (some 3) = some r := by rw [if_pos rfl] at H; exact H
    clear H
    have H := H1
    clear H1
    obtain rfl := Option.some.inj H
    go_wp2
    go_ret
    exact ⟨by first | rfl | (simp [errW_none, errW_some] <;> rfl) | (simp [*, errW_none, errW_some] <;> rfl), by repeat (first | (with_reducible first | exact HB.out | apply below_alloc | apply pw_below_drewN | apply below_drew1 | refine below_set ?_ GE113.out) | exact HB.out)⟩
   ·replace c11 := Bool.eq_false_iff.mpr c11
    subst c11
    have H1 : (if (wrap64 ((wrap64 (a0_0 + (l0_1.length : Int))) + a0_2)) > 24 then (some 2) else (quietusref07_Check.l0 kj1 0 a0_0 l0_1 a0_2)) = some r := by rw [if_neg (show ¬ (false = true) by decide)] at H; exact H
    clear H
    have H := H1
    clear H1
    by_cases c12 : (wrap64 ((wrap64 (a0_0 + (l0_1.length : Int))) + a0_2)) > 24
    ·rw [if_pos c12] at H
     have c12b0 : decide (24 < (wrap64 ((wrap64 (a0_0 + (l0_1.length : Int))) + a0_2))) = true := decide_eq_true c12
     clear c12
     obtain rfl := Option.some.inj H
     have hcz13_0 : wc.cell? ⟨gb113, 0, none⟩ = some (.int .i64 a0_0) := (blk_cell BK113.out 0).trans rfl
     have hcz13_1 : wc.cell? ⟨gb113, 1, none⟩ = some (.slice A0_1 l0_1.length c0_1) := (blk_cell BK113.out 1).trans rfl
     have hcz13_2 : wc.cell? ⟨gb113, 2, none⟩ = some (.int .i64 a0_2) := (blk_cell BK113.out 2).trans rfl
     have hfz13_0 := blk_frozen BK113.out 0
     have hfz13_1 := blk_frozen BK113.out 1
     have hfz13_2 := blk_frozen BK113.out 2
     go_wp2
     go_ret
     exact ⟨by first | rfl | (simp [errW_none, errW_some] <;> rfl) | (simp [*, errW_none, errW_some] <;> rfl), by repeat (first | (with_reducible first | exact HB.out | apply below_alloc | apply pw_below_drewN | apply below_drew1 | refine below_set ?_ GE113.out) | exact HB.out)⟩
    ·rw [if_neg c12] at H
     have c12b0 : decide (24 < (wrap64 ((wrap64 (a0_0 + (l0_1.length : Int))) + a0_2))) = false := decide_eq_false c12
     clear c12
     have H' := Aside0.mk H
     clear H
     have hcz14_0 : wc.cell? ⟨gb113, 0, none⟩ = some (.int .i64 a0_0) := (blk_cell BK113.out 0).trans rfl
     have hcz14_1 : wc.cell? ⟨gb113, 1, none⟩ = some (.slice A0_1 l0_1.length c0_1) := (blk_cell BK113.out 1).trans rfl
     have hcz14_2 : wc.cell? ⟨gb113, 2, none⟩ = some (.int .i64 a0_2) := (blk_cell BK113.out 2).trans rfl
     have hfz14_0 := blk_frozen BK113.out 0
     have hfz14_1 := blk_frozen BK113.out 1
     have hfz14_2 := blk_frozen BK113.out 2
     go_wp2
     go_loopg [3] kj1 (fun kq v3 w' => ∃ (x3_2 : Int), v3 = .int .i64 x3_2 ∧ Aside0 (quietusref07_Check.l0 kq x3_2 a0_0 l0_1 a0_2 = some r) ∧ Aside0 (kq ≤ kj1) ∧ Aside0 (w'.heap[gb113]? = some (.cells #[.int .i64 a0_0, (.slice A0_1 l0_1.length c0_1), .int .i64 a0_2] 24 (0, 0))) ∧ Aside0 (Below w.heap.size w w'))
     case atStart => exact ⟨(0), (by first | rfl | (simp; done) | (simp [*]; done)), H', ⟨Nat.le_refl _⟩, ⟨by (with_reducible repeat (first | refine blk_drewN ?_ _ | refine blk_drew ?_ | refine blk_alloc ?_ _)); exact BK113.out⟩, ⟨by repeat (first | (with_reducible first | exact HB.out | apply below_alloc | apply pw_below_drewN | apply below_drew1 | refine below_set ?_ GE113.out) | exact HB.out)⟩⟩
     case round =>
      clear H'
      try clear c1
      try clear p2
      try clear c4
      try clear c4b0
      try clear c6
      try clear c6b0
      try clear p6
      try clear c8
      try clear c8b0
      try clear c11
      try clear c12
      try clear c12b0
      try clear hcz10_0
      try clear hcz10_1
      try clear hcz10_2
      try clear hcz13_0
      try clear hcz13_1
      try clear hcz13_2
      try clear hcz14_0
      try clear hcz14_1
      try clear hcz14_2
      try clear hcz5_0
      try clear hcz5_1
      try clear hcz5_2
      try clear hcz7_0
      try clear hcz7_1
      try clear hcz7_2
      try clear hcz9_0
      try clear hcz9_1
      try clear hcz9_2
      try clear hfz10_0
      try clear hfz10_1
      try clear hfz10_2
      try clear hfz13_0
      try clear hfz13_1
      try clear hfz13_2
      try clear hfz14_0
      try clear hfz14_1
      try clear hfz14_2
      try clear hfz5_0
      try clear hfz5_1
      try clear hfz5_2
      try clear hfz7_0
      try clear hfz7_1
      try clear hfz7_2
      try clear hfz9_0
      try clear hfz9_1
      try clear hfz9_2
      try clear p2
      obtain ⟨x3_2, rfl, HA, HK2, BK113, HB⟩ := hrel
      cases gk with
      | zero => exact absurd HA.out (by simp [quietusref07_Check.l0])
      | succ k2 =>
       have H := HA.out
       clear HA
       simp only [quietusref07_Check.l0] at H
       by_cases c15 : x3_2 < (l0_1.length : Int)
       ·rw [if_pos c15] at H
        have c15b0 : decide (x3_2 < (l0_1.length : Int)) = true := decide_eq_true c15
        clear c15
        replace H := Option.bind_eq_some_iff.mp H
        obtain ⟨t114, A160, H⟩ := H
        replace H : (if t114 = 0 then (quietusref07_Check.l0 k2 (wrap64 (x3_2 + 1)) a0_0 l0_1 a0_2) else (some t114)) = some r := H
        have A16 := Aside0.mk A160
        clear A160
        by_cases c17 : t114 = 0
        ·rw [if_pos c17] at H
         have c17b0 : (t114 == 0) = true := beq_iff_eq.mpr c17
         have c17b1 : (t114 != 0) = false := bne_eq_false_iff_eq.mpr c17
         clear c17
         have H' := Aside0.mk H
         clear H
         have hcz18_0 : wr.cell? ⟨gb113, 0, none⟩ = some (.int .i64 a0_0) := (blk_cell BK113.out 0).trans rfl
         have hcz18_1 : wr.cell? ⟨gb113, 1, none⟩ = some (.slice A0_1 l0_1.length c0_1) := (blk_cell BK113.out 1).trans rfl
         have hcz18_2 : wr.cell? ⟨gb113, 2, none⟩ = some (.int .i64 a0_2) := (blk_cell BK113.out 2).trans rfl
         have hfz18_0 := blk_frozen BK113.out 0
         have hfz18_1 := blk_frozen BK113.out 1
         have hfz18_2 := blk_frozen BK113.out 2
         go_wp2_with (first | ((with_reducible refine gate_callee (f := 57) rfl ?_); refine goesL_ (some 42) rfl rfl Tryd.func57 (by kernel_rfl) rfl #[.agg #[.int .i64 a0_0, .slice A0_1 l0_1.length c0_1, .int .i64 a0_2], .int .i64 x3_2] rfl (by (try simp only [List.map_toArray, List.map_cons, List.map_nil]); first | done | rfl | (simp only [List.length_drop, List.length_take]; rfl)) ?_; (with_reducible refine (quietusref07_group.calls k2 a0_0 _ _ l0_1 a0_2 x3_2 t114 _ ?side1 ?side2 ?side3 A16.out).mono ?_); (case side1 => exact HG.below HGw.out (by repeat (first | (with_reducible first | exact HB.out | apply below_alloc | apply pw_below_drewN | apply below_drew1 | refine below_set ?_ GE113.out) | exact HB.out))); (case side2 => repeat (first | exact (Kd.C_below HR0_1.out HB.out) | (with_reducible refine Kd.C_alloc ?_ _) | (with_reducible refine Kd.C_drewN ?_ _) | (with_reducible refine Kd.C_drew ?_))); (case side3 => exact HC0_1.out); rintro e w19 ⟨rfl, hb⟩; refine ⟨_, rfl, ?_⟩; have n0_ := Aside0.mk (blk_below (g := gb113) (o := .cells #[.int .i64 a0_0, .slice A0_1 l0_1.length c0_1, .int .i64 a0_2] 24 (0, 0)) (by (with_reducible repeat (first | refine blk_drewN ?_ _ | refine blk_drew ?_ | refine blk_alloc ?_ _)); exact BK113.out) hb); have n1_ := Aside0.mk (below_step (by repeat (first | (with_reducible first | exact HB.out | apply below_alloc | apply pw_below_drewN | apply below_drew1 | refine below_set ?_ GE113.out) | exact HB.out)) hb); clear BK113; clear HB; have BK113 := n0_; have HB := n1_; clear n0_ n1_; (try clear hb); (try clear hb2); (try clear hk); (try clear hi)))
         go_roundg k2
         case measure => have := HJ1.out; have := HK2.out; omega
         case rel => exact ⟨(wrap64 (x3_2 + 1)), (by first | rfl | (simp; done) | (simp [*]; done)), H', ⟨by have := HJ1.out; have := HK2.out; omega⟩, ⟨by (with_reducible repeat (first | refine blk_drewN ?_ _ | refine blk_drew ?_ | refine blk_alloc ?_ _)); exact BK113.out⟩, ⟨by repeat (first | (with_reducible first | exact HB.out | apply below_alloc | apply pw_below_drewN | apply below_drew1 | refine below_set ?_ GE113.out) | exact HB.out)⟩⟩
        ·rw [if_neg c17] at H
         have c17b0 : (t114 == 0) = false := beq_eq_false_iff_ne.mpr c17
         have c17b1 : (t114 != 0) = true := bne_iff_ne.mpr c17
         obtain rfl := Option.some.inj H
         have hcz20_0 : wr.cell? ⟨gb113, 0, none⟩ = some (.int .i64 a0_0) := (blk_cell BK113.out 0).trans rfl
         have hcz20_1 : wr.cell? ⟨gb113, 1, none⟩ = some (.slice A0_1 l0_1.length c0_1) := (blk_cell BK113.out 1).trans rfl
         have hcz20_2 : wr.cell? ⟨gb113, 2, none⟩ = some (.int .i64 a0_2) := (blk_cell BK113.out 2).trans rfl
         have hfz20_0 := blk_frozen BK113.out 0
         have hfz20_1 := blk_frozen BK113.out 1
         have hfz20_2 := blk_frozen BK113.out 2
         go_wp2_with (first | ((with_reducible refine gate_callee (f := 57) rfl ?_); refine goesL_ (some 42) rfl rfl Tryd.func57 (by kernel_rfl) rfl #[.agg #[.int .i64 a0_0, .slice A0_1 l0_1.length c0_1, .int .i64 a0_2], .int .i64 x3_2] rfl (by (try simp only [List.map_toArray, List.map_cons, List.map_nil]); first | done | rfl | (simp only [List.length_drop, List.length_take]; rfl)) ?_; (with_reducible refine (quietusref07_group.calls k2 a0_0 _ _ l0_1 a0_2 x3_2 t114 _ ?side1 ?side2 ?side3 A16.out).mono ?_); (case side1 => exact HG.below HGw.out (by repeat (first | (with_reducible first | exact HB.out | apply below_alloc | apply pw_below_drewN | apply below_drew1 | refine below_set ?_ GE113.out) | exact HB.out))); (case side2 => repeat (first | exact (Kd.C_below HR0_1.out HB.out) | (with_reducible refine Kd.C_alloc ?_ _) | (with_reducible refine Kd.C_drewN ?_ _) | (with_reducible refine Kd.C_drew ?_))); (case side3 => exact HC0_1.out); rintro e w21 ⟨rfl, hb⟩; refine ⟨_, rfl, ?_⟩; have n0_ := Aside0.mk (blk_below (g := gb113) (o := .cells #[.int .i64 a0_0, .slice A0_1 l0_1.length c0_1, .int .i64 a0_2] 24 (0, 0)) (by (with_reducible repeat (first | refine blk_drewN ?_ _ | refine blk_drew ?_ | refine blk_alloc ?_ _)); exact BK113.out) hb); have n1_ := Aside0.mk (below_step (by repeat (first | (with_reducible first | exact HB.out | apply below_alloc | apply pw_below_drewN | apply below_drew1 | refine below_set ?_ GE113.out) | exact HB.out)) hb); clear BK113; clear HB; have BK113 := n0_; have HB := n1_; clear n0_ n1_; (try clear hb); (try clear hb2); (try clear hk); (try clear hi)))
         go_ret
         exact ⟨by first | rfl | (simp [errW_none, errW_some] <;> rfl) | (simp [*, errW_none, errW_some] <;> rfl), by repeat (first | (with_reducible first | exact HB.out | apply below_alloc | apply pw_below_drewN | apply below_drew1 | refine below_set ?_ GE113.out) | exact HB.out)⟩
       ·rw [if_neg c15] at H
        have c15b0 : decide (x3_2 < (l0_1.length : Int)) = false := decide_eq_false c15
        clear c15
        obtain rfl := Option.some.inj H
        have hcz22_0 : wr.cell? ⟨gb113, 0, none⟩ = some (.int .i64 a0_0) := (blk_cell BK113.out 0).trans rfl
        have hcz22_1 : wr.cell? ⟨gb113, 1, none⟩ = some (.slice A0_1 l0_1.length c0_1) := (blk_cell BK113.out 1).trans rfl
        have hcz22_2 : wr.cell? ⟨gb113, 2, none⟩ = some (.int .i64 a0_2) := (blk_cell BK113.out 2).trans rfl
        have hfz22_0 := blk_frozen BK113.out 0
        have hfz22_1 := blk_frozen BK113.out 1
        have hfz22_2 := blk_frozen BK113.out 2
        go_wp2
        go_ret
        exact ⟨by first | rfl | (simp [errW_none, errW_some] <;> rfl) | (simp [*, errW_none, errW_some] <;> rfl), by repeat (first | (with_reducible first | exact HB.out | apply below_alloc | apply pw_below_drewN | apply below_drew1 | refine below_set ?_ GE113.out) | exact HB.out)⟩


/-! ### quietusref07_Pieces: function 22 -/
def quietusref07_Pieces.f (k : Nat) (a0_0 : Int) (l0_1 : List (List Int)) (a0_2 : Int) : Option (Int) := (quietusref07_Check.f k a0_0 l0_1 a0_2).bind fun t116 => (if t116 = 0 then (some (wrap64 ((wrap64 (a0_0 + (l0_1.length : Int))) + a0_2))) else (some 0))
set_option maxHeartbeats 8000000 in
set_option maxRecDepth 100000 in
theorem quietusref07_Pieces.calls (k : Nat) (a0_0 : Int) (A0_1 : Option Addr) (c0_1 : Nat) (l0_1 : List (List Int)) (a0_2 : Int) (r : Int) (w : World) (hG : HG w) (hr0_1 : Kd.C (Kd.slice 3 (Kd.int .i64)) w A0_1 l0_1.length l0_1) (hc0_1 : l0_1.length ≤ c0_1) (h : quietusref07_Pieces.f k a0_0 l0_1 a0_2 = some r) :
  Calls Tryd.prog 22 #[.agg #[.int .i64 a0_0, .slice A0_1 l0_1.length c0_1, .int .i64 a0_2]] w fun e w' => e = .returned (.int .i64 r) ∧ Below w.heap.size w w' := by
 have HGw := Aside0.mk hG
 clear hG
 have hu24 := Tryd.underlying24
 have HR0_1 := Aside0.mk hr0_1
 have HC0_1 := Aside0.mk hc0_1
 clear hr0_1 hc0_1
 have HB := Aside0.mk (Below.refl w.heap.size w)
 have H : ((quietusref07_Check.f k a0_0 l0_1 a0_2).bind fun t116 => (if t116 = 0 then (some (wrap64 ((wrap64 (a0_0 + (l0_1.length : Int))) + a0_2))) else (some 0))) = some r := h
 clear h
 replace H := Option.bind_eq_some_iff.mp H
 obtain ⟨t116, A20, H⟩ := H
 replace H : (if t116 = 0 then (some (wrap64 ((wrap64 (a0_0 + (l0_1.length : Int))) + a0_2))) else (some 0)) = some r := H
 have A2 := Aside0.mk A20
 clear A20
 by_cases c3 : t116 = 0
 ·rw [if_pos c3] at H
  have c3b0 : (t116 == 0) = true := beq_iff_eq.mpr c3
  have c3b1 : (t116 != 0) = false := bne_eq_false_iff_eq.mpr c3
  clear c3
  obtain rfl := Option.some.inj H
  go_enter Tryd.func22, Tryd.ntmps22
  go_wp2_with (first | ((with_reducible refine gate_dst (N := 1) rfl ?_); refine box_event ?hg (N := 1) ?hd (cs := #[.int .i64 a0_0, .slice A0_1 l0_1.length c0_1, .int .i64 a0_2]) (t := 24) ?hr ?_; (case hd => rfl); (case hg => rfl); (case hr => first | (go_simp; done) | (go_simp; rfl)); intro gb115 hg w4 hbox hb; have n0_ := Aside0.mk (below_step (by repeat (first | (with_reducible first | exact HB.out | apply below_alloc | apply pw_below_drewN | apply below_drew1) | exact HB.out)) hb); have n1_ := Aside0.mk (hbox); have n2_ := Aside0.mk ((by rw [hg]; exact (below_size (by repeat (first | (with_reducible first | exact HB.out | apply below_alloc | apply pw_below_drewN | apply below_drew1) | exact HB.out))) : w.heap.size ≤ gb115)); have n3_ := Aside0.mk ((by rw [hg]; exact (below_size (by repeat (first | (with_reducible first | exact HB.out | apply below_alloc | apply pw_below_drewN | apply below_drew1) | exact HB.out))) : w.heap.size ≤ gb115)); clear HB; have HB := n0_; have BK115 := n1_; have GW115 := n2_; have GE115 := n3_; clear n0_ n1_ n2_ n3_; clear hb hbox hg; have hcz5_0 : w4.cell? ⟨gb115, 0, none⟩ = some (.int .i64 a0_0) := (blk_cell BK115.out 0).trans rfl; have hcz5_1 : w4.cell? ⟨gb115, 1, none⟩ = some (.slice A0_1 l0_1.length c0_1) := (blk_cell BK115.out 1).trans rfl; have hcz5_2 : w4.cell? ⟨gb115, 2, none⟩ = some (.int .i64 a0_2) := (blk_cell BK115.out 2).trans rfl; have hfz5_0 := blk_frozen BK115.out 0; have hfz5_1 := blk_frozen BK115.out 1; have hfz5_2 := blk_frozen BK115.out 2) | ((with_reducible refine gate_callee (f := 16) rfl ?_); refine goesL_ (some 4) rfl rfl Tryd.func16 (by kernel_rfl) rfl #[.agg #[.int .i64 a0_0, .slice A0_1 l0_1.length c0_1, .int .i64 a0_2]] rfl (by (try simp only [List.map_toArray, List.map_cons, List.map_nil]); first | done | rfl | (simp only [List.length_drop, List.length_take]; rfl)) ?_; (with_reducible refine (quietusref07_Check.calls k a0_0 _ _ l0_1 a0_2 t116 _ ?side1 ?side2 ?side3 A2.out).mono ?_); (case side1 => exact HG.below HGw.out (by repeat (first | (with_reducible first | exact HB.out | apply below_alloc | apply pw_below_drewN | apply below_drew1 | refine below_set ?_ GE115.out) | exact HB.out))); (case side2 => repeat (first | exact (Kd.C_below HR0_1.out HB.out) | (with_reducible refine Kd.C_alloc ?_ _) | (with_reducible refine Kd.C_drewN ?_ _) | (with_reducible refine Kd.C_drew ?_))); (case side3 => exact HC0_1.out); rintro e w6 ⟨rfl, hb⟩; refine ⟨_, rfl, ?_⟩; have n0_ := Aside0.mk (blk_below (g := gb115) (o := .cells #[.int .i64 a0_0, .slice A0_1 l0_1.length c0_1, .int .i64 a0_2] 24 (0, 0)) (by (with_reducible repeat (first | refine blk_drewN ?_ _ | refine blk_drew ?_ | refine blk_alloc ?_ _)); exact BK115.out) hb); have n1_ := Aside0.mk (below_step (by repeat (first | (with_reducible first | exact HB.out | apply below_alloc | apply pw_below_drewN | apply below_drew1 | refine below_set ?_ GE115.out) | exact HB.out)) hb); clear BK115; clear HB; have BK115 := n0_; have HB := n1_; clear n0_ n1_; (try clear hb); (try clear hb2); (try clear hk); (try clear hi); have hcz7_0 : w6.cell? ⟨gb115, 0, none⟩ = some (.int .i64 a0_0) := (blk_cell BK115.out 0).trans rfl; have hcz7_1 : w6.cell? ⟨gb115, 1, none⟩ = some (.slice A0_1 l0_1.length c0_1) := (blk_cell BK115.out 1).trans rfl; have hcz7_2 : w6.cell? ⟨gb115, 2, none⟩ = some (.int .i64 a0_2) := (blk_cell BK115.out 2).trans rfl; have hfz7_0 := blk_frozen BK115.out 0; have hfz7_1 := blk_frozen BK115.out 1; have hfz7_2 := blk_frozen BK115.out 2))
  go_ret
  exact ⟨by first | rfl | (simp [errW_none, errW_some] <;> rfl) | (simp [*, errW_none, errW_some] <;> rfl), by repeat (first | (with_reducible first | exact HB.out | apply below_alloc | apply pw_below_drewN | apply below_drew1 | refine below_set ?_ GE115.out) | exact HB.out)⟩
 ·rw [if_neg c3] at H
  have c3b0 : (t116 == 0) = false := beq_eq_false_iff_ne.mpr c3
  have c3b1 : (t116 != 0) = true := bne_iff_ne.mpr c3
  obtain rfl := Option.some.inj H
  go_enter Tryd.func22, Tryd.ntmps22
  go_wp2_with (first | ((with_reducible refine gate_dst (N := 1) rfl ?_); refine box_event ?hg (N := 1) ?hd (cs := #[.int .i64 a0_0, .slice A0_1 l0_1.length c0_1, .int .i64 a0_2]) (t := 24) ?hr ?_; (case hd => rfl); (case hg => rfl); (case hr => first | (go_simp; done) | (go_simp; rfl)); intro gb115 hg w8 hbox hb; have n0_ := Aside0.mk (below_step (by repeat (first | (with_reducible first | exact HB.out | apply below_alloc | apply pw_below_drewN | apply below_drew1) | exact HB.out)) hb); have n1_ := Aside0.mk (hbox); have n2_ := Aside0.mk ((by rw [hg]; exact (below_size (by repeat (first | (with_reducible first | exact HB.out | apply below_alloc | apply pw_below_drewN | apply below_drew1) | exact HB.out))) : w.heap.size ≤ gb115)); have n3_ := Aside0.mk ((by rw [hg]; exact (below_size (by repeat (first | (with_reducible first | exact HB.out | apply below_alloc | apply pw_below_drewN | apply below_drew1) | exact HB.out))) : w.heap.size ≤ gb115)); clear HB; have HB := n0_; have BK115 := n1_; have GW115 := n2_; have GE115 := n3_; clear n0_ n1_ n2_ n3_; clear hb hbox hg; have hcz9_0 : w8.cell? ⟨gb115, 0, none⟩ = some (.int .i64 a0_0) := (blk_cell BK115.out 0).trans rfl; have hcz9_1 : w8.cell? ⟨gb115, 1, none⟩ = some (.slice A0_1 l0_1.length c0_1) := (blk_cell BK115.out 1).trans rfl; have hcz9_2 : w8.cell? ⟨gb115, 2, none⟩ = some (.int .i64 a0_2) := (blk_cell BK115.out 2).trans rfl; have hfz9_0 := blk_frozen BK115.out 0; have hfz9_1 := blk_frozen BK115.out 1; have hfz9_2 := blk_frozen BK115.out 2) | ((with_reducible refine gate_callee (f := 16) rfl ?_); refine goesL_ (some 4) rfl rfl Tryd.func16 (by kernel_rfl) rfl #[.agg #[.int .i64 a0_0, .slice A0_1 l0_1.length c0_1, .int .i64 a0_2]] rfl (by (try simp only [List.map_toArray, List.map_cons, List.map_nil]); first | done | rfl | (simp only [List.length_drop, List.length_take]; rfl)) ?_; (with_reducible refine (quietusref07_Check.calls k a0_0 _ _ l0_1 a0_2 t116 _ ?side1 ?side2 ?side3 A2.out).mono ?_); (case side1 => exact HG.below HGw.out (by repeat (first | (with_reducible first | exact HB.out | apply below_alloc | apply pw_below_drewN | apply below_drew1 | refine below_set ?_ GE115.out) | exact HB.out))); (case side2 => repeat (first | exact (Kd.C_below HR0_1.out HB.out) | (with_reducible refine Kd.C_alloc ?_ _) | (with_reducible refine Kd.C_drewN ?_ _) | (with_reducible refine Kd.C_drew ?_))); (case side3 => exact HC0_1.out); rintro e w10 ⟨rfl, hb⟩; refine ⟨_, rfl, ?_⟩; have n0_ := Aside0.mk (blk_below (g := gb115) (o := .cells #[.int .i64 a0_0, .slice A0_1 l0_1.length c0_1, .int .i64 a0_2] 24 (0, 0)) (by (with_reducible repeat (first | refine blk_drewN ?_ _ | refine blk_drew ?_ | refine blk_alloc ?_ _)); exact BK115.out) hb); have n1_ := Aside0.mk (below_step (by repeat (first | (with_reducible first | exact HB.out | apply below_alloc | apply pw_below_drewN | apply below_drew1 | refine below_set ?_ GE115.out) | exact HB.out)) hb); clear BK115; clear HB; have BK115 := n0_; have HB := n1_; clear n0_ n1_; (try clear hb); (try clear hb2); (try clear hk); (try clear hi)))
  go_ret
  exact ⟨by first | rfl | (simp [errW_none, errW_some] <;> rfl) | (simp [*, errW_none, errW_some] <;> rfl), by repeat (first | (with_reducible first | exact HB.out | apply below_alloc | apply pw_below_drewN | apply below_drew1 | refine below_set ?_ GE115.out) | exact HB.out)⟩


/-! ### quietusref04_Mul: function 104 -/
def quietusref04_Mul.l0 : Nat → Int → Int → Int → Option (Int)
 | 0, _, _, _ => none
 | k + 1, x5, x6, x7 => if x6 > 0 then (if (Int.tmod x6 2) = 1 then (if (wrap64 (2 * x5)) > 255 then (quietusref04_Mul.l0 k (Go.bits .xor .i64 (wrap64 (2 * x5)) 285) (wrap64 (Int.tdiv x6 2)) (Go.bits .xor .i64 x7 x5)) else (quietusref04_Mul.l0 k (wrap64 (2 * x5)) (wrap64 (Int.tdiv x6 2)) (Go.bits .xor .i64 x7 x5))) else (if (wrap64 (2 * x5)) > 255 then (quietusref04_Mul.l0 k (Go.bits .xor .i64 (wrap64 (2 * x5)) 285) (wrap64 (Int.tdiv x6 2)) x7) else (quietusref04_Mul.l0 k (wrap64 (2 * x5)) (wrap64 (Int.tdiv x6 2)) x7))) else (some ((x7) % 256))
def quietusref04_Mul.f (k : Nat) (a0 : Int) (a1 : Int) : Option (Int) := quietusref04_Mul.l0 k (wrap64 (a0)) (wrap64 (a1)) 0
set_option maxHeartbeats 8000000 in
set_option maxRecDepth 100000 in
theorem quietusref04_Mul.calls (k : Nat) (a0 : Int) (a1 : Int) (r : Int) (w : World) (hG : HG w) (h : quietusref04_Mul.f k a0 a1 = some r) :
  Calls Tryd.prog 104 #[.int .u8 a0, .int .u8 a1] w fun e w' => e = .returned (.int .u8 r) ∧ Drawn0 w w' := by
 have HGw := Aside0.mk hG
 clear hG
 have H : (quietusref04_Mul.l0 k (wrap64 (a0)) (wrap64 (a1)) 0) = some r := h
 clear h
 have H' := Aside0.mk H
 clear H
 go_enter Tryd.func104, Tryd.ntmps104
 go_wp2
 go_loopg [5, 6, 7] k (fun kq v5 v6 v7 w' => ∃ (x5_1 : Int) (x6_1 : Int) (x7_1 : Int), v5 = .int .i64 x5_1 ∧ v6 = .int .i64 x6_1 ∧ v7 = .int .i64 x7_1 ∧ Aside0 (quietusref04_Mul.l0 kq x5_1 x6_1 x7_1 = some r) ∧ Aside0 (kq ≤ k) ∧ Drawn0 w w')
 case atStart => exact ⟨(wrap64 (a0)), (wrap64 (a1)), (0), (by first | rfl | (simp; done) | (simp [*]; done)), (by first | rfl | (simp; done) | (simp [*]; done)), (by first | rfl | (simp; done) | (simp [*]; done)), H', ⟨Nat.le_refl _⟩, by repeat (first | exact Drawn0.refl _ | apply Drawn0.step)⟩
 case round =>
  clear H'
  try clear c1
  try clear p2
  obtain ⟨x5_1, x6_1, x7_1, rfl, rfl, rfl, HA, HK1, ⟨m1, rfl⟩⟩ := hrel
  cases gk with
  | zero => exact absurd HA.out (by simp [quietusref04_Mul.l0])
  | succ k1 =>
   have H := HA.out
   clear HA
   simp only [quietusref04_Mul.l0] at H
   by_cases c3 : x6_1 > 0
   ·rw [if_pos c3] at H
    have c3b0 : decide (0 < x6_1) = true := decide_eq_true c3
    clear c3
    by_cases c4 : (Int.tmod x6_1 2) = 1
    ·rw [if_pos c4] at H
     have c4b0 : ((Int.tmod x6_1 2) == 1) = true := beq_iff_eq.mpr c4
     have c4b1 : ((Int.tmod x6_1 2) != 1) = false := bne_eq_false_iff_eq.mpr c4
     clear c4
     by_cases c5 : (wrap64 (2 * x5_1)) > 255
     ·rw [if_pos c5] at H
      have c5b0 : decide (255 < (wrap64 (2 * x5_1))) = true := decide_eq_true c5
      clear c5
      have H' := Aside0.mk H
      clear H
      go_wp2
      go_roundg k1
      case measure => have := HK1.out; omega
      case rel => exact ⟨(Go.bits .xor .i64 (wrap64 (2 * x5_1)) 285), (wrap64 (Int.tdiv x6_1 2)), (Go.bits .xor .i64 x7_1 x5_1), (by first | rfl | (simp; done) | (simp [*]; done)), (by first | rfl | (simp; done) | (simp [*]; done)), (by first | rfl | (simp; done) | (simp [*]; done)), H', ⟨by have := HK1.out; omega⟩, by repeat (first | exact Drawn0.refl _ | apply Drawn0.step)⟩
     ·rw [if_neg c5] at H
      have c5b0 : decide (255 < (wrap64 (2 * x5_1))) = false := decide_eq_false c5
      clear c5
      have H' := Aside0.mk H
      clear H
      go_wp2
      go_roundg k1
      case measure => have := HK1.out; omega
      case rel => exact ⟨(wrap64 (2 * x5_1)), (wrap64 (Int.tdiv x6_1 2)), (Go.bits .xor .i64 x7_1 x5_1), (by first | rfl | (simp; done) | (simp [*]; done)), (by first | rfl | (simp; done) | (simp [*]; done)), (by first | rfl | (simp; done) | (simp [*]; done)), H', ⟨by have := HK1.out; omega⟩, by repeat (first | exact Drawn0.refl _ | apply Drawn0.step)⟩
    ·rw [if_neg c4] at H
     have c4b0 : ((Int.tmod x6_1 2) == 1) = false := beq_eq_false_iff_ne.mpr c4
     have c4b1 : ((Int.tmod x6_1 2) != 1) = true := bne_iff_ne.mpr c4
     by_cases c6 : (wrap64 (2 * x5_1)) > 255
     ·rw [if_pos c6] at H
      have c6b0 : decide (255 < (wrap64 (2 * x5_1))) = true := decide_eq_true c6
      clear c6
      have H' := Aside0.mk H
      clear H
      go_wp2
      go_roundg k1
      case measure => have := HK1.out; omega
      case rel => exact ⟨(Go.bits .xor .i64 (wrap64 (2 * x5_1)) 285), (wrap64 (Int.tdiv x6_1 2)), (x7_1), (by first | rfl | (simp; done) | (simp [*]; done)), (by first | rfl | (simp; done) | (simp [*]; done)), (by first | rfl | (simp; done) | (simp [*]; done)), H', ⟨by have := HK1.out; omega⟩, by repeat (first | exact Drawn0.refl _ | apply Drawn0.step)⟩
     ·rw [if_neg c6] at H
      have c6b0 : decide (255 < (wrap64 (2 * x5_1))) = false := decide_eq_false c6
      clear c6
      have H' := Aside0.mk H
      clear H
      go_wp2
      go_roundg k1
      case measure => have := HK1.out; omega
      case rel => exact ⟨(wrap64 (2 * x5_1)), (wrap64 (Int.tdiv x6_1 2)), (x7_1), (by first | rfl | (simp; done) | (simp [*]; done)), (by first | rfl | (simp; done) | (simp [*]; done)), (by first | rfl | (simp; done) | (simp [*]; done)), H', ⟨by have := HK1.out; omega⟩, by repeat (first | exact Drawn0.refl _ | apply Drawn0.step)⟩
   ·rw [if_neg c3] at H
    have c3b0 : decide (0 < x6_1) = false := decide_eq_false c3
    clear c3
    obtain rfl := Option.some.inj H
    go_wp2
    go_ret
    exact ⟨by first | rfl | (simp; done) | (simp [*]; done), by repeat (first | exact Drawn0.refl _ | apply Drawn0.step)⟩


/-! ### quietusref04_exponent: function 105 -/
def quietusref04_exponent.f (a0 : Int) : Option (Int) := some (Int.tmod (wrap64 ((Int.tmod a0 255) + 255)) 255)
set_option maxHeartbeats 8000000 in
set_option maxRecDepth 100000 in
theorem quietusref04_exponent.calls (a0 : Int) (r : Int) (w : World) (hG : HG w) (h : quietusref04_exponent.f a0 = some r) :
  Calls Tryd.prog 105 #[.int .i64 a0] w fun e w' => e = .returned (.int .i64 r) ∧ Drawn0 w w' := by
 have HGw := Aside0.mk hG
 clear hG
 have H : (some (Int.tmod (wrap64 ((Int.tmod a0 255) + 255)) 255)) = some r := h
 clear h
 obtain rfl := Option.some.inj H
 go_enter Tryd.func105, Tryd.ntmps105
 go_wp2
 go_ret
 exact ⟨by first | rfl | (simp; done) | (simp [*]; done), by repeat (first | exact Drawn0.refl _ | apply Drawn0.step)⟩


/-! ### quietusref04_Exp: function 90 -/
def quietusref04_Exp.l0 : Nat → Int → Int → Int → Option (Int)
 | 0, _, _, _ => none
 | k + 1, x0, x3, x4 => (quietusref04_exponent.f x0).bind fun t141 => (if x4 < t141 then ((quietusref04_Mul.f k x3 2).bind fun t142 => (quietusref04_Exp.l0 k x0 t142 (wrap64 (x4 + 1)))) else (some x3))
def quietusref04_Exp.f (k : Nat) (a0 : Int) : Option (Int) := quietusref04_Exp.l0 k a0 1 0
set_option maxHeartbeats 8000000 in
set_option maxRecDepth 100000 in
theorem quietusref04_Exp.calls (k : Nat) (a0 : Int) (r : Int) (w : World) (hG : HG w) (h : quietusref04_Exp.f k a0 = some r) :
  Calls Tryd.prog 90 #[.int .i64 a0] w fun e w' => e = .returned (.int .u8 r) ∧ Drawn0 w w' := by
 have HGw := Aside0.mk hG
 clear hG
 have H : (quietusref04_Exp.l0 k a0 1 0) = some r := h
 clear h
 have H' := Aside0.mk H
 clear H
 go_enter Tryd.func90, Tryd.ntmps90
 go_wp2
 go_loopg [3, 4] k (fun kq v3 v4 w' => ∃ (x3_1 : Int) (x4_1 : Int), v3 = .int .u8 x3_1 ∧ v4 = .int .i64 x4_1 ∧ Aside0 (quietusref04_Exp.l0 kq a0 x3_1 x4_1 = some r) ∧ Aside0 (kq ≤ k) ∧ Drawn0 w w')
 case atStart => exact ⟨(1), (0), (by first | rfl | (simp; done) | (simp [*]; done)), (by first | rfl | (simp; done) | (simp [*]; done)), H', ⟨Nat.le_refl _⟩, by repeat (first | exact Drawn0.refl _ | apply Drawn0.step)⟩
 case round =>
  clear H'
  obtain ⟨x3_1, x4_1, rfl, rfl, HA, HK1, ⟨m1, rfl⟩⟩ := hrel
  cases gk with
  | zero => exact absurd HA.out (by simp [quietusref04_Exp.l0])
  | succ k1 =>
   have H := HA.out
   clear HA
   simp only [quietusref04_Exp.l0] at H
   replace H := Option.bind_eq_some_iff.mp H
   obtain ⟨t141, A20, H⟩ := H
   replace H : (if x4_1 < t141 then ((quietusref04_Mul.f k1 x3_1 2).bind fun t142 => (quietusref04_Exp.l0 k1 a0 t142 (wrap64 (x4_1 + 1)))) else (some x3_1)) = some r := H
   have A2 := Aside0.mk A20
   clear A20
   by_cases c3 : x4_1 < t141
   ·rw [if_pos c3] at H
    have c3b0 : decide (x4_1 < t141) = true := decide_eq_true c3
    clear c3
    replace H := Option.bind_eq_some_iff.mp H
    obtain ⟨t142, A40, H⟩ := H
    replace H : (quietusref04_Exp.l0 k1 a0 t142 (wrap64 (x4_1 + 1))) = some r := H
    have A4 := Aside0.mk A40
    clear A40
    have H' := Aside0.mk H
    clear H
    go_wp2_with (first | ((with_reducible refine gate_callee (f := 105) rfl ?_); refine goesL_ (some 7) rfl rfl Tryd.func105 (by kernel_rfl) rfl #[.int .i64 a0] rfl (by (try simp only [List.map_toArray, List.map_cons, List.map_nil]); first | done | rfl | (simp only [List.length_drop, List.length_take]; rfl)) ?_; (with_reducible refine (quietusref04_exponent.calls a0 t141 _ ?side1 A2.out).mono ?_); (case side1 => first | exact HGw.out | (repeat (first | exact HGw.out | apply HG.drewN | apply HG.drew))); rintro e w' ⟨rfl, ⟨nd, rfl⟩⟩; refine ⟨_, rfl, ?_⟩) | ((with_reducible refine gate_callee (f := 104) rfl ?_); refine goesL_ (some 12) rfl rfl Tryd.func104 (by kernel_rfl) rfl #[.int .u8 x3_1, .int .u8 2] rfl (by (try simp only [List.map_toArray, List.map_cons, List.map_nil]); first | done | rfl | (simp only [List.length_drop, List.length_take]; rfl)) ?_; (with_reducible refine (quietusref04_Mul.calls k1 x3_1 2 t142 _ ?side1 A4.out).mono ?_); (case side1 => first | exact HGw.out | (repeat (first | exact HGw.out | apply HG.drewN | apply HG.drew))); rintro e w' ⟨rfl, ⟨nd, rfl⟩⟩; refine ⟨_, rfl, ?_⟩))
    go_roundg k1
    case measure => have := HK1.out; omega
    case rel => exact ⟨(t142), (wrap64 (x4_1 + 1)), (by first | rfl | (simp; done) | (simp [*]; done)), (by first | rfl | (simp; done) | (simp [*]; done)), H', ⟨by have := HK1.out; omega⟩, by repeat (first | exact Drawn0.refl _ | apply Drawn0.step)⟩
   ·rw [if_neg c3] at H
    have c3b0 : decide (x4_1 < t141) = false := decide_eq_false c3
    clear c3
    obtain rfl := Option.some.inj H
    go_wp2_with (first | ((with_reducible refine gate_callee (f := 105) rfl ?_); refine goesL_ (some 7) rfl rfl Tryd.func105 (by kernel_rfl) rfl #[.int .i64 a0] rfl (by (try simp only [List.map_toArray, List.map_cons, List.map_nil]); first | done | rfl | (simp only [List.length_drop, List.length_take]; rfl)) ?_; (with_reducible refine (quietusref04_exponent.calls a0 t141 _ ?side1 A2.out).mono ?_); (case side1 => first | exact HGw.out | (repeat (first | exact HGw.out | apply HG.drewN | apply HG.drew))); rintro e w' ⟨rfl, ⟨nd, rfl⟩⟩; refine ⟨_, rfl, ?_⟩))
    go_ret
    exact ⟨by first | rfl | (simp; done) | (simp [*]; done), by repeat (first | exact Drawn0.refl _ | apply Drawn0.step)⟩
end Go.Proofs.YtkadfidmfnpohaaDoor.XB
