/- Lemmas for the claim Spec: functions of the program as plain Lean functions, each with its contract, and what is proved of them. -/
import Derived.Test.YtkadfidmfnpohaaDoorQSpec1
import Derived.Test.YtkadfidmfnpohaaDoorQSpec3
import Derived.Test.YtkadfidmfnpohaaDoorQSpec4
import Derived.Test.YtkadfidmfnpohaaDoorQSpec2
namespace Go.Proofs.YtkadfidmfnpohaaDoor.XB
open Go.RowKit Go.Proofs.YtkadfidmfnpohaaDoorW.PrintWords Go.Proofs.YtkadfidmfnpohaaDoorW.PrintLast Go.Proofs.YtkadfidmfnpohaaDoorW.PrintMore
set_option linter.unusedVariables false
set_option linter.unusedSimpArgs false

/-! ### quietusref12_Millionths: function 49 -/
def quietusref12_Millionths.l0 : Nat → Int → Int → Int → Int → Option (Int × Int)
 | 0, _, _, _, _ => none
 | k + 1, x4, x5, x6, x7 => if x7 < 6 then (if x4 = 0 then (none) else (quietusref12_Millionths.l0 k x4 (wrap64 ((wrap64 (x5 * 10)) + (wrap64 (Int.tdiv (wrap64 (x6 * 10)) x4)))) (Int.tmod (wrap64 (x6 * 10)) x4) (wrap64 (x7 + 1)))) else (if x6 > 0 then (some (wrap64 (x5 + 1), 0)) else (some (x5, 0)))
def quietusref12_Millionths.f (k : Nat) (a0_0 : Int) (l0_1 : List (List Int)) (a0_2 : Int) (l0_3 : List Int) (l0_4 : List Int) : Option (Int × Int) := (quietusref12_Loss.f k a0_0 l0_1 a0_2 l0_3 l0_4).bind fun bt306 => (if bt306.2 = 0 then ((quietusref12_Power.f k (l0_4.length : Int)).bind fun t309 => (if t309 = 0 then (none) else (quietusref12_Millionths.l0 k t309 (wrap64 (Int.tdiv bt306.1 t309)) (Int.tmod bt306.1 t309) 0))) else (some (bt306.1, bt306.2)))
set_option maxHeartbeats 8000000 in
set_option maxRecDepth 100000 in
theorem quietusref12_Millionths.calls (k : Nat) (a0_0 : Int) (A0_1 : Option Addr) (c0_1 : Nat) (l0_1 : List (List Int)) (a0_2 : Int) (A0_3 : Option Addr) (c0_3 : Nat) (l0_3 : List Int) (A0_4 : Option Addr) (c0_4 : Nat) (l0_4 : List Int) (r1 : Int) (r2 : Int) (w : World) (hG : HG w) (hr0_1 : Kd.C (Kd.slice 3 (Kd.int .i64)) w A0_1 l0_1.length l0_1) (hc0_1 : l0_1.length ≤ c0_1) (hr0_3 : Kd.C (Kd.int .i64) w A0_3 l0_3.length l0_3) (hc0_3 : l0_3.length ≤ c0_3) (hr0_4 : Kd.C (Kd.int .i64) w A0_4 l0_4.length l0_4) (hc0_4 : l0_4.length ≤ c0_4) (h : quietusref12_Millionths.f k a0_0 l0_1 a0_2 l0_3 l0_4 = some (r1, r2)) :
  Calls Tryd.prog 49 #[.agg #[.int .i64 a0_0, .slice A0_1 l0_1.length c0_1, .int .i64 a0_2, .slice A0_3 l0_3.length c0_3, .slice A0_4 l0_4.length c0_4]] w fun e w' => e = .returned (.agg #[.int .i64 r1, .int .i64 r2]) ∧ Below w.heap.size w w' := by
 have HGw := Aside0.mk hG
 clear hG
 have hu64 := Tryd.underlying64
 have hu72 := Tryd.underlying72
 have HR0_1 := Aside0.mk hr0_1
 have HC0_1 := Aside0.mk hc0_1
 clear hr0_1 hc0_1
 have HR0_3 := Aside0.mk hr0_3
 have HC0_3 := Aside0.mk hc0_3
 clear hr0_3 hc0_3
 have HR0_4 := Aside0.mk hr0_4
 have HC0_4 := Aside0.mk hc0_4
 clear hr0_4 hc0_4
 have HB := Aside0.mk (Below.refl w.heap.size w)
 have H : ((quietusref12_Loss.f k a0_0 l0_1 a0_2 l0_3 l0_4).bind fun bt306 => (if bt306.2 = 0 then ((quietusref12_Power.f k (l0_4.length : Int)).bind fun t309 => (if t309 = 0 then (none) else (quietusref12_Millionths.l0 k t309 (wrap64 (Int.tdiv bt306.1 t309)) (Int.tmod bt306.1 t309) 0))) else (some (bt306.1, bt306.2)))) = some (r1, r2) := h
 clear h
 replace H := Option.bind_eq_some_iff.mp H
 obtain ⟨⟨t306, t307⟩, A20, H⟩ := H
 replace H : (if t307 = 0 then ((quietusref12_Power.f k (l0_4.length : Int)).bind fun t309 => (if t309 = 0 then (none) else (quietusref12_Millionths.l0 k t309 (wrap64 (Int.tdiv t306 t309)) (Int.tmod t306 t309) 0))) else (some (t306, t307))) = some (r1, r2) := H
 have A2 := Aside0.mk A20
 clear A20
 by_cases c3 : t307 = 0
 ·rw [if_pos c3] at H
  have c3b0 : (t307 == 0) = true := beq_iff_eq.mpr c3
  have c3b1 : (t307 != 0) = false := bne_eq_false_iff_eq.mpr c3
  clear c3
  replace H := Option.bind_eq_some_iff.mp H
  obtain ⟨t309, A40, H⟩ := H
  replace H : (if t309 = 0 then (none) else (quietusref12_Millionths.l0 k t309 (wrap64 (Int.tdiv t306 t309)) (Int.tmod t306 t309) 0)) = some (r1, r2) := H
  have A4 := Aside0.mk A40
  clear A40
  by_cases c5 : t309 = 0
  ·rw [if_pos c5] at H
   exact absurd H (by simp)
  ·rw [if_neg c5] at H
   have c5b0 : (t309 == 0) = false := beq_eq_false_iff_ne.mpr c5
   have c5b1 : (t309 != 0) = true := bne_iff_ne.mpr c5
   have H' := Aside0.mk H
   clear H
   go_enter Tryd.func49, Tryd.ntmps49
   go_wp2_with (first | ((with_reducible refine gate_dst (N := 1) rfl ?_); refine box_event ?hg (N := 1) ?hd (cs := #[.int .i64 a0_0, .slice A0_1 l0_1.length c0_1, .int .i64 a0_2, .slice A0_3 l0_3.length c0_3, .slice A0_4 l0_4.length c0_4]) (t := 64) ?hr ?_; (case hd => rfl); (case hg => rfl); (case hr => first | (go_simp; done) | (go_simp; rfl)); intro gb304 hg w6 hbox hb; have n0_ := Aside0.mk (below_step (by repeat (first | (with_reducible first | exact HB.out | apply below_alloc | apply pw_below_drewN | apply below_drew1) | exact HB.out)) hb); have n1_ := Aside0.mk (hbox); have n2_ := Aside0.mk ((by rw [hg]; exact (below_size (by repeat (first | (with_reducible first | exact HB.out | apply below_alloc | apply pw_below_drewN | apply below_drew1) | exact HB.out))) : w.heap.size ≤ gb304)); have n3_ := Aside0.mk ((by rw [hg]; exact (below_size (by repeat (first | (with_reducible first | exact HB.out | apply below_alloc | apply pw_below_drewN | apply below_drew1) | exact HB.out))) : w.heap.size ≤ gb304)); clear HB; have HB := n0_; have BK304 := n1_; have GW304 := n2_; have GE304 := n3_; clear n0_ n1_ n2_ n3_; clear hb hbox hg) | ((with_reducible refine gate_dst (N := 2) rfl ?_); refine box_event ?hg (N := 2) ?hd (cs := #[.int .i64 0, .int .i64 0]) (t := 72) ?hr ?_; (case hd => rfl); (case hg => rfl); (case hr => first | (go_simp; done) | (go_simp; rfl)); intro gb305 hg w7 hbox hb; have n0_ := Aside0.mk (blk_below (g := gb304) (o := .cells #[.int .i64 a0_0, .slice A0_1 l0_1.length c0_1, .int .i64 a0_2, .slice A0_3 l0_3.length c0_3, .slice A0_4 l0_4.length c0_4] 64 (0, 0)) (by (with_reducible repeat (first | refine blk_drewN ?_ _ | refine blk_drew ?_ | refine blk_alloc ?_ _)); exact BK304.out) hb); have n1_ := Aside0.mk (below_step (by repeat (first | (with_reducible first | exact HB.out | apply below_alloc | apply pw_below_drewN | apply below_drew1 | refine below_set ?_ GE304.out) | exact HB.out)) hb); have n2_ := Aside0.mk (hbox); have n3_ := Aside0.mk ((by rw [hg]; exact (below_size (by repeat (first | (with_reducible first | exact HB.out | apply below_alloc | apply pw_below_drewN | apply below_drew1 | refine below_set ?_ GE304.out) | exact HB.out))) : w.heap.size ≤ gb305)); have n4_ := Aside0.mk ((by rw [hg]; exact (below_size (by repeat (first | (with_reducible first | exact HB.out | apply below_alloc | apply pw_below_drewN | apply below_drew1 | refine below_set ?_ GE304.out) | exact HB.out))) : w.heap.size ≤ gb305)); have n5_ := Aside0.mk ((by rw [hg]; exact Nat.ne_of_lt (blk_lt (g := gb304) (o := .cells #[.int .i64 a0_0, .slice A0_1 l0_1.length c0_1, .int .i64 a0_2, .slice A0_3 l0_3.length c0_3, .slice A0_4 l0_4.length c0_4] 64 (0, 0)) (by (with_reducible repeat (first | refine blk_drewN ?_ _ | refine blk_drew ?_ | refine blk_alloc ?_ _)); exact BK304.out)) : gb304 ≠ gb305)); have n6_ := Aside0.mk ((by rw [hg]; exact Nat.ne_of_gt (blk_lt (g := gb304) (o := .cells #[.int .i64 a0_0, .slice A0_1 l0_1.length c0_1, .int .i64 a0_2, .slice A0_3 l0_3.length c0_3, .slice A0_4 l0_4.length c0_4] 64 (0, 0)) (by (with_reducible repeat (first | refine blk_drewN ?_ _ | refine blk_drew ?_ | refine blk_alloc ?_ _)); exact BK304.out)) : gb305 ≠ gb304)); clear BK304; clear HB; have BK304 := n0_; have HB := n1_; have BK305 := n2_; have GW305 := n3_; have GE305 := n4_; have NB304_305 := n5_; have NB305_304 := n6_; clear n0_ n1_ n2_ n3_ n4_ n5_ n6_; clear hb hbox hg; have hnb8 := NB304_305.out; have hnc8 := NB305_304.out; have hcz9_0 : w7.cell? ⟨gb304, 0, none⟩ = some (.int .i64 a0_0) := (blk_cell BK304.out 0).trans rfl; have hcz9_1 : w7.cell? ⟨gb304, 1, none⟩ = some (.slice A0_1 l0_1.length c0_1) := (blk_cell BK304.out 1).trans rfl; have hcz9_2 : w7.cell? ⟨gb304, 2, none⟩ = some (.int .i64 a0_2) := (blk_cell BK304.out 2).trans rfl; have hcz9_3 : w7.cell? ⟨gb304, 3, none⟩ = some (.slice A0_3 l0_3.length c0_3) := (blk_cell BK304.out 3).trans rfl; have hcz9_4 : w7.cell? ⟨gb304, 4, none⟩ = some (.slice A0_4 l0_4.length c0_4) := (blk_cell BK304.out 4).trans rfl; have hfz9_0 := blk_frozen BK304.out 0; have hfz9_1 := blk_frozen BK304.out 1; have hfz9_2 := blk_frozen BK304.out 2; have hfz9_3 := blk_frozen BK304.out 3; have hfz9_4 := blk_frozen BK304.out 4) | ((with_reducible refine gate_callee (f := 46) rfl ?_); refine goesL_ (some 9) rfl rfl Tryd.func46 (by kernel_rfl) rfl #[.agg #[.int .i64 a0_0, .slice A0_1 l0_1.length c0_1, .int .i64 a0_2, .slice A0_3 l0_3.length c0_3, .slice A0_4 l0_4.length c0_4]] rfl (by (try simp only [List.map_toArray, List.map_cons, List.map_nil]); first | done | rfl | (simp only [List.length_drop, List.length_take]; rfl)) ?_; (with_reducible refine (quietusref12_Loss.calls k a0_0 _ _ l0_1 a0_2 _ _ l0_3 _ _ l0_4 t306 t307 _ ?side1 ?side2 ?side3 ?side4 ?side5 ?side6 ?side7 A2.out).mono ?_); (case side1 => exact HG.below HGw.out (by repeat (first | (with_reducible first | exact HB.out | apply below_alloc | apply pw_below_drewN | apply below_drew1 | refine below_set ?_ GE304.out | refine below_set ?_ GE305.out) | exact HB.out))); (case side2 => repeat (first | exact (Kd.C_below HR0_1.out HB.out) | (with_reducible refine Kd.C_alloc ?_ _) | (with_reducible refine Kd.C_drewN ?_ _) | (with_reducible refine Kd.C_drew ?_))); (case side3 => exact HC0_1.out); (case side4 => repeat (first | exact (Kd.C_below HR0_3.out HB.out) | (with_reducible refine Kd.C_alloc ?_ _) | (with_reducible refine Kd.C_drewN ?_ _) | (with_reducible refine Kd.C_drew ?_))); (case side5 => exact HC0_3.out); (case side6 => repeat (first | exact (Kd.C_below HR0_4.out HB.out) | (with_reducible refine Kd.C_alloc ?_ _) | (with_reducible refine Kd.C_drewN ?_ _) | (with_reducible refine Kd.C_drew ?_))); (case side7 => exact HC0_4.out); rintro e w10 ⟨rfl, hb⟩; refine ⟨_, rfl, ?_⟩; have n0_ := Aside0.mk (blk_below (g := gb304) (o := .cells #[.int .i64 a0_0, .slice A0_1 l0_1.length c0_1, .int .i64 a0_2, .slice A0_3 l0_3.length c0_3, .slice A0_4 l0_4.length c0_4] 64 (0, 0)) (by (with_reducible repeat (first | refine blk_drewN ?_ _ | refine blk_drew ?_ | refine blk_alloc ?_ _)); exact BK304.out) hb); have n1_ := Aside0.mk (blk_below (g := gb305) (o := .cells #[.int .i64 0, .int .i64 0] 72 (0, 0)) (by (with_reducible repeat (first | refine blk_drewN ?_ _ | refine blk_drew ?_ | refine blk_alloc ?_ _)); exact BK305.out) hb); have n2_ := Aside0.mk (below_step (by repeat (first | (with_reducible first | exact HB.out | apply below_alloc | apply pw_below_drewN | apply below_drew1 | refine below_set ?_ GE304.out | refine below_set ?_ GE305.out) | exact HB.out)) hb); clear BK304; clear BK305; clear HB; have BK304 := n0_; have BK305 := n1_; have HB := n2_; clear n0_ n1_ n2_; (try clear hb); (try clear hb2); (try clear hk); (try clear hi)) | ((with_reducible refine gate_dst (N := 3) rfl ?_); refine box_event ?hg (N := 3) ?hd (cs := #[.int .i64 0, .int .i64 0]) (t := 72) ?hr ?_; (case hd => rfl); (case hg => rfl); (case hr => first | (go_simp; done) | (go_simp; rfl)); intro gb308 hg w11 hbox hb; have n0_ := Aside0.mk (blk_below (g := gb304) (o := .cells #[.int .i64 a0_0, .slice A0_1 l0_1.length c0_1, .int .i64 a0_2, .slice A0_3 l0_3.length c0_3, .slice A0_4 l0_4.length c0_4] 64 (0, 0)) (by (with_reducible repeat (first | refine blk_drewN ?_ _ | refine blk_drew ?_ | refine blk_alloc ?_ _)); exact BK304.out) hb); have n1_ := Aside0.mk (blk_below (g := gb305) (o := .cells #[.int .i64 0, .int .i64 0] 72 (0, 0)) (by (with_reducible repeat (first | refine blk_drewN ?_ _ | refine blk_drew ?_ | refine blk_alloc ?_ _)); exact BK305.out) hb); have n2_ := Aside0.mk (below_step (by repeat (first | (with_reducible first | exact HB.out | apply below_alloc | apply pw_below_drewN | apply below_drew1 | refine below_set ?_ GE304.out | refine below_set ?_ GE305.out) | exact HB.out)) hb); have n3_ := Aside0.mk (hbox); have n4_ := Aside0.mk ((by rw [hg]; exact (below_size (by repeat (first | (with_reducible first | exact HB.out | apply below_alloc | apply pw_below_drewN | apply below_drew1 | refine below_set ?_ GE304.out | refine below_set ?_ GE305.out) | exact HB.out))) : w.heap.size ≤ gb308)); have n5_ := Aside0.mk ((by rw [hg]; exact (below_size (by repeat (first | (with_reducible first | exact HB.out | apply below_alloc | apply pw_below_drewN | apply below_drew1 | refine below_set ?_ GE304.out | refine below_set ?_ GE305.out) | exact HB.out))) : w.heap.size ≤ gb308)); have n6_ := Aside0.mk ((by rw [hg]; exact Nat.ne_of_lt (blk_lt (g := gb304) (o := .cells #[.int .i64 a0_0, .slice A0_1 l0_1.length c0_1, .int .i64 a0_2, .slice A0_3 l0_3.length c0_3, .slice A0_4 l0_4.length c0_4] 64 (0, 0)) (by (with_reducible repeat (first | refine blk_drewN ?_ _ | refine blk_drew ?_ | refine blk_alloc ?_ _)); exact BK304.out)) : gb304 ≠ gb308)); have n7_ := Aside0.mk ((by rw [hg]; exact Nat.ne_of_gt (blk_lt (g := gb304) (o := .cells #[.int .i64 a0_0, .slice A0_1 l0_1.length c0_1, .int .i64 a0_2, .slice A0_3 l0_3.length c0_3, .slice A0_4 l0_4.length c0_4] 64 (0, 0)) (by (with_reducible repeat (first | refine blk_drewN ?_ _ | refine blk_drew ?_ | refine blk_alloc ?_ _)); exact BK304.out)) : gb308 ≠ gb304)); have n8_ := Aside0.mk ((by rw [hg]; exact Nat.ne_of_lt (blk_lt (g := gb305) (o := .cells #[.int .i64 0, .int .i64 0] 72 (0, 0)) (by (with_reducible repeat (first | refine blk_drewN ?_ _ | refine blk_drew ?_ | refine blk_alloc ?_ _)); exact BK305.out)) : gb305 ≠ gb308)); have n9_ := Aside0.mk ((by rw [hg]; exact Nat.ne_of_gt (blk_lt (g := gb305) (o := .cells #[.int .i64 0, .int .i64 0] 72 (0, 0)) (by (with_reducible repeat (first | refine blk_drewN ?_ _ | refine blk_drew ?_ | refine blk_alloc ?_ _)); exact BK305.out)) : gb308 ≠ gb305)); clear BK304; clear BK305; clear HB; have BK304 := n0_; have BK305 := n1_; have HB := n2_; have BK308 := n3_; have GW308 := n4_; have GE308 := n5_; have NB304_308 := n6_; have NB308_304 := n7_; have NB305_308 := n8_; have NB308_305 := n9_; clear n0_ n1_ n2_ n3_ n4_ n5_ n6_ n7_ n8_ n9_; clear hb hbox hg; have hnb12 := NB308_304.out; have hnc12 := NB304_308.out; have hnb13 := NB308_305.out; have hnc13 := NB305_308.out; have hcz14_0 : w11.cell? ⟨gb308, 0, none⟩ = some (.int .i64 0) := (blk_cell BK308.out 0).trans rfl; have hcz14_1 : w11.cell? ⟨gb308, 1, none⟩ = some (.int .i64 0) := (blk_cell BK308.out 1).trans rfl; have hfz14_0 := blk_frozen BK308.out 0; have hfz14_1 := blk_frozen BK308.out 1; have hcz15_0 : w11.cell? ⟨gb304, 0, none⟩ = some (.int .i64 a0_0) := (blk_cell BK304.out 0).trans rfl; have hcz15_1 : w11.cell? ⟨gb304, 1, none⟩ = some (.slice A0_1 l0_1.length c0_1) := (blk_cell BK304.out 1).trans rfl; have hcz15_2 : w11.cell? ⟨gb304, 2, none⟩ = some (.int .i64 a0_2) := (blk_cell BK304.out 2).trans rfl; have hcz15_3 : w11.cell? ⟨gb304, 3, none⟩ = some (.slice A0_3 l0_3.length c0_3) := (blk_cell BK304.out 3).trans rfl; have hcz15_4 : w11.cell? ⟨gb304, 4, none⟩ = some (.slice A0_4 l0_4.length c0_4) := (blk_cell BK304.out 4).trans rfl; have hfz15_0 := blk_frozen BK304.out 0; have hfz15_1 := blk_frozen BK304.out 1; have hfz15_2 := blk_frozen BK304.out 2; have hfz15_3 := blk_frozen BK304.out 3; have hfz15_4 := blk_frozen BK304.out 4) | ((with_reducible refine gate_callee (f := 51) rfl ?_); refine goesL_ (some 17) rfl rfl Tryd.func51 (by kernel_rfl) rfl #[.int .i64 (l0_4.length : Int)] rfl (by (try simp only [List.map_toArray, List.map_cons, List.map_nil]); first | done | rfl | (simp only [List.length_drop, List.length_take]; rfl)) ?_; (with_reducible refine (quietusref12_Power.calls k (l0_4.length : Int) t309 _ ?side1 A4.out).mono ?_); (case side1 => exact HG.below HGw.out (by repeat (first | (with_reducible first | exact HB.out | apply below_alloc | apply pw_below_drewN | apply below_drew1 | refine below_set ?_ GE304.out | refine below_set ?_ GE305.out | refine below_set ?_ GE308.out) | exact HB.out))); rintro e w' ⟨rfl, ⟨nd, rfl⟩⟩; refine ⟨_, rfl, ?_⟩))
   go_loopg [5, 6, 7] k (fun kq v5 v6 v7 w' => ∃ (x5_1 : Int) (x6_1 : Int) (x7_1 : Int), v5 = .int .i64 x5_1 ∧ v6 = .int .i64 x6_1 ∧ v7 = .int .i64 x7_1 ∧ Aside0 (quietusref12_Millionths.l0 kq t309 x5_1 x6_1 x7_1 = some (r1, r2)) ∧ Aside0 (kq ≤ k) ∧ Aside0 (w'.heap[gb304]? = some (.cells #[.int .i64 a0_0, (.slice A0_1 l0_1.length c0_1), .int .i64 a0_2, (.slice A0_3 l0_3.length c0_3), (.slice A0_4 l0_4.length c0_4)] 64 (0, 0))) ∧ Aside0 (w'.heap[gb305]? = some (.cells #[.int .i64 0, .int .i64 0] 72 (0, 0))) ∧ Aside0 (w'.heap[gb308]? = some (.cells #[.int .i64 t306, .int .i64 t307] 72 (0, 0))) ∧ Aside0 (Below w.heap.size w w'))
   case atStart => exact ⟨(wrap64 (Int.tdiv t306 t309)), (Int.tmod t306 t309), (0), (by first | rfl | (simp; done) | (simp [*]; done)), (by first | rfl | (simp; done) | (simp [*]; done)), (by first | rfl | (simp; done) | (simp [*]; done)), H', ⟨Nat.le_refl _⟩, ⟨by (with_reducible repeat (first | refine blk_drewN ?_ _ | refine blk_drew ?_ | refine blk_alloc ?_ _)); refine blk_far ?_ NB304_308.out _; (with_reducible repeat (first | refine blk_drewN ?_ _ | refine blk_drew ?_ | refine blk_alloc ?_ _)); refine blk_far ?_ NB304_308.out _; (with_reducible repeat (first | refine blk_drewN ?_ _ | refine blk_drew ?_ | refine blk_alloc ?_ _)); exact BK304.out⟩, ⟨by (with_reducible repeat (first | refine blk_drewN ?_ _ | refine blk_drew ?_ | refine blk_alloc ?_ _)); refine blk_far ?_ NB305_308.out _; (with_reducible repeat (first | refine blk_drewN ?_ _ | refine blk_drew ?_ | refine blk_alloc ?_ _)); refine blk_far ?_ NB305_308.out _; (with_reducible repeat (first | refine blk_drewN ?_ _ | refine blk_drew ?_ | refine blk_alloc ?_ _)); exact BK305.out⟩, ⟨by (with_reducible repeat (first | refine blk_drewN ?_ _ | refine blk_drew ?_ | refine blk_alloc ?_ _)); refine blk_put (cs := #[.int .i64 t306, .int .i64 0]) ?_ 1 _ rfl; (with_reducible repeat (first | refine blk_drewN ?_ _ | refine blk_drew ?_ | refine blk_alloc ?_ _)); refine blk_put (cs := #[.int .i64 0, .int .i64 0]) ?_ 0 _ rfl; (with_reducible repeat (first | refine blk_drewN ?_ _ | refine blk_drew ?_ | refine blk_alloc ?_ _)); exact BK308.out⟩, ⟨by repeat (first | (with_reducible first | exact HB.out | apply below_alloc | apply pw_below_drewN | apply below_drew1 | refine below_set ?_ GE304.out | refine below_set ?_ GE305.out | refine below_set ?_ GE308.out) | exact HB.out)⟩⟩
   case round =>
    clear H'
    try clear c1
    try clear p2
    try clear c3
    try clear c3b0
    try clear c3b1
    try clear c4
    try clear c5
    try clear c5b0
    try clear c5b1
    try clear p6
    try clear c8
    try clear c12
    try clear c13
    try clear hcz14_0
    try clear hcz14_1
    try clear hcz15_0
    try clear hcz15_1
    try clear hcz15_2
    try clear hcz15_3
    try clear hcz15_4
    try clear hcz9_0
    try clear hcz9_1
    try clear hcz9_2
    try clear hcz9_3
    try clear hcz9_4
    try clear hfz14_0
    try clear hfz14_1
    try clear hfz15_0
    try clear hfz15_1
    try clear hfz15_2
    try clear hfz15_3
    try clear hfz15_4
    try clear hfz9_0
    try clear hfz9_1
    try clear hfz9_2
    try clear hfz9_3
    try clear hfz9_4
    obtain ⟨x5_1, x6_1, x7_1, rfl, rfl, rfl, HA, HK1, BK304, BK305, BK308, HB⟩ := hrel
    cases gk with
    | zero => exact absurd HA.out (by simp [quietusref12_Millionths.l0])
    | succ k1 =>
     have H := HA.out
     clear HA
     simp only [quietusref12_Millionths.l0] at H
     by_cases c16 : x7_1 < 6
     ·rw [if_pos c16] at H
      have c16b0 : decide (x7_1 < 6) = true := decide_eq_true c16
      clear c16
      by_cases c17 : t309 = 0
      ·rw [if_pos c17] at H
       exact absurd H (by simp)
      ·rw [if_neg c17] at H
       have c17b0 : (t309 == 0) = false := beq_eq_false_iff_ne.mpr c17
       have c17b1 : (t309 != 0) = true := bne_iff_ne.mpr c17
       have H' := Aside0.mk H
       clear H
       go_wp2
       go_roundg k1
       case measure => have := HK1.out; omega
       case rel => exact ⟨(wrap64 ((wrap64 (x5_1 * 10)) + (wrap64 (Int.tdiv (wrap64 (x6_1 * 10)) t309)))), (Int.tmod (wrap64 (x6_1 * 10)) t309), (wrap64 (x7_1 + 1)), (by first | rfl | (simp; done) | (simp [*]; done)), (by first | rfl | (simp; done) | (simp [*]; done)), (by first | rfl | (simp; done) | (simp [*]; done)), H', ⟨by have := HK1.out; omega⟩, ⟨by (with_reducible repeat (first | refine blk_drewN ?_ _ | refine blk_drew ?_ | refine blk_alloc ?_ _)); exact BK304.out⟩, ⟨by (with_reducible repeat (first | refine blk_drewN ?_ _ | refine blk_drew ?_ | refine blk_alloc ?_ _)); exact BK305.out⟩, ⟨by (with_reducible repeat (first | refine blk_drewN ?_ _ | refine blk_drew ?_ | refine blk_alloc ?_ _)); exact BK308.out⟩, ⟨by repeat (first | (with_reducible first | exact HB.out | apply below_alloc | apply pw_below_drewN | apply below_drew1 | refine below_set ?_ GE304.out | refine below_set ?_ GE305.out | refine below_set ?_ GE308.out) | exact HB.out)⟩⟩
     ·rw [if_neg c16] at H
      have c16b0 : decide (x7_1 < 6) = false := decide_eq_false c16
      clear c16
      by_cases c18 : x6_1 > 0
      ·rw [if_pos c18] at H
       have c18b0 : decide (0 < x6_1) = true := decide_eq_true c18
       clear c18
       simp only [Option.some.injEq, Prod.mk.injEq] at H
       obtain ⟨rfl, rfl⟩ := H
       have hnb19 := NB305_304.out
       have hnc19 := NB304_305.out
       have hnb20 := NB305_308.out
       have hnc20 := NB308_305.out
       have hcz21_0 : wr.cell? ⟨gb305, 0, none⟩ = some (.int .i64 0) := (blk_cell BK305.out 0).trans rfl
       have hcz21_1 : wr.cell? ⟨gb305, 1, none⟩ = some (.int .i64 0) := (blk_cell BK305.out 1).trans rfl
       have hfz21_0 := blk_frozen BK305.out 0
       have hfz21_1 := blk_frozen BK305.out 1
       go_wp2
       refine bodyPost_ret (results_cell_row rfl _ _ gb305 72 #[.int .i64 (wrap64 (x5_1 + 1)), .int .i64 0] (0, 0) _ rfl (by (with_reducible repeat (first | refine blk_drewN ?_ _ | refine blk_drew ?_ | refine blk_alloc ?_ _)); refine blk_put (cs := #[.int .i64 (wrap64 (x5_1 + 1)), .int .i64 0]) ?_ 1 _ rfl; (with_reducible repeat (first | refine blk_drewN ?_ _ | refine blk_drew ?_ | refine blk_alloc ?_ _)); refine blk_put (cs := #[.int .i64 0, .int .i64 0]) ?_ 0 _ rfl; (with_reducible repeat (first | refine blk_drewN ?_ _ | refine blk_drew ?_ | refine blk_alloc ?_ _)); exact BK305.out) Tryd.underlying72 rfl (by kernel_rfl)) rfl ?_
       exact ⟨by first | rfl | (simp [errW_none, errW_some] <;> rfl) | (simp [*, errW_none, errW_some] <;> rfl), by repeat (first | (with_reducible first | exact HB.out | apply below_alloc | apply pw_below_drewN | apply below_drew1 | refine below_set ?_ GE304.out | refine below_set ?_ GE305.out | refine below_set ?_ GE308.out) | exact HB.out)⟩
      ·rw [if_neg c18] at H
       have c18b0 : decide (0 < x6_1) = false := decide_eq_false c18
       clear c18
       simp only [Option.some.injEq, Prod.mk.injEq] at H
       obtain ⟨rfl, rfl⟩ := H
       have hnb22 := NB305_304.out
       have hnc22 := NB304_305.out
       have hnb23 := NB305_308.out
       have hnc23 := NB308_305.out
       have hcz24_0 : wr.cell? ⟨gb305, 0, none⟩ = some (.int .i64 0) := (blk_cell BK305.out 0).trans rfl
       have hcz24_1 : wr.cell? ⟨gb305, 1, none⟩ = some (.int .i64 0) := (blk_cell BK305.out 1).trans rfl
       have hfz24_0 := blk_frozen BK305.out 0
       have hfz24_1 := blk_frozen BK305.out 1
       go_wp2
       refine bodyPost_ret (results_cell_row rfl _ _ gb305 72 #[.int .i64 x5_1, .int .i64 0] (0, 0) _ rfl (by (with_reducible repeat (first | refine blk_drewN ?_ _ | refine blk_drew ?_ | refine blk_alloc ?_ _)); refine blk_put (cs := #[.int .i64 x5_1, .int .i64 0]) ?_ 1 _ rfl; (with_reducible repeat (first | refine blk_drewN ?_ _ | refine blk_drew ?_ | refine blk_alloc ?_ _)); refine blk_put (cs := #[.int .i64 0, .int .i64 0]) ?_ 0 _ rfl; (with_reducible repeat (first | refine blk_drewN ?_ _ | refine blk_drew ?_ | refine blk_alloc ?_ _)); exact BK305.out) Tryd.underlying72 rfl (by kernel_rfl)) rfl ?_
       exact ⟨by first | rfl | (simp [errW_none, errW_some] <;> rfl) | (simp [*, errW_none, errW_some] <;> rfl), by repeat (first | (with_reducible first | exact HB.out | apply below_alloc | apply pw_below_drewN | apply below_drew1 | refine below_set ?_ GE304.out | refine below_set ?_ GE305.out | refine below_set ?_ GE308.out) | exact HB.out)⟩
 ·rw [if_neg c3] at H
  have c3b0 : (t307 == 0) = false := beq_eq_false_iff_ne.mpr c3
  have c3b1 : (t307 != 0) = true := bne_iff_ne.mpr c3
  simp only [Option.some.injEq, Prod.mk.injEq] at H
  obtain ⟨rfl, rfl⟩ := H
  go_enter Tryd.func49, Tryd.ntmps49
  go_wp2_with (first | ((with_reducible refine gate_dst (N := 1) rfl ?_); refine box_event ?hg (N := 1) ?hd (cs := #[.int .i64 a0_0, .slice A0_1 l0_1.length c0_1, .int .i64 a0_2, .slice A0_3 l0_3.length c0_3, .slice A0_4 l0_4.length c0_4]) (t := 64) ?hr ?_; (case hd => rfl); (case hg => rfl); (case hr => first | (go_simp; done) | (go_simp; rfl)); intro gb304 hg w25 hbox hb; have n0_ := Aside0.mk (below_step (by repeat (first | (with_reducible first | exact HB.out | apply below_alloc | apply pw_below_drewN | apply below_drew1) | exact HB.out)) hb); have n1_ := Aside0.mk (hbox); have n2_ := Aside0.mk ((by rw [hg]; exact (below_size (by repeat (first | (with_reducible first | exact HB.out | apply below_alloc | apply pw_below_drewN | apply below_drew1) | exact HB.out))) : w.heap.size ≤ gb304)); have n3_ := Aside0.mk ((by rw [hg]; exact (below_size (by repeat (first | (with_reducible first | exact HB.out | apply below_alloc | apply pw_below_drewN | apply below_drew1) | exact HB.out))) : w.heap.size ≤ gb304)); clear HB; have HB := n0_; have BK304 := n1_; have GW304 := n2_; have GE304 := n3_; clear n0_ n1_ n2_ n3_; clear hb hbox hg) | ((with_reducible refine gate_dst (N := 2) rfl ?_); refine box_event ?hg (N := 2) ?hd (cs := #[.int .i64 0, .int .i64 0]) (t := 72) ?hr ?_; (case hd => rfl); (case hg => rfl); (case hr => first | (go_simp; done) | (go_simp; rfl)); intro gb305 hg w26 hbox hb; have n0_ := Aside0.mk (blk_below (g := gb304) (o := .cells #[.int .i64 a0_0, .slice A0_1 l0_1.length c0_1, .int .i64 a0_2, .slice A0_3 l0_3.length c0_3, .slice A0_4 l0_4.length c0_4] 64 (0, 0)) (by (with_reducible repeat (first | refine blk_drewN ?_ _ | refine blk_drew ?_ | refine blk_alloc ?_ _)); exact BK304.out) hb); have n1_ := Aside0.mk (below_step (by repeat (first | (with_reducible first | exact HB.out | apply below_alloc | apply pw_below_drewN | apply below_drew1 | refine below_set ?_ GE304.out) | exact HB.out)) hb); have n2_ := Aside0.mk (hbox); have n3_ := Aside0.mk ((by rw [hg]; exact (below_size (by repeat (first | (with_reducible first | exact HB.out | apply below_alloc | apply pw_below_drewN | apply below_drew1 | refine below_set ?_ GE304.out) | exact HB.out))) : w.heap.size ≤ gb305)); have n4_ := Aside0.mk ((by rw [hg]; exact (below_size (by repeat (first | (with_reducible first | exact HB.out | apply below_alloc | apply pw_below_drewN | apply below_drew1 | refine below_set ?_ GE304.out) | exact HB.out))) : w.heap.size ≤ gb305)); have n5_ := Aside0.mk ((by rw [hg]; exact Nat.ne_of_lt (blk_lt (g := gb304) (o := .cells #[.int .i64 a0_0, .slice A0_1 l0_1.length c0_1, .int .i64 a0_2, .slice A0_3 l0_3.length c0_3, .slice A0_4 l0_4.length c0_4] 64 (0, 0)) (by (with_reducible repeat (first | refine blk_drewN ?_ _ | refine blk_drew ?_ | refine blk_alloc ?_ _)); exact BK304.out)) : gb304 ≠ gb305)); have n6_ := Aside0.mk ((by rw [hg]; exact Nat.ne_of_gt (blk_lt (g := gb304) (o := .cells #[.int .i64 a0_0, .slice A0_1 l0_1.length c0_1, .int .i64 a0_2, .slice A0_3 l0_3.length c0_3, .slice A0_4 l0_4.length c0_4] 64 (0, 0)) (by (with_reducible repeat (first | refine blk_drewN ?_ _ | refine blk_drew ?_ | refine blk_alloc ?_ _)); exact BK304.out)) : gb305 ≠ gb304)); clear BK304; clear HB; have BK304 := n0_; have HB := n1_; have BK305 := n2_; have GW305 := n3_; have GE305 := n4_; have NB304_305 := n5_; have NB305_304 := n6_; clear n0_ n1_ n2_ n3_ n4_ n5_ n6_; clear hb hbox hg; have hnb27 := NB304_305.out; have hnc27 := NB305_304.out; have hcz28_0 : w26.cell? ⟨gb304, 0, none⟩ = some (.int .i64 a0_0) := (blk_cell BK304.out 0).trans rfl; have hcz28_1 : w26.cell? ⟨gb304, 1, none⟩ = some (.slice A0_1 l0_1.length c0_1) := (blk_cell BK304.out 1).trans rfl; have hcz28_2 : w26.cell? ⟨gb304, 2, none⟩ = some (.int .i64 a0_2) := (blk_cell BK304.out 2).trans rfl; have hcz28_3 : w26.cell? ⟨gb304, 3, none⟩ = some (.slice A0_3 l0_3.length c0_3) := (blk_cell BK304.out 3).trans rfl; have hcz28_4 : w26.cell? ⟨gb304, 4, none⟩ = some (.slice A0_4 l0_4.length c0_4) := (blk_cell BK304.out 4).trans rfl; have hfz28_0 := blk_frozen BK304.out 0; have hfz28_1 := blk_frozen BK304.out 1; have hfz28_2 := blk_frozen BK304.out 2; have hfz28_3 := blk_frozen BK304.out 3; have hfz28_4 := blk_frozen BK304.out 4) | ((with_reducible refine gate_callee (f := 46) rfl ?_); refine goesL_ (some 9) rfl rfl Tryd.func46 (by kernel_rfl) rfl #[.agg #[.int .i64 a0_0, .slice A0_1 l0_1.length c0_1, .int .i64 a0_2, .slice A0_3 l0_3.length c0_3, .slice A0_4 l0_4.length c0_4]] rfl (by (try simp only [List.map_toArray, List.map_cons, List.map_nil]); first | done | rfl | (simp only [List.length_drop, List.length_take]; rfl)) ?_; (with_reducible refine (quietusref12_Loss.calls k a0_0 _ _ l0_1 a0_2 _ _ l0_3 _ _ l0_4 t306 t307 _ ?side1 ?side2 ?side3 ?side4 ?side5 ?side6 ?side7 A2.out).mono ?_); (case side1 => exact HG.below HGw.out (by repeat (first | (with_reducible first | exact HB.out | apply below_alloc | apply pw_below_drewN | apply below_drew1 | refine below_set ?_ GE304.out | refine below_set ?_ GE305.out) | exact HB.out))); (case side2 => repeat (first | exact (Kd.C_below HR0_1.out HB.out) | (with_reducible refine Kd.C_alloc ?_ _) | (with_reducible refine Kd.C_drewN ?_ _) | (with_reducible refine Kd.C_drew ?_))); (case side3 => exact HC0_1.out); (case side4 => repeat (first | exact (Kd.C_below HR0_3.out HB.out) | (with_reducible refine Kd.C_alloc ?_ _) | (with_reducible refine Kd.C_drewN ?_ _) | (with_reducible refine Kd.C_drew ?_))); (case side5 => exact HC0_3.out); (case side6 => repeat (first | exact (Kd.C_below HR0_4.out HB.out) | (with_reducible refine Kd.C_alloc ?_ _) | (with_reducible refine Kd.C_drewN ?_ _) | (with_reducible refine Kd.C_drew ?_))); (case side7 => exact HC0_4.out); rintro e w29 ⟨rfl, hb⟩; refine ⟨_, rfl, ?_⟩; have n0_ := Aside0.mk (blk_below (g := gb304) (o := .cells #[.int .i64 a0_0, .slice A0_1 l0_1.length c0_1, .int .i64 a0_2, .slice A0_3 l0_3.length c0_3, .slice A0_4 l0_4.length c0_4] 64 (0, 0)) (by (with_reducible repeat (first | refine blk_drewN ?_ _ | refine blk_drew ?_ | refine blk_alloc ?_ _)); exact BK304.out) hb); have n1_ := Aside0.mk (blk_below (g := gb305) (o := .cells #[.int .i64 0, .int .i64 0] 72 (0, 0)) (by (with_reducible repeat (first | refine blk_drewN ?_ _ | refine blk_drew ?_ | refine blk_alloc ?_ _)); exact BK305.out) hb); have n2_ := Aside0.mk (below_step (by repeat (first | (with_reducible first | exact HB.out | apply below_alloc | apply pw_below_drewN | apply below_drew1 | refine below_set ?_ GE304.out | refine below_set ?_ GE305.out) | exact HB.out)) hb); clear BK304; clear BK305; clear HB; have BK304 := n0_; have BK305 := n1_; have HB := n2_; clear n0_ n1_ n2_; (try clear hb); (try clear hb2); (try clear hk); (try clear hi)) | ((with_reducible refine gate_dst (N := 3) rfl ?_); refine box_event ?hg (N := 3) ?hd (cs := #[.int .i64 0, .int .i64 0]) (t := 72) ?hr ?_; (case hd => rfl); (case hg => rfl); (case hr => first | (go_simp; done) | (go_simp; rfl)); intro gb308 hg w30 hbox hb; have n0_ := Aside0.mk (blk_below (g := gb304) (o := .cells #[.int .i64 a0_0, .slice A0_1 l0_1.length c0_1, .int .i64 a0_2, .slice A0_3 l0_3.length c0_3, .slice A0_4 l0_4.length c0_4] 64 (0, 0)) (by (with_reducible repeat (first | refine blk_drewN ?_ _ | refine blk_drew ?_ | refine blk_alloc ?_ _)); exact BK304.out) hb); have n1_ := Aside0.mk (blk_below (g := gb305) (o := .cells #[.int .i64 0, .int .i64 0] 72 (0, 0)) (by (with_reducible repeat (first | refine blk_drewN ?_ _ | refine blk_drew ?_ | refine blk_alloc ?_ _)); exact BK305.out) hb); have n2_ := Aside0.mk (below_step (by repeat (first | (with_reducible first | exact HB.out | apply below_alloc | apply pw_below_drewN | apply below_drew1 | refine below_set ?_ GE304.out | refine below_set ?_ GE305.out) | exact HB.out)) hb); have n3_ := Aside0.mk (hbox); have n4_ := Aside0.mk ((by rw [hg]; exact (below_size (by repeat (first | (with_reducible first | exact HB.out | apply below_alloc | apply pw_below_drewN | apply below_drew1 | refine below_set ?_ GE304.out | refine below_set ?_ GE305.out) | exact HB.out))) : w.heap.size ≤ gb308)); have n5_ := Aside0.mk ((by rw [hg]; exact (below_size (by repeat (first | (with_reducible first | exact HB.out | apply below_alloc | apply pw_below_drewN | apply below_drew1 | refine below_set ?_ GE304.out | refine below_set ?_ GE305.out) | exact HB.out))) : w.heap.size ≤ gb308)); have n6_ := Aside0.mk ((by rw [hg]; exact Nat.ne_of_lt (blk_lt (g := gb304) (o := .cells #[.int .i64 a0_0, .slice A0_1 l0_1.length c0_1, .int .i64 a0_2, .slice A0_3 l0_3.length c0_3, .slice A0_4 l0_4.length c0_4] 64 (0, 0)) (by (with_reducible repeat (first | refine blk_drewN ?_ _ | refine blk_drew ?_ | refine blk_alloc ?_ _)); exact BK304.out)) : gb304 ≠ gb308)); have n7_ := Aside0.mk ((by rw [hg]; exact Nat.ne_of_gt (blk_lt (g := gb304) (o := .cells #[.int .i64 a0_0, .slice A0_1 l0_1.length c0_1, .int .i64 a0_2, .slice A0_3 l0_3.length c0_3, .slice A0_4 l0_4.length c0_4] 64 (0, 0)) (by (with_reducible repeat (first | refine blk_drewN ?_ _ | refine blk_drew ?_ | refine blk_alloc ?_ _)); exact BK304.out)) : gb308 ≠ gb304)); have n8_ := Aside0.mk ((by rw [hg]; exact Nat.ne_of_lt (blk_lt (g := gb305) (o := .cells #[.int .i64 0, .int .i64 0] 72 (0, 0)) (by (with_reducible repeat (first | refine blk_drewN ?_ _ | refine blk_drew ?_ | refine blk_alloc ?_ _)); exact BK305.out)) : gb305 ≠ gb308)); have n9_ := Aside0.mk ((by rw [hg]; exact Nat.ne_of_gt (blk_lt (g := gb305) (o := .cells #[.int .i64 0, .int .i64 0] 72 (0, 0)) (by (with_reducible repeat (first | refine blk_drewN ?_ _ | refine blk_drew ?_ | refine blk_alloc ?_ _)); exact BK305.out)) : gb308 ≠ gb305)); clear BK304; clear BK305; clear HB; have BK304 := n0_; have BK305 := n1_; have HB := n2_; have BK308 := n3_; have GW308 := n4_; have GE308 := n5_; have NB304_308 := n6_; have NB308_304 := n7_; have NB305_308 := n8_; have NB308_305 := n9_; clear n0_ n1_ n2_ n3_ n4_ n5_ n6_ n7_ n8_ n9_; clear hb hbox hg; have hnb31 := NB308_304.out; have hnc31 := NB304_308.out; have hnb32 := NB308_305.out; have hnc32 := NB305_308.out; have hcz33_0 : w30.cell? ⟨gb308, 0, none⟩ = some (.int .i64 0) := (blk_cell BK308.out 0).trans rfl; have hcz33_1 : w30.cell? ⟨gb308, 1, none⟩ = some (.int .i64 0) := (blk_cell BK308.out 1).trans rfl; have hfz33_0 := blk_frozen BK308.out 0; have hfz33_1 := blk_frozen BK308.out 1; have hcz34_0 : w30.cell? ⟨gb305, 0, none⟩ = some (.int .i64 0) := (blk_cell BK305.out 0).trans rfl; have hcz34_1 : w30.cell? ⟨gb305, 1, none⟩ = some (.int .i64 0) := (blk_cell BK305.out 1).trans rfl; have hfz34_0 := blk_frozen BK305.out 0; have hfz34_1 := blk_frozen BK305.out 1))
  refine bodyPost_ret (results_cell_row rfl _ _ gb305 72 #[.int .i64 t306, .int .i64 t307] (0, 0) _ rfl (by (with_reducible repeat (first | refine blk_drewN ?_ _ | refine blk_drew ?_ | refine blk_alloc ?_ _)); refine blk_put (cs := #[.int .i64 t306, .int .i64 0]) ?_ 1 _ rfl; (with_reducible repeat (first | refine blk_drewN ?_ _ | refine blk_drew ?_ | refine blk_alloc ?_ _)); refine blk_put (cs := #[.int .i64 0, .int .i64 0]) ?_ 0 _ rfl; (with_reducible repeat (first | refine blk_drewN ?_ _ | refine blk_drew ?_ | refine blk_alloc ?_ _)); refine blk_far ?_ NB305_308.out _; (with_reducible repeat (first | refine blk_drewN ?_ _ | refine blk_drew ?_ | refine blk_alloc ?_ _)); refine blk_far ?_ NB305_308.out _; (with_reducible repeat (first | refine blk_drewN ?_ _ | refine blk_drew ?_ | refine blk_alloc ?_ _)); exact BK305.out) Tryd.underlying72 rfl (by kernel_rfl)) rfl ?_
  exact ⟨by first | rfl | (simp [errW_none, errW_some] <;> rfl) | (simp [*, errW_none, errW_some] <;> rfl), by repeat (first | (with_reducible first | exact HB.out | apply below_alloc | apply pw_below_drewN | apply below_drew1 | refine below_set ?_ GE304.out | refine below_set ?_ GE305.out | refine below_set ?_ GE308.out) | exact HB.out)⟩


/-! ### quietusref12_Few: function 37 -/
mutual
def quietusref12_Few.j0 : Nat → Bool → Int → List (List Int) → Int → List Int → List Int → Option (Bool)
 | 0, _, _, _, _, _, _ => none
 | k + 1, x23, x324000, x324001, x324002, x324003, x324004 => if x23 = true then (some false) else (quietusref12_Few.l0 k 0 x324000 x324001 x324002 x324003 x324004)
def quietusref12_Few.l0 : Nat → Int → Int → List (List Int) → Int → List Int → List Int → Option (Bool)
 | 0, _, _, _, _, _, _ => none
 | k + 1, x5, x324000, x324001, x324002, x324003, x324004 => if x5 < (x324001.length : Int) then (if 0 ≤ x5 then (if ((rd_L1 x324001 x5).length : Int) > 30 then (some false) else (quietusref12_Few.l0 k (wrap64 (x5 + 1)) x324000 x324001 x324002 x324003 x324004)) else (none)) else (some true)
end
def quietusref12_Few.f (k : Nat) (a0_0 : Int) (l0_1 : List (List Int)) (a0_2 : Int) (l0_3 : List Int) (l0_4 : List Int) (a1 : Int) : Option (Bool) := if (l0_4.length : Int) > a1 then (quietusref12_Few.j0 k true a0_0 l0_1 a0_2 l0_3 l0_4) else (if (l0_3.length : Int) > 60 then (quietusref12_Few.j0 k true a0_0 l0_1 a0_2 l0_3 l0_4) else (quietusref12_Few.j0 k (decide ((l0_1.length : Int) > 30)) a0_0 l0_1 a0_2 l0_3 l0_4))
set_option maxHeartbeats 8000000 in
set_option maxRecDepth 100000 in
theorem quietusref12_Few.calls (k : Nat) (a0_0 : Int) (A0_1 : Option Addr) (c0_1 : Nat) (l0_1 : List (List Int)) (a0_2 : Int) (A0_3 : Option Addr) (c0_3 : Nat) (l0_3 : List Int) (A0_4 : Option Addr) (c0_4 : Nat) (l0_4 : List Int) (a1 : Int) (r : Bool) (w : World) (hG : HG w) (hr0_1 : Kd.C (Kd.slice 3 (Kd.int .i64)) w A0_1 l0_1.length l0_1) (hc0_1 : l0_1.length ≤ c0_1) (hr0_3 : Kd.C (Kd.int .i64) w A0_3 l0_3.length l0_3) (hc0_3 : l0_3.length ≤ c0_3) (hr0_4 : Kd.C (Kd.int .i64) w A0_4 l0_4.length l0_4) (hc0_4 : l0_4.length ≤ c0_4) (h : quietusref12_Few.f k a0_0 l0_1 a0_2 l0_3 l0_4 a1 = some r) :
  Calls Tryd.prog 37 #[.agg #[.int .i64 a0_0, .slice A0_1 l0_1.length c0_1, .int .i64 a0_2, .slice A0_3 l0_3.length c0_3, .slice A0_4 l0_4.length c0_4], .int .i64 a1] w fun e w' => e = .returned (.bool r) ∧ Below w.heap.size w w' := by
 have HGw := Aside0.mk hG
 clear hG
 have hu64 := Tryd.underlying64
 have HR0_1 := Aside0.mk hr0_1
 have HC0_1 := Aside0.mk hc0_1
 clear hr0_1 hc0_1
 have HR0_3 := Aside0.mk hr0_3
 have HC0_3 := Aside0.mk hc0_3
 clear hr0_3 hc0_3
 have HR0_4 := Aside0.mk hr0_4
 have HC0_4 := Aside0.mk hc0_4
 clear hr0_4 hc0_4
 have HB := Aside0.mk (Below.refl w.heap.size w)
 have H : (if (l0_4.length : Int) > a1 then (quietusref12_Few.j0 k true a0_0 l0_1 a0_2 l0_3 l0_4) else (if (l0_3.length : Int) > 60 then (quietusref12_Few.j0 k true a0_0 l0_1 a0_2 l0_3 l0_4) else (quietusref12_Few.j0 k (decide ((l0_1.length : Int) > 30)) a0_0 l0_1 a0_2 l0_3 l0_4))) = some r := h
 clear h
 have HC3 := Aside0.mk H
 clear H
 go_enter Tryd.func37, Tryd.ntmps37
 go_upto_region 1 with (first | ((with_reducible refine gate_dst (N := 2) rfl ?_); (try (refine gate_guard (by rfl) ?_; dsimp only)); refine box_event ?hg (N := 2) ?hd (cs := #[.int .i64 a0_0, .slice A0_1 l0_1.length c0_1, .int .i64 a0_2, .slice A0_3 l0_3.length c0_3, .slice A0_4 l0_4.length c0_4]) (t := 64) ?hr ?_; (case hd => rfl); (case hg => rfl); (case hr => first | (go_simp; done) | (go_simp; rfl)); intro gb323 hg w4 hbox hb; have n0_ := Aside0.mk (below_step (by repeat (first | (with_reducible first | exact HB.out | apply below_alloc | apply pw_below_drewN | apply below_drew1) | exact HB.out)) hb); have n1_ := Aside0.mk (hbox); have n2_ := Aside0.mk ((by rw [hg]; exact (below_size (by repeat (first | (with_reducible first | exact HB.out | apply below_alloc | apply pw_below_drewN | apply below_drew1) | exact HB.out))) : w.heap.size ≤ gb323)); have n3_ := Aside0.mk ((by rw [hg]; exact (below_size (by repeat (first | (with_reducible first | exact HB.out | apply below_alloc | apply pw_below_drewN | apply below_drew1) | exact HB.out))) : w.heap.size ≤ gb323)); clear HB; have HB := n0_; have BK323 := n1_; have GW323 := n2_; have GE323 := n3_; clear n0_ n1_ n2_ n3_; clear hb hbox hg))
 (try simp only [Act.put, List.setIfInBounds_toArray, List.set_cons_zero, List.set_cons_succ])
 go_cut [23] (fun v23 wc => ∃ (kq : Nat) (x23_2 : Bool), v23 = .bool x23_2 ∧ Aside0 (quietusref12_Few.j0 kq x23_2 a0_0 l0_1 a0_2 l0_3 l0_4 = some r) ∧ Aside0 (kq ≤ k) ∧ Aside0 (wc.heap[gb323]? = some (.cells #[.int .i64 a0_0, (.slice A0_1 l0_1.length c0_1), .int .i64 a0_2, (.slice A0_3 l0_3.length c0_3), (.slice A0_4 l0_4.length c0_4)] 64 (0, 0))) ∧ Aside0 (Below w.heap.size w wc))
 case first =>
  have H := HC3.out
  clear HC3
  by_cases c5 : (l0_4.length : Int) > a1
  ·rw [if_pos c5] at H
   have c5b0 : decide (a1 < (l0_4.length : Int)) = true := decide_eq_true c5
   clear c5
   (first | rw [c5b0] | (simp only [i64_w, i32_w]; rw [c5b0]) | skip)
   have H' := Aside0.mk H
   clear H
   have hcz6_0 : w4.cell? ⟨gb323, 0, none⟩ = some (.int .i64 a0_0) := (blk_cell BK323.out 0).trans rfl
   have hcz6_1 : w4.cell? ⟨gb323, 1, none⟩ = some (.slice A0_1 l0_1.length c0_1) := (blk_cell BK323.out 1).trans rfl
   have hcz6_2 : w4.cell? ⟨gb323, 2, none⟩ = some (.int .i64 a0_2) := (blk_cell BK323.out 2).trans rfl
   have hcz6_3 : w4.cell? ⟨gb323, 3, none⟩ = some (.slice A0_3 l0_3.length c0_3) := (blk_cell BK323.out 3).trans rfl
   have hcz6_4 : w4.cell? ⟨gb323, 4, none⟩ = some (.slice A0_4 l0_4.length c0_4) := (blk_cell BK323.out 4).trans rfl
   have hfz6_0 := blk_frozen BK323.out 0
   have hfz6_1 := blk_frozen BK323.out 1
   have hfz6_2 := blk_frozen BK323.out 2
   have hfz6_3 := blk_frozen BK323.out 3
   have hfz6_4 := blk_frozen BK323.out 4
   go_wp2
   go_meet
   case rel => exact ⟨_, (true), (by first | rfl | (simp; done) | (simp [*]; done)), H', ⟨by first | omega | exact Nat.le_refl _⟩, ⟨by (with_reducible repeat (first | refine blk_drewN ?_ _ | refine blk_drew ?_ | refine blk_alloc ?_ _)); exact BK323.out⟩, ⟨by repeat (first | (with_reducible first | exact HB.out | apply below_alloc | apply pw_below_drewN | apply below_drew1 | refine below_set ?_ GE323.out) | exact HB.out)⟩⟩
  ·rw [if_neg c5] at H
   have c5b0 : decide (a1 < (l0_4.length : Int)) = false := decide_eq_false c5
   clear c5
   (first | rw [c5b0] | (simp only [i64_w, i32_w]; rw [c5b0]) | skip)
   by_cases c7 : (l0_3.length : Int) > 60
   ·rw [if_pos c7] at H
    have c7b0 : decide (60 < (l0_3.length : Int)) = true := decide_eq_true c7
    have c7b1 : decide (60 < l0_3.length) = true := decide_eq_true (by omega)
    clear c7
    have H' := Aside0.mk H
    clear H
    have hcz8_0 : w4.cell? ⟨gb323, 0, none⟩ = some (.int .i64 a0_0) := (blk_cell BK323.out 0).trans rfl
    have hcz8_1 : w4.cell? ⟨gb323, 1, none⟩ = some (.slice A0_1 l0_1.length c0_1) := (blk_cell BK323.out 1).trans rfl
    have hcz8_2 : w4.cell? ⟨gb323, 2, none⟩ = some (.int .i64 a0_2) := (blk_cell BK323.out 2).trans rfl
    have hcz8_3 : w4.cell? ⟨gb323, 3, none⟩ = some (.slice A0_3 l0_3.length c0_3) := (blk_cell BK323.out 3).trans rfl
    have hcz8_4 : w4.cell? ⟨gb323, 4, none⟩ = some (.slice A0_4 l0_4.length c0_4) := (blk_cell BK323.out 4).trans rfl
    have hfz8_0 := blk_frozen BK323.out 0
    have hfz8_1 := blk_frozen BK323.out 1
    have hfz8_2 := blk_frozen BK323.out 2
    have hfz8_3 := blk_frozen BK323.out 3
    have hfz8_4 := blk_frozen BK323.out 4
    go_wp2
    go_meet
    case rel => exact ⟨_, (true), (by first | rfl | (simp; done) | (simp [*]; done)), H', ⟨by first | omega | exact Nat.le_refl _⟩, ⟨by (with_reducible repeat (first | refine blk_drewN ?_ _ | refine blk_drew ?_ | refine blk_alloc ?_ _)); exact BK323.out⟩, ⟨by repeat (first | (with_reducible first | exact HB.out | apply below_alloc | apply pw_below_drewN | apply below_drew1 | refine below_set ?_ GE323.out) | exact HB.out)⟩⟩
   ·rw [if_neg c7] at H
    have c7b0 : decide (60 < (l0_3.length : Int)) = false := decide_eq_false c7
    have c7b1 : decide (60 < l0_3.length) = false := decide_eq_false (by omega)
    clear c7
    have H' := Aside0.mk H
    clear H
    have hcz9_0 : w4.cell? ⟨gb323, 0, none⟩ = some (.int .i64 a0_0) := (blk_cell BK323.out 0).trans rfl
    have hcz9_1 : w4.cell? ⟨gb323, 1, none⟩ = some (.slice A0_1 l0_1.length c0_1) := (blk_cell BK323.out 1).trans rfl
    have hcz9_2 : w4.cell? ⟨gb323, 2, none⟩ = some (.int .i64 a0_2) := (blk_cell BK323.out 2).trans rfl
    have hcz9_3 : w4.cell? ⟨gb323, 3, none⟩ = some (.slice A0_3 l0_3.length c0_3) := (blk_cell BK323.out 3).trans rfl
    have hcz9_4 : w4.cell? ⟨gb323, 4, none⟩ = some (.slice A0_4 l0_4.length c0_4) := (blk_cell BK323.out 4).trans rfl
    have hfz9_0 := blk_frozen BK323.out 0
    have hfz9_1 := blk_frozen BK323.out 1
    have hfz9_2 := blk_frozen BK323.out 2
    have hfz9_3 := blk_frozen BK323.out 3
    have hfz9_4 := blk_frozen BK323.out 4
    go_wp2
    go_meet
    case rel => exact ⟨_, (decide ((l0_1.length : Int) > 30)), (by first | rfl | (simp; done) | (simp [*]; done)), H', ⟨by first | omega | exact Nat.le_refl _⟩, ⟨by (with_reducible repeat (first | refine blk_drewN ?_ _ | refine blk_drew ?_ | refine blk_alloc ?_ _)); exact BK323.out⟩, ⟨by repeat (first | (with_reducible first | exact HB.out | apply below_alloc | apply pw_below_drewN | apply below_drew1 | refine below_set ?_ GE323.out) | exact HB.out)⟩⟩
 case rest =>
  clear HC3
  try clear p2
  try clear c3
  try clear c5
  try clear c5b0
  try clear c7
  try clear c7b0
  try clear c7b1
  try clear hcz6_0
  try clear hcz6_1
  try clear hcz6_2
  try clear hcz6_3
  try clear hcz6_4
  try clear hcz8_0
  try clear hcz8_1
  try clear hcz8_2
  try clear hcz8_3
  try clear hcz8_4
  try clear hcz9_0
  try clear hcz9_1
  try clear hcz9_2
  try clear hcz9_3
  try clear hcz9_4
  try clear hfz6_0
  try clear hfz6_1
  try clear hfz6_2
  try clear hfz6_3
  try clear hfz6_4
  try clear hfz8_0
  try clear hfz8_1
  try clear hfz8_2
  try clear hfz8_3
  try clear hfz8_4
  try clear hfz9_0
  try clear hfz9_1
  try clear hfz9_2
  try clear hfz9_3
  try clear hfz9_4
  obtain ⟨kq, x23_2, rfl, HA, HJ2, BK323, HB⟩ := hcut
  cases kq with
  | zero => exact absurd HA.out (by simp [quietusref12_Few.j0])
  | succ kj2 =>
   have H := HA.out
   clear HA
   simp only [quietusref12_Few.j0] at H
   by_cases c10 : x23_2 = true
   ·subst c10
    have H1 : (some false) = some r := by rw [if_pos rfl] at H; exact H
    clear H
    have H := H1
    clear H1
    obtain rfl := Option.some.inj H
    go_wp2
    go_ret
    exact ⟨by first | rfl | (simp [errW_none, errW_some] <;> rfl) | (simp [*, errW_none, errW_some] <;> rfl), by repeat (first | (with_reducible first | exact HB.out | apply below_alloc | apply pw_below_drewN | apply below_drew1 | refine below_set ?_ GE323.out) | exact HB.out)⟩
   ·replace c10 := Bool.eq_false_iff.mpr c10
    subst c10
    have H1 : (quietusref12_Few.l0 kj2 0 a0_0 l0_1 a0_2 l0_3 l0_4) = some r := by rw [if_neg (show ¬ (false = true) by decide)] at H; exact H
    clear H
    have H := H1
    clear H1
    have H' := Aside0.mk H
    clear H
    go_wp2
    go_loopg [5] kj2 (fun kq v5 w' => ∃ (x5_2 : Int), v5 = .int .i64 x5_2 ∧ Aside0 (quietusref12_Few.l0 kq x5_2 a0_0 l0_1 a0_2 l0_3 l0_4 = some r) ∧ Aside0 (kq ≤ kj2) ∧ Aside0 (w'.heap[gb323]? = some (.cells #[.int .i64 a0_0, (.slice A0_1 l0_1.length c0_1), .int .i64 a0_2, (.slice A0_3 l0_3.length c0_3), (.slice A0_4 l0_4.length c0_4)] 64 (0, 0))) ∧ Aside0 (Below w.heap.size w w'))
    case atStart => exact ⟨(0), (by first | rfl | (simp; done) | (simp [*]; done)), H', ⟨Nat.le_refl _⟩, ⟨by (with_reducible repeat (first | refine blk_drewN ?_ _ | refine blk_drew ?_ | refine blk_alloc ?_ _)); exact BK323.out⟩, ⟨by repeat (first | (with_reducible first | exact HB.out | apply below_alloc | apply pw_below_drewN | apply below_drew1 | refine below_set ?_ GE323.out) | exact HB.out)⟩⟩
    case round =>
     clear H'
     try clear c1
     try clear p2
     try clear c3
     try clear c5
     try clear c5b0
     try clear c7
     try clear c7b0
     try clear c7b1
     try clear c10
     try clear hcz6_0
     try clear hcz6_1
     try clear hcz6_2
     try clear hcz6_3
     try clear hcz6_4
     try clear hcz8_0
     try clear hcz8_1
     try clear hcz8_2
     try clear hcz8_3
     try clear hcz8_4
     try clear hcz9_0
     try clear hcz9_1
     try clear hcz9_2
     try clear hcz9_3
     try clear hcz9_4
     try clear hfz6_0
     try clear hfz6_1
     try clear hfz6_2
     try clear hfz6_3
     try clear hfz6_4
     try clear hfz8_0
     try clear hfz8_1
     try clear hfz8_2
     try clear hfz8_3
     try clear hfz8_4
     try clear hfz9_0
     try clear hfz9_1
     try clear hfz9_2
     try clear hfz9_3
     try clear hfz9_4
     try clear p2
     obtain ⟨x5_2, rfl, HA, HK2, BK323, HB⟩ := hrel
     cases gk with
     | zero => exact absurd HA.out (by simp [quietusref12_Few.l0])
     | succ k2 =>
      have H := HA.out
      clear HA
      simp only [quietusref12_Few.l0] at H
      by_cases c11 : x5_2 < (l0_1.length : Int)
      ·rw [if_pos c11] at H
       have c11b0 : decide (x5_2 < (l0_1.length : Int)) = true := decide_eq_true c11
       clear c11
       by_cases c12 : 0 ≤ x5_2
       ·rw [if_pos c12] at H
        have c12b0 : decide (0 ≤ x5_2) = true := decide_eq_true c12
        clear c12
        by_cases c13 : ((rd_L1 l0_1 x5_2).length : Int) > 30
        ·rw [if_pos c13] at H
         have c13b0 : decide (30 < ((rd_L1 l0_1 x5_2).length : Int)) = true := decide_eq_true c13
         have c13b1 : decide (30 < (rd_L1 l0_1 x5_2).length) = true := decide_eq_true (by omega)
         clear c13
         obtain rfl := Option.some.inj H
         have hcz14_0 : wr.cell? ⟨gb323, 0, none⟩ = some (.int .i64 a0_0) := (blk_cell BK323.out 0).trans rfl
         have hcz14_1 : wr.cell? ⟨gb323, 1, none⟩ = some (.slice A0_1 l0_1.length c0_1) := (blk_cell BK323.out 1).trans rfl
         have hcz14_2 : wr.cell? ⟨gb323, 2, none⟩ = some (.int .i64 a0_2) := (blk_cell BK323.out 2).trans rfl
         have hcz14_3 : wr.cell? ⟨gb323, 3, none⟩ = some (.slice A0_3 l0_3.length c0_3) := (blk_cell BK323.out 3).trans rfl
         have hcz14_4 : wr.cell? ⟨gb323, 4, none⟩ = some (.slice A0_4 l0_4.length c0_4) := (blk_cell BK323.out 4).trans rfl
         have hfz14_0 := blk_frozen BK323.out 0
         have hfz14_1 := blk_frozen BK323.out 1
         have hfz14_2 := blk_frozen BK323.out 2
         have hfz14_3 := blk_frozen BK323.out 3
         have hfz14_4 := blk_frozen BK323.out 4
         have p324 : 0 ≤ (x5_2 : Int) := of_decide_eq_true (by first | (with_reducible assumption) | assumption)
         have q324 : x5_2 < (l0_1.length : Int) := of_decide_eq_true (by first | (with_reducible assumption) | assumption)
         obtain ⟨ad324, A324_0, c324_0, e324, hx324_0, hl324_0, hi324_0⟩ := at_L1 HR0_1.out x5_2 p324 q324
         cases e324
         replace hx324_0 := (HB.out.cell (World.block_lt_of_cell? w _ hx324_0)).trans hx324_0
         have HR324_0 := Aside0.mk hi324_0
         have HC324_0 := Aside0.mk hl324_0
         clear hi324_0 hl324_0
         replace p324 := eq_true p324
         replace q324 := eq_true q324
         go_wp2
         go_ret
         exact ⟨by first | rfl | (simp [errW_none, errW_some] <;> rfl) | (simp [*, errW_none, errW_some] <;> rfl), by repeat (first | (with_reducible first | exact HB.out | apply below_alloc | apply pw_below_drewN | apply below_drew1 | refine below_set ?_ GE323.out) | exact HB.out)⟩
        ·rw [if_neg c13] at H
         have c13b0 : decide (30 < ((rd_L1 l0_1 x5_2).length : Int)) = false := decide_eq_false c13
         have c13b1 : decide (30 < (rd_L1 l0_1 x5_2).length) = false := decide_eq_false (by omega)
         clear c13
         have H' := Aside0.mk H
         clear H
         have hcz15_0 : wr.cell? ⟨gb323, 0, none⟩ = some (.int .i64 a0_0) := (blk_cell BK323.out 0).trans rfl
         have hcz15_1 : wr.cell? ⟨gb323, 1, none⟩ = some (.slice A0_1 l0_1.length c0_1) := (blk_cell BK323.out 1).trans rfl
         have hcz15_2 : wr.cell? ⟨gb323, 2, none⟩ = some (.int .i64 a0_2) := (blk_cell BK323.out 2).trans rfl
         have hcz15_3 : wr.cell? ⟨gb323, 3, none⟩ = some (.slice A0_3 l0_3.length c0_3) := (blk_cell BK323.out 3).trans rfl
         have hcz15_4 : wr.cell? ⟨gb323, 4, none⟩ = some (.slice A0_4 l0_4.length c0_4) := (blk_cell BK323.out 4).trans rfl
         have hfz15_0 := blk_frozen BK323.out 0
         have hfz15_1 := blk_frozen BK323.out 1
         have hfz15_2 := blk_frozen BK323.out 2
         have hfz15_3 := blk_frozen BK323.out 3
         have hfz15_4 := blk_frozen BK323.out 4
         have p324 : 0 ≤ (x5_2 : Int) := of_decide_eq_true (by first | (with_reducible assumption) | assumption)
         have q324 : x5_2 < (l0_1.length : Int) := of_decide_eq_true (by first | (with_reducible assumption) | assumption)
         obtain ⟨ad324, A324_0, c324_0, e324, hx324_0, hl324_0, hi324_0⟩ := at_L1 HR0_1.out x5_2 p324 q324
         cases e324
         replace hx324_0 := (HB.out.cell (World.block_lt_of_cell? w _ hx324_0)).trans hx324_0
         have HR324_0 := Aside0.mk hi324_0
         have HC324_0 := Aside0.mk hl324_0
         clear hi324_0 hl324_0
         replace p324 := eq_true p324
         replace q324 := eq_true q324
         go_wp2
         go_roundg k2
         case measure => have := HJ2.out; have := HK2.out; omega
         case rel => exact ⟨(wrap64 (x5_2 + 1)), (by first | rfl | (simp; done) | (simp [*]; done)), H', ⟨by have := HJ2.out; have := HK2.out; omega⟩, ⟨by (with_reducible repeat (first | refine blk_drewN ?_ _ | refine blk_drew ?_ | refine blk_alloc ?_ _)); exact BK323.out⟩, ⟨by repeat (first | (with_reducible first | exact HB.out | apply below_alloc | apply pw_below_drewN | apply below_drew1 | refine below_set ?_ GE323.out) | exact HB.out)⟩⟩
       ·rw [if_neg c12] at H
        exact absurd H (by simp)
      ·rw [if_neg c11] at H
       have c11b0 : decide (x5_2 < (l0_1.length : Int)) = false := decide_eq_false c11
       clear c11
       obtain rfl := Option.some.inj H
       have hcz16_0 : wr.cell? ⟨gb323, 0, none⟩ = some (.int .i64 a0_0) := (blk_cell BK323.out 0).trans rfl
       have hcz16_1 : wr.cell? ⟨gb323, 1, none⟩ = some (.slice A0_1 l0_1.length c0_1) := (blk_cell BK323.out 1).trans rfl
       have hcz16_2 : wr.cell? ⟨gb323, 2, none⟩ = some (.int .i64 a0_2) := (blk_cell BK323.out 2).trans rfl
       have hcz16_3 : wr.cell? ⟨gb323, 3, none⟩ = some (.slice A0_3 l0_3.length c0_3) := (blk_cell BK323.out 3).trans rfl
       have hcz16_4 : wr.cell? ⟨gb323, 4, none⟩ = some (.slice A0_4 l0_4.length c0_4) := (blk_cell BK323.out 4).trans rfl
       have hfz16_0 := blk_frozen BK323.out 0
       have hfz16_1 := blk_frozen BK323.out 1
       have hfz16_2 := blk_frozen BK323.out 2
       have hfz16_3 := blk_frozen BK323.out 3
       have hfz16_4 := blk_frozen BK323.out 4
       go_wp2
       go_ret
       exact ⟨by first | rfl | (simp [errW_none, errW_some] <;> rfl) | (simp [*, errW_none, errW_some] <;> rfl), by repeat (first | (with_reducible first | exact HB.out | apply below_alloc | apply pw_below_drewN | apply below_drew1 | refine below_set ?_ GE323.out) | exact HB.out)⟩


/-! ### quietusref12_Compare: function 48 -/
section
variable {g : Nat} {d : Int} {A : Option Addr} {c : Nat} {l : List (List Int)} {m : Int} {Aa : Option Addr} {ca : Nat} {pl : List Int} {Ac : Option Addr} {cc : Nat} {ch : List Int} {W W' : World}
theorem PerilAt.rloss {k : Nat} {r1 r2 : Int} (h : PerilAt g d A c l m Aa ca pl Ac cc ch W) (hr : quietusref12_Loss.f k d l m pl ch = some (r1, r2)) :
  Calls Tryd.prog 46 #[.agg #[.int .i64 d, .slice A l.length c, .int .i64 m, .slice Aa pl.length ca, .slice Ac ch.length cc]] W fun e w' => e = .returned (.agg #[.int .i64 r1, .int .i64 r2]) ∧ Below W.heap.size W w' :=
 quietusref12_Loss.calls k d A c l m Aa ca pl Ac cc ch r1 r2 W h.hg h.hgr h.hc h.hpl h.hca h.hch h.hcc hr
end
def quietusref12_Compare.f (k : Nat) (a0_0 : Int) (l0_1 : List (List Int)) (a0_2 : Int) (l0_3 : List Int) (l0_4 : List Int) (a1_0 : Int) (l1_1 : List (List Int)) (a1_2 : Int) (l1_3 : List Int) (l1_4 : List Int) : Option (Int × Int) :=
 (quietusref12_Loss.f k a0_0 l0_1 a0_2 l0_3 l0_4).bind fun x => if x.2 = 0 then ((quietusref12_Loss.f k a1_0 l1_1 a1_2 l1_3 l1_4).bind fun y => if y.2 = 0 then (if l0_4.length ≤ 1000 ∧ l1_4.length ≤ 1000 then
  ((quietusref12_Power.f k ((max l0_4.length l1_4.length - l0_4.length : Nat) : Int)).bind fun p => (quietusref12_Power.f k ((max l0_4.length l1_4.length - l1_4.length : Nat) : Int)).bind fun q =>
   if wrap64 (x.1 * p) < wrap64 (y.1 * q) then some (-1, 0) else if wrap64 (y.1 * q) < wrap64 (x.1 * p) then some (1, 0) else some (0, 0)) else none) else some y) else some x
set_option maxHeartbeats 4000000 in
set_option maxRecDepth 100000 in
theorem quietusref12_Compare.calls (k : Nat) (a0_0 : Int) (A0_1 : Option Addr) (c0_1 : Nat) (l0_1 : List (List Int)) (a0_2 : Int) (A0_3 : Option Addr) (c0_3 : Nat) (l0_3 : List Int) (A0_4 : Option Addr) (c0_4 : Nat) (l0_4 : List Int) (a1_0 : Int) (A1_1 : Option Addr) (c1_1 : Nat) (l1_1 : List (List Int)) (a1_2 : Int) (A1_3 : Option Addr) (c1_3 : Nat) (l1_3 : List Int) (A1_4 : Option Addr) (c1_4 : Nat) (l1_4 : List Int) (r1 : Int) (r2 : Int) (w : World) (hG : HG w) (hr0_1 : Kd.C (Kd.slice 3 (Kd.int .i64)) w A0_1 l0_1.length l0_1) (hc0_1 : l0_1.length ≤ c0_1) (hr0_3 : Kd.C (Kd.int .i64) w A0_3 l0_3.length l0_3) (hc0_3 : l0_3.length ≤ c0_3) (hr0_4 : Kd.C (Kd.int .i64) w A0_4 l0_4.length l0_4) (hc0_4 : l0_4.length ≤ c0_4) (hr1_1 : Kd.C (Kd.slice 3 (Kd.int .i64)) w A1_1 l1_1.length l1_1) (hc1_1 : l1_1.length ≤ c1_1) (hr1_3 : Kd.C (Kd.int .i64) w A1_3 l1_3.length l1_3) (hc1_3 : l1_3.length ≤ c1_3) (hr1_4 : Kd.C (Kd.int .i64) w A1_4 l1_4.length l1_4) (hc1_4 : l1_4.length ≤ c1_4) (h : quietusref12_Compare.f k a0_0 l0_1 a0_2 l0_3 l0_4 a1_0 l1_1 a1_2 l1_3 l1_4 = some (r1, r2)) :
  Calls Tryd.prog 48 #[.agg #[.int .i64 a0_0, .slice A0_1 l0_1.length c0_1, .int .i64 a0_2, .slice A0_3 l0_3.length c0_3, .slice A0_4 l0_4.length c0_4], .agg #[.int .i64 a1_0, .slice A1_1 l1_1.length c1_1, .int .i64 a1_2, .slice A1_3 l1_3.length c1_3, .slice A1_4 l1_4.length c1_4]] w fun e w' => e = .returned (.agg #[.int .i64 r1, .int .i64 r2]) ∧ Below w.heap.size w w' := by
 have HK := Aside0.mk (show PerilAt w.heap.size a0_0 A0_1 c0_1 l0_1 a0_2 A0_3 c0_3 l0_3 A0_4 c0_4 l0_4 (((w.alloc (.cells #[.int .i64 a0_0, .slice A0_1 l0_1.length c0_1, .int .i64 a0_2, .slice A0_3 l0_3.length c0_3, .slice A0_4 l0_4.length c0_4] 64)).alloc (.cells #[.int .i64 a1_0, .slice A1_1 l1_1.length c1_1, .int .i64 a1_2, .slice A1_3 l1_3.length c1_3, .slice A1_4 l1_4.length c1_4] 64)).alloc (.cells #[.int .i64 0, .int .i64 0] 72)) from PerilAt.below (W := w.alloc (.cells #[.int .i64 a0_0, .slice A0_1 l0_1.length c0_1, .int .i64 a0_2, .slice A0_3 l0_3.length c0_3, .slice A0_4 l0_4.length c0_4] 64)) ⟨blk_new _ _, hc0_1, Kd.C_alloc hr0_1 _, hc0_3, Kd.C_alloc hr0_3 _, hc0_4, Kd.C_alloc hr0_4 _, hG.alloc _⟩ (below_alloc (below_alloc (Below.refl _ _) _) _))
 have HK2 := Aside0.mk (show PerilAt (w.heap.size + 1) a1_0 A1_1 c1_1 l1_1 a1_2 A1_3 c1_3 l1_3 A1_4 c1_4 l1_4 (((w.alloc (.cells #[.int .i64 a0_0, .slice A0_1 l0_1.length c0_1, .int .i64 a0_2, .slice A0_3 l0_3.length c0_3, .slice A0_4 l0_4.length c0_4] 64)).alloc (.cells #[.int .i64 a1_0, .slice A1_1 l1_1.length c1_1, .int .i64 a1_2, .slice A1_3 l1_3.length c1_3, .slice A1_4 l1_4.length c1_4] 64)).alloc (.cells #[.int .i64 0, .int .i64 0] 72)) from PerilAt.below (W := (w.alloc (.cells #[.int .i64 a0_0, .slice A0_1 l0_1.length c0_1, .int .i64 a0_2, .slice A0_3 l0_3.length c0_3, .slice A0_4 l0_4.length c0_4] 64)).alloc (.cells #[.int .i64 a1_0, .slice A1_1 l1_1.length c1_1, .int .i64 a1_2, .slice A1_3 l1_3.length c1_3, .slice A1_4 l1_4.length c1_4] 64)) ⟨blk_new1 _ _ _, hc1_1, Kd.C_alloc (Kd.C_alloc hr1_1 _) _, hc1_3, Kd.C_alloc (Kd.C_alloc hr1_3 _) _, hc1_4, Kd.C_alloc (Kd.C_alloc hr1_4 _) _, (hG.alloc _).alloc _⟩ (below_alloc (Below.refl _ _) _))
 have HO := Aside0.mk (show (((w.alloc (.cells #[.int .i64 a0_0, .slice A0_1 l0_1.length c0_1, .int .i64 a0_2, .slice A0_3 l0_3.length c0_3, .slice A0_4 l0_4.length c0_4] 64)).alloc (.cells #[.int .i64 a1_0, .slice A1_1 l1_1.length c1_1, .int .i64 a1_2, .slice A1_3 l1_3.length c1_3, .slice A1_4 l1_4.length c1_4] 64)).alloc (.cells #[.int .i64 0, .int .i64 0] 72)).heap[w.heap.size + 1 + 1]? = some (.cells #[.int .i64 0, .int .i64 0] 72 (0, 0)) from by have := blk_new ((w.alloc (.cells #[.int .i64 a0_0, .slice A0_1 l0_1.length c0_1, .int .i64 a0_2, .slice A0_3 l0_3.length c0_3, .slice A0_4 l0_4.length c0_4] 64)).alloc (.cells #[.int .i64 a1_0, .slice A1_1 l1_1.length c1_1, .int .i64 a1_2, .slice A1_3 l1_3.length c1_3, .slice A1_4 l1_4.length c1_4] 64)) (.cells #[.int .i64 0, .int .i64 0] 72); simpa using this)
 have HB := Aside0.mk (show Below w.heap.size w (((w.alloc (.cells #[.int .i64 a0_0, .slice A0_1 l0_1.length c0_1, .int .i64 a0_2, .slice A0_3 l0_3.length c0_3, .slice A0_4 l0_4.length c0_4] 64)).alloc (.cells #[.int .i64 a1_0, .slice A1_1 l1_1.length c1_1, .int .i64 a1_2, .slice A1_3 l1_3.length c1_3, .slice A1_4 l1_4.length c1_4] 64)).alloc (.cells #[.int .i64 0, .int .i64 0] 72)) from below_alloc (below_alloc (below_alloc (Below.refl _ _) _) _) _)
 have hu64 := Tryd.underlying64
 have hu72 := Tryd.underlying72
 have hy0 := HK.out.c0
 have hy1 := HK.out.c1
 have hy2 := HK.out.c2
 have hy3 := HK.out.c3
 have hy4 := HK.out.c4
 have hz0 := HK2.out.c0
 have hz1 := HK2.out.c1
 have hz2 := HK2.out.c2
 have hz3 := HK2.out.c3
 have hz4 := HK2.out.c4
 have ho0 := blk_cell HO.out 0
 have ho1 := blk_cell HO.out 1
 have hf0 := blk_frozen HO.out 0
 have hf1 := blk_frozen HO.out 1
 clear hG hr0_1 hc0_1 hr0_3 hc0_3 hr0_4 hc0_4 hr1_1 hc1_1 hr1_3 hc1_3 hr1_4 hc1_4
 obtain ⟨⟨x1, x2⟩, hx, h⟩ := Option.bind_eq_some_iff.1 h
 dsimp only at h
 have HE := Aside0.mk hx
 clear hx
 go_enter Tryd.func48, Tryd.ntmps48
 go_upto_region 2 with (first | (go_at_call 46; (with_reducible refine (HK.out.rloss HE.out).mono ?_); rintro e w1 ⟨rfl, hb⟩; have HKn := Aside0.mk (HK.out.below hb); have HK2n := Aside0.mk (HK2.out.below hb); have HBn := Aside0.mk (below_step HB.out hb); have HOn := Aside0.mk (blk_below HO.out hb); clear HK HK2 HB HO hy0 hy1 hy2 hy3 hy4 hz0 hz1 hz2 hz3 hz4 ho0 ho1 hf0 hf1 hb; have HK := HKn; have HK2 := HK2n; have HB := HBn; have HO := HOn; clear HKn HK2n HBn HOn; have hy0 := HK.out.c0; have hy1 := HK.out.c1; have hy2 := HK.out.c2; have hy3 := HK.out.c3; have hy4 := HK.out.c4; have hz0 := HK2.out.c0; have hz1 := HK2.out.c1; have hz2 := HK2.out.c2; have hz3 := HK2.out.c3; have hz4 := HK2.out.c4; have ho0 := blk_cell HO.out 0; have ho1 := blk_cell HO.out 1; have hf0 := blk_frozen HO.out 0; have hf1 := blk_frozen HO.out 1; have HXO := Aside0.mk (show w.heap.size + 1 + 1 < w1.heap.size from blk_lt HO.out)))
 have HX := Aside0.mk (blk_new w1 (.cells #[.int .i64 x1, .int .i64 x2] 72))
 have hb := below_alloc (Below.refl w1.heap.size w1) (.cells #[.int .i64 x1, .int .i64 x2] 72)
 have HKn := Aside0.mk (HK.out.below hb)
 have HK2n := Aside0.mk (HK2.out.below hb)
 have HBn := Aside0.mk (below_step HB.out hb)
 have HOn := Aside0.mk (blk_below HO.out hb)
 clear HK HK2 HB HO hy0 hy1 hy2 hy3 hy4 hz0 hz1 hz2 hz3 hz4 ho0 ho1 hf0 hf1 hb
 have HK := HKn
 have HK2 := HK2n
 have HB := HBn
 have HO := HOn
 clear HKn HK2n HBn HOn
 have hy0 := HK.out.c0
 have hy1 := HK.out.c1
 have hy2 := HK.out.c2
 have hy3 := HK.out.c3
 have hy4 := HK.out.c4
 have hz0 := HK2.out.c0
 have hz1 := HK2.out.c1
 have hz2 := HK2.out.c2
 have hz3 := HK2.out.c3
 have hz4 := HK2.out.c4
 have ho0 := blk_cell HO.out 0
 have ho1 := blk_cell HO.out 1
 have hf0 := blk_frozen HO.out 0
 have hf1 := blk_frozen HO.out 1
 generalize w1.alloc (.cells #[.int .i64 x1, .int .i64 x2] 72) = wx at *
 have hxl := blk_lt HX.out
 have hxo : w.heap.size + 1 + 1 < w1.heap.size := HXO.out
 have hx0 := blk_cell HX.out 0
 have hx1 := blk_cell HX.out 1
 have hfx0 := blk_frozen HX.out 0
 have hfx1 := blk_frozen HX.out 1
 generalize w1.heap.size = gx at *
 by_cases hx2 : x2 = 0
 ·subst hx2
  rw [if_pos rfl] at h
  obtain ⟨⟨y1, y2⟩, hy, h⟩ := Option.bind_eq_some_iff.1 h
  dsimp only at h
  have HE2 := Aside0.mk hy
  clear hy
  go_upto_region 5 with (first | (go_at_call 46; (with_reducible refine (HK2.out.rloss HE2.out).mono ?_); rintro e w1 ⟨rfl, hb⟩; have HKn := Aside0.mk (HK.out.below hb); have HK2n := Aside0.mk (HK2.out.below hb); have HBn := Aside0.mk (below_step HB.out hb); have HOn := Aside0.mk (blk_below HO.out hb); have HXn := Aside0.mk (blk_below HX.out hb); clear HK HK2 HB HO HX hy0 hy1 hy2 hy3 hy4 hz0 hz1 hz2 hz3 hz4 ho0 ho1 hf0 hf1 hx0 hx1 hfx0 hfx1 hb; have HK := HKn; have HK2 := HK2n; have HB := HBn; have HO := HOn; have HX := HXn; clear HKn HK2n HBn HOn HXn; have hy0 := HK.out.c0; have hy1 := HK.out.c1; have hy2 := HK.out.c2; have hy3 := HK.out.c3; have hy4 := HK.out.c4; have hz0 := HK2.out.c0; have hz1 := HK2.out.c1; have hz2 := HK2.out.c2; have hz3 := HK2.out.c3; have hz4 := HK2.out.c4; have ho0 := blk_cell HO.out 0; have ho1 := blk_cell HO.out 1; have hf0 := blk_frozen HO.out 0; have hf1 := blk_frozen HO.out 1; have hx0 := blk_cell HX.out 0; have hx1 := blk_cell HX.out 1; have hfx0 := blk_frozen HX.out 0; have hfx1 := blk_frozen HX.out 1))
  have HY := Aside0.mk (blk_new w1 (.cells #[.int .i64 y1, .int .i64 y2] 72))
  have HYO := Aside0.mk (show gx < w1.heap.size from blk_lt HX.out)
  have hb := below_alloc (Below.refl w1.heap.size w1) (.cells #[.int .i64 y1, .int .i64 y2] 72)
  have HKn := Aside0.mk (HK.out.below hb)
  have HK2n := Aside0.mk (HK2.out.below hb)
  have HBn := Aside0.mk (below_step HB.out hb)
  have HOn := Aside0.mk (blk_below HO.out hb)
  have HXn := Aside0.mk (blk_below HX.out hb)
  clear HK HK2 HB HO HX hy0 hy1 hy2 hy3 hy4 hz0 hz1 hz2 hz3 hz4 ho0 ho1 hf0 hf1 hx0 hx1 hfx0 hfx1 hb
  have HK := HKn
  have HK2 := HK2n
  have HB := HBn
  have HO := HOn
  have HX := HXn
  clear HKn HK2n HBn HOn HXn
  have hy0 := HK.out.c0
  have hy1 := HK.out.c1
  have hy2 := HK.out.c2
  have hy3 := HK.out.c3
  have hy4 := HK.out.c4
  have hz0 := HK2.out.c0
  have hz1 := HK2.out.c1
  have hz2 := HK2.out.c2
  have hz3 := HK2.out.c3
  have hz4 := HK2.out.c4
  have ho0 := blk_cell HO.out 0
  have ho1 := blk_cell HO.out 1
  have hf0 := blk_frozen HO.out 0
  have hf1 := blk_frozen HO.out 1
  have hx0 := blk_cell HX.out 0
  have hx1 := blk_cell HX.out 1
  have hfx0 := blk_frozen HX.out 0
  have hfx1 := blk_frozen HX.out 1
  generalize w1.alloc (.cells #[.int .i64 y1, .int .i64 y2] 72) = wy at *
  have hyo := HYO.out
  have hv0 := blk_cell HY.out 0
  have hv1 := blk_cell HY.out 1
  have hfv0 := blk_frozen HY.out 0
  have hfv1 := blk_frozen HY.out 1
  generalize w1.heap.size = gy at *
  by_cases hy2 : y2 = 0
  ·subst hy2
   rw [if_pos rfl] at h
   by_cases hll : l0_4.length ≤ 1000 ∧ l1_4.length ≤ 1000
   ·rw [if_pos hll] at h
    obtain ⟨hl0, hl1⟩ := hll
    obtain ⟨p, hp, h⟩ := Option.bind_eq_some_iff.1 h
    obtain ⟨q, hq, h⟩ := Option.bind_eq_some_iff.1 h
    have HPP := Aside0.mk hp
    have HQQ := Aside0.mk hq
    clear hp hq
    have H := Aside0.mk h
    clear h
    go_upto_region 8 with fail
    rw [show (if l0_4.length < l1_4.length then (l1_4.length : Int) else (l0_4.length : Int)) = ((max l0_4.length l1_4.length : Nat) : Int) by split <;> omega]
    obtain ⟨mx, hmx⟩ : ∃ mx, mx = max l0_4.length l1_4.length := ⟨_, rfl⟩
    rw [← hmx] at HPP HQQ ⊢
    obtain ⟨da, hda⟩ : ∃ da : Nat, da = mx - l0_4.length := ⟨_, rfl⟩
    obtain ⟨db, hdb⟩ : ∃ db : Nat, db = mx - l1_4.length := ⟨_, rfl⟩
    rw [← hda] at HPP
    rw [← hdb] at HQQ
    have hwa : IntKind.i64.wrap ((mx : Int) - (l0_4.length : Int)) = (da : Int) := by rw [IntKind.wrap_i64]; omega
    have hwb : IntKind.i64.wrap ((mx : Int) - (l1_4.length : Int)) = (db : Int) := by rw [IntKind.wrap_i64]; omega
    clear hda hdb hmx
    have hb := below_drew (Below.refl wy.heap.size wy)
    have HKn := Aside0.mk (HK.out.below hb)
    have HK2n := Aside0.mk (HK2.out.below hb)
    have HBn := Aside0.mk (below_step HB.out hb)
    have HOn := Aside0.mk (blk_below HO.out hb)
    have HXn := Aside0.mk (blk_below HX.out hb)
    have HYn := Aside0.mk (blk_below HY.out hb)
    clear HK HK2 HB HO HX HY hy0 hy1 hy2 hy3 hy4 hz0 hz1 hz2 hz3 hz4 ho0 ho1 hf0 hf1 hx0 hx1 hfx0 hfx1 hv0 hv1 hfv0 hfv1 hb
    have HK := HKn
    have HK2 := HK2n
    have HB := HBn
    have HO := HOn
    have HX := HXn
    have HY := HYn
    clear HKn HK2n HBn HOn HXn HYn
    have hy0 := HK.out.c0
    have hy1 := HK.out.c1
    have hy2 := HK.out.c2
    have hy3 := HK.out.c3
    have hy4 := HK.out.c4
    have hz0 := HK2.out.c0
    have hz1 := HK2.out.c1
    have hz2 := HK2.out.c2
    have hz3 := HK2.out.c3
    have hz4 := HK2.out.c4
    have ho0 := blk_cell HO.out 0
    have ho1 := blk_cell HO.out 1
    have hf0 := blk_frozen HO.out 0
    have hf1 := blk_frozen HO.out 1
    have hx0 := blk_cell HX.out 0
    have hx1 := blk_cell HX.out 1
    have hfx0 := blk_frozen HX.out 0
    have hfx1 := blk_frozen HX.out 1
    have hv0 := blk_cell HY.out 0
    have hv1 := blk_cell HY.out 1
    have hfv0 := blk_frozen HY.out 0
    have hfv1 := blk_frozen HY.out 1
    refine start_ (n := 10) (S := fun w' => w'.cell? ⟨gx, 0, none⟩ = some (.int .i64 x1) ∧ w'.cell? ⟨w.heap.size, 4, none⟩ = some (.slice A0_4 l0_4.length c0_4)) (ds := []) #[false, false, false, false, false, false, false, false, false, false] (by kernel_rfl) rfl rfl ⟨hx0, hy4⟩ (fun hHeld => ?_)
    generalize wy.drew = wd at *
    refine pure_ (i := 0) (N := some 29) (v := ?_) (a' := ?_) #[true, false, false, false, false, false, false, false, false, false] rfl rfl (by kernel_rfl) (fun _ _ _ h => h) (Or.inl ⟨by rfl, ?_⟩) ?_ ?_
    rotate_left
    ·intro w'
     go_simp
     with_reducible rfl
    rotate_left
    ·simp only [Act.put, List.setIfInBounds_toArray, List.set_cons_zero, List.set_cons_succ, i64_w, i32_w]
     rfl
    refine pure_ (i := 2) (N := some 31) (v := ?_) (a' := ?_) #[true, false, true, false, false, false, false, false, false, false] rfl rfl (by kernel_rfl) (fun _ _ _ h => h) (Or.inl ⟨by rfl, ?_⟩) ?_ ?_
    rotate_left
    ·intro w'
     go_simp
     with_reducible rfl
    rotate_left
    ·simp only [Act.put, List.setIfInBounds_toArray, List.set_cons_zero, List.set_cons_succ, i64_w, i32_w]
     rfl
    refine pure_ (i := 3) (N := some 32) (v := ?_) (a' := ?_) #[true, false, true, true, false, false, false, false, false, false] rfl rfl (by kernel_rfl) (fun _ _ _ h => h) (Or.inl ⟨by rfl, ?_⟩) ?_ ?_
    rotate_left
    ·intro w'
     go_simp
     with_reducible rfl
    rotate_left
    ·simp only [Act.put, List.setIfInBounds_toArray, List.set_cons_zero, List.set_cons_succ, i64_w, i32_w]
     rfl
    refine take_ (i := 1) (N := some 30) (v := ?_) (a' := ?_) #[true, true, true, true, false, false, false, false, false, false] rfl rfl (by kernel_rfl) (fun _ _ _ h => h) (Or.inl ⟨by rfl, ?_⟩) hHeld ?_ ?_
    rotate_left
    ·rintro w' ⟨s0, s1⟩
     go_simp
     with_reducible rfl
    rotate_left
    ·simp only [Act.put, List.setIfInBounds_toArray, List.set_cons_zero, List.set_cons_succ, i64_w, i32_w]
     rfl
    refine take_ (i := 4) (N := some 33) (v := ?_) (a' := ?_) #[true, true, true, true, true, false, false, false, false, false] rfl rfl (by kernel_rfl) (fun _ _ _ h => h) (Or.inl ⟨by rfl, ?_⟩) hHeld ?_ ?_
    rotate_left
    ·rintro w' ⟨s0, s1⟩
     go_simp
     with_reducible rfl
    rotate_left
    ·simp only [Act.put, List.setIfInBounds_toArray, List.set_cons_zero, List.set_cons_succ, i64_w, i32_w]
     rfl
    refine pure_ (i := 5) (N := some 34) (v := ?_) (a' := ?_) #[true, true, true, true, true, true, false, false, false, false] rfl rfl (by kernel_rfl) (fun _ _ _ h => h) (Or.inl ⟨by rfl, ?_⟩) ?_ ?_
    rotate_left
    ·intro w'
     go_simp
     with_reducible rfl
    rotate_left
    ·simp only [Act.put, List.setIfInBounds_toArray, List.set_cons_zero, List.set_cons_succ, i64_w, i32_w]
     rfl
    refine pure_ (i := 6) (N := some 35) (v := ?_) (a' := ?_) #[true, true, true, true, true, true, true, false, false, false] rfl rfl (by kernel_rfl) (fun _ _ _ h => h) (Or.inl ⟨by rfl, ?_⟩) ?_ ?_
    rotate_left
    ·intro w'
     go_simp
     with_reducible rfl
    rotate_left
    ·simp only [Act.put, List.setIfInBounds_toArray, List.set_cons_zero, List.set_cons_succ, i64_w, i32_w]
     rfl
    refine one_ (i := 7) (N := some 36) #[true, true, true, true, true, true, true, true, false, false] rfl rfl (by kernel_rfl) (by decide) (fun K hK => ?_)
    refine goes_ Tryd.func51 (by kernel_rfl) rfl #[.int .i64 (da : Int)] (by rfl) rfl rfl (by simp only [List.map_toArray, List.map_cons, List.map_nil]; rfl) ?_
    with_reducible refine (quietusref12_Power.calls k (da : Int) p _ HK.out.hg HPP.out).mono ?_
    rintro e w4 ⟨rfl, hd⟩
    refine ⟨_, rfl, ?_⟩
    have hb := hd.below
    clear hd
    have HKn := Aside0.mk (HK.out.below hb)
    have HK2n := Aside0.mk (HK2.out.below hb)
    have HBn := Aside0.mk (below_step HB.out hb)
    have HOn := Aside0.mk (blk_below HO.out hb)
    have HXn := Aside0.mk (blk_below HX.out hb)
    have HYn := Aside0.mk (blk_below HY.out hb)
    clear HK HK2 HB HO HX HY hy0 hy1 hy2 hy3 hy4 hz0 hz1 hz2 hz3 hz4 ho0 ho1 hf0 hf1 hx0 hx1 hfx0 hfx1 hv0 hv1 hfv0 hfv1 hb
    have HK := HKn
    have HK2 := HK2n
    have HB := HBn
    have HO := HOn
    have HX := HXn
    have HY := HYn
    clear HKn HK2n HBn HOn HXn HYn
    have hy0 := HK.out.c0
    have hy1 := HK.out.c1
    have hy2 := HK.out.c2
    have hy3 := HK.out.c3
    have hy4 := HK.out.c4
    have hz0 := HK2.out.c0
    have hz1 := HK2.out.c1
    have hz2 := HK2.out.c2
    have hz3 := HK2.out.c3
    have hz4 := HK2.out.c4
    have ho0 := blk_cell HO.out 0
    have ho1 := blk_cell HO.out 1
    have hf0 := blk_frozen HO.out 0
    have hf1 := blk_frozen HO.out 1
    have hx0 := blk_cell HX.out 0
    have hx1 := blk_cell HX.out 1
    have hfx0 := blk_frozen HX.out 0
    have hfx1 := blk_frozen HX.out 1
    have hv0 := blk_cell HY.out 0
    have hv1 := blk_cell HY.out 1
    have hfv0 := blk_frozen HY.out 0
    have hfv1 := blk_frozen HY.out 1
    refine hK.out _ _ ⟨hx0, hy4⟩ (fun hHeld => ?_)
    clear hK K
    refine norm_ (a' := ?_) ?_ ?_
    rotate_left
    ·show Act.put _ (some 36) _ = _
     simp only [Act.put, List.setIfInBounds_toArray, List.set_cons_zero, List.set_cons_succ, i64_w, i32_w]
     rfl
    refine pure_ (i := 8) (N := some 37) (v := ?_) (a' := ?_) #[true, true, true, true, true, true, true, true, true, false] rfl rfl (by kernel_rfl) (fun _ _ _ h => h) (Or.inl ⟨by rfl, ?_⟩) ?_ ?_
    rotate_left
    ·intro w'
     go_simp
     with_reducible rfl
    rotate_left
    ·simp only [Act.put, List.setIfInBounds_toArray, List.set_cons_zero, List.set_cons_succ, i64_w, i32_w]
     rfl
    refine pure_ (i := 9) (N := some 8) (v := ?_) (a' := ?_) #[true, true, true, true, true, true, true, true, true, true] rfl rfl (by kernel_rfl) (fun _ _ _ h => h) (Or.inl ⟨by rfl, ?_⟩) ?_ ?_
    rotate_left
    ·intro w'
     go_simp
     with_reducible rfl
    rotate_left
    ·simp only [Act.put, List.setIfInBounds_toArray, List.set_cons_zero, List.set_cons_succ, i64_w, i32_w]
     rfl
    refine done_ (by kernel_rfl) ?_
    go_upto_region 9 with fail
    have hb := below_drew (Below.refl w4.heap.size w4)
    have HKn := Aside0.mk (HK.out.below hb)
    have HK2n := Aside0.mk (HK2.out.below hb)
    have HBn := Aside0.mk (below_step HB.out hb)
    have HOn := Aside0.mk (blk_below HO.out hb)
    have HXn := Aside0.mk (blk_below HX.out hb)
    have HYn := Aside0.mk (blk_below HY.out hb)
    clear HK HK2 HB HO HX HY hy0 hy1 hy2 hy3 hy4 hz0 hz1 hz2 hz3 hz4 ho0 ho1 hf0 hf1 hx0 hx1 hfx0 hfx1 hv0 hv1 hfv0 hfv1 hb
    have HK := HKn
    have HK2 := HK2n
    have HB := HBn
    have HO := HOn
    have HX := HXn
    have HY := HYn
    clear HKn HK2n HBn HOn HXn HYn
    have hy0 := HK.out.c0
    have hy1 := HK.out.c1
    have hy2 := HK.out.c2
    have hy3 := HK.out.c3
    have hy4 := HK.out.c4
    have hz0 := HK2.out.c0
    have hz1 := HK2.out.c1
    have hz2 := HK2.out.c2
    have hz3 := HK2.out.c3
    have hz4 := HK2.out.c4
    have ho0 := blk_cell HO.out 0
    have ho1 := blk_cell HO.out 1
    have hf0 := blk_frozen HO.out 0
    have hf1 := blk_frozen HO.out 1
    have hx0 := blk_cell HX.out 0
    have hx1 := blk_cell HX.out 1
    have hfx0 := blk_frozen HX.out 0
    have hfx1 := blk_frozen HX.out 1
    have hv0 := blk_cell HY.out 0
    have hv1 := blk_cell HY.out 1
    have hfv0 := blk_frozen HY.out 0
    have hfv1 := blk_frozen HY.out 1
    refine start_ (n := 10) (S := fun w' => w'.cell? ⟨gy, 0, none⟩ = some (.int .i64 y1) ∧ w'.cell? ⟨w.heap.size + 1, 4, none⟩ = some (.slice A1_4 l1_4.length c1_4)) (ds := []) #[false, false, false, false, false, false, false, false, false, false] (by kernel_rfl) rfl rfl ⟨hv0, hz4⟩ (fun hHeld => ?_)
    generalize w4.drew = wd4 at *
    refine pure_ (i := 0) (N := some 38) (v := ?_) (a' := ?_) #[true, false, false, false, false, false, false, false, false, false] rfl rfl (by kernel_rfl) (fun _ _ _ h => h) (Or.inl ⟨by rfl, ?_⟩) ?_ ?_
    rotate_left
    ·intro w'
     go_simp
     with_reducible rfl
    rotate_left
    ·simp only [Act.put, List.setIfInBounds_toArray, List.set_cons_zero, List.set_cons_succ, i64_w, i32_w]
     rfl
    refine pure_ (i := 2) (N := some 40) (v := ?_) (a' := ?_) #[true, false, true, false, false, false, false, false, false, false] rfl rfl (by kernel_rfl) (fun _ _ _ h => h) (Or.inl ⟨by rfl, ?_⟩) ?_ ?_
    rotate_left
    ·intro w'
     go_simp
     with_reducible rfl
    rotate_left
    ·simp only [Act.put, List.setIfInBounds_toArray, List.set_cons_zero, List.set_cons_succ, i64_w, i32_w]
     rfl
    refine pure_ (i := 3) (N := some 41) (v := ?_) (a' := ?_) #[true, false, true, true, false, false, false, false, false, false] rfl rfl (by kernel_rfl) (fun _ _ _ h => h) (Or.inl ⟨by rfl, ?_⟩) ?_ ?_
    rotate_left
    ·intro w'
     go_simp
     with_reducible rfl
    rotate_left
    ·simp only [Act.put, List.setIfInBounds_toArray, List.set_cons_zero, List.set_cons_succ, i64_w, i32_w]
     rfl
    refine take_ (i := 1) (N := some 39) (v := ?_) (a' := ?_) #[true, true, true, true, false, false, false, false, false, false] rfl rfl (by kernel_rfl) (fun _ _ _ h => h) (Or.inl ⟨by rfl, ?_⟩) hHeld ?_ ?_
    rotate_left
    ·rintro w' ⟨s0, s1⟩
     go_simp
     with_reducible rfl
    rotate_left
    ·simp only [Act.put, List.setIfInBounds_toArray, List.set_cons_zero, List.set_cons_succ, i64_w, i32_w]
     rfl
    refine take_ (i := 4) (N := some 42) (v := ?_) (a' := ?_) #[true, true, true, true, true, false, false, false, false, false] rfl rfl (by kernel_rfl) (fun _ _ _ h => h) (Or.inl ⟨by rfl, ?_⟩) hHeld ?_ ?_
    rotate_left
    ·rintro w' ⟨s0, s1⟩
     go_simp
     with_reducible rfl
    rotate_left
    ·simp only [Act.put, List.setIfInBounds_toArray, List.set_cons_zero, List.set_cons_succ, i64_w, i32_w]
     rfl
    refine pure_ (i := 5) (N := some 43) (v := ?_) (a' := ?_) #[true, true, true, true, true, true, false, false, false, false] rfl rfl (by kernel_rfl) (fun _ _ _ h => h) (Or.inl ⟨by rfl, ?_⟩) ?_ ?_
    rotate_left
    ·intro w'
     go_simp
     with_reducible rfl
    rotate_left
    ·simp only [Act.put, List.setIfInBounds_toArray, List.set_cons_zero, List.set_cons_succ, i64_w, i32_w]
     rfl
    refine pure_ (i := 6) (N := some 44) (v := ?_) (a' := ?_) #[true, true, true, true, true, true, true, false, false, false] rfl rfl (by kernel_rfl) (fun _ _ _ h => h) (Or.inl ⟨by rfl, ?_⟩) ?_ ?_
    rotate_left
    ·intro w'
     go_simp
     with_reducible rfl
    rotate_left
    ·simp only [Act.put, List.setIfInBounds_toArray, List.set_cons_zero, List.set_cons_succ, i64_w, i32_w]
     rfl
    refine one_ (i := 7) (N := some 45) #[true, true, true, true, true, true, true, true, false, false] rfl rfl (by kernel_rfl) (by decide) (fun K hK => ?_)
    refine goes_ Tryd.func51 (by kernel_rfl) rfl #[.int .i64 (db : Int)] (by rfl) rfl rfl (by simp only [List.map_toArray, List.map_cons, List.map_nil]; rfl) ?_
    with_reducible refine (quietusref12_Power.calls k (db : Int) q _ HK.out.hg HQQ.out).mono ?_
    rintro e w5 ⟨rfl, hd⟩
    refine ⟨_, rfl, ?_⟩
    have hb := hd.below
    clear hd
    have HKn := Aside0.mk (HK.out.below hb)
    have HK2n := Aside0.mk (HK2.out.below hb)
    have HBn := Aside0.mk (below_step HB.out hb)
    have HOn := Aside0.mk (blk_below HO.out hb)
    have HXn := Aside0.mk (blk_below HX.out hb)
    have HYn := Aside0.mk (blk_below HY.out hb)
    clear HK HK2 HB HO HX HY hy0 hy1 hy2 hy3 hy4 hz0 hz1 hz2 hz3 hz4 ho0 ho1 hf0 hf1 hx0 hx1 hfx0 hfx1 hv0 hv1 hfv0 hfv1 hb
    have HK := HKn
    have HK2 := HK2n
    have HB := HBn
    have HO := HOn
    have HX := HXn
    have HY := HYn
    clear HKn HK2n HBn HOn HXn HYn
    have hy0 := HK.out.c0
    have hy1 := HK.out.c1
    have hy2 := HK.out.c2
    have hy3 := HK.out.c3
    have hy4 := HK.out.c4
    have hz0 := HK2.out.c0
    have hz1 := HK2.out.c1
    have hz2 := HK2.out.c2
    have hz3 := HK2.out.c3
    have hz4 := HK2.out.c4
    have ho0 := blk_cell HO.out 0
    have ho1 := blk_cell HO.out 1
    have hf0 := blk_frozen HO.out 0
    have hf1 := blk_frozen HO.out 1
    have hx0 := blk_cell HX.out 0
    have hx1 := blk_cell HX.out 1
    have hfx0 := blk_frozen HX.out 0
    have hfx1 := blk_frozen HX.out 1
    have hv0 := blk_cell HY.out 0
    have hv1 := blk_cell HY.out 1
    have hfv0 := blk_frozen HY.out 0
    have hfv1 := blk_frozen HY.out 1
    refine hK.out _ _ ⟨hv0, hz4⟩ (fun hHeld => ?_)
    clear hK K
    refine norm_ (a' := ?_) ?_ ?_
    rotate_left
    ·show Act.put _ (some 45) _ = _
     simp only [Act.put, List.setIfInBounds_toArray, List.set_cons_zero, List.set_cons_succ, i64_w, i32_w]
     rfl
    refine pure_ (i := 8) (N := some 46) (v := ?_) (a' := ?_) #[true, true, true, true, true, true, true, true, true, false] rfl rfl (by kernel_rfl) (fun _ _ _ h => h) (Or.inl ⟨by rfl, ?_⟩) ?_ ?_
    rotate_left
    ·intro w'
     go_simp
     with_reducible rfl
    rotate_left
    ·simp only [Act.put, List.setIfInBounds_toArray, List.set_cons_zero, List.set_cons_succ, i64_w, i32_w]
     rfl
    refine pure_ (i := 9) (N := some 9) (v := ?_) (a' := ?_) #[true, true, true, true, true, true, true, true, true, true] rfl rfl (by kernel_rfl) (fun _ _ _ h => h) (Or.inl ⟨by rfl, ?_⟩) ?_ ?_
    rotate_left
    ·intro w'
     go_simp
     with_reducible rfl
    rotate_left
    ·simp only [Act.put, List.setIfInBounds_toArray, List.set_cons_zero, List.set_cons_succ, i64_w, i32_w]
     rfl
    refine done_ (by kernel_rfl) ?_
    go_upto_region 10 with fail
    have H2 := H.out
    by_cases hlt : wrap64 (x1 * p) < wrap64 (y1 * q)
    ·rw [if_pos hlt] at H2
     obtain ⟨rfl, rfl⟩ := Prod.mk.inj (Option.some.inj H2)
     have c1 : decide (wrap64 (x1 * p) < wrap64 (y1 * q)) = true := decide_eq_true hlt
     clear hlt H2
     go_wp2
     refine bodyPost_ret (results_cell_row rfl _ _ (w.heap.size + 1 + 1) 72 #[.int .i64 (-1), .int .i64 0] (0, 0) _ rfl (by (with_reducible repeat (first | refine blk_drewN ?_ _ | refine blk_drew ?_ | refine blk_alloc ?_ _)); refine blk_put (cs := #[.int .i64 (-1), .int .i64 0]) ?_ 1 _ rfl; (with_reducible repeat (first | refine blk_drewN ?_ _ | refine blk_drew ?_ | refine blk_alloc ?_ _)); refine blk_put (cs := #[.int .i64 0, .int .i64 0]) ?_ 0 _ rfl; (with_reducible repeat (first | refine blk_drewN ?_ _ | refine blk_drew ?_ | refine blk_alloc ?_ _)); exact HO.out) Tryd.underlying72 rfl (by kernel_rfl)) rfl ?_
     exact ⟨rfl, below_set (below_set HB.out (by omega)) (by omega)⟩
    ·rw [if_neg hlt] at H2
     have c1 : decide (wrap64 (x1 * p) < wrap64 (y1 * q)) = false := decide_eq_false hlt
     by_cases hgt : wrap64 (y1 * q) < wrap64 (x1 * p)
     ·rw [if_pos hgt] at H2
      obtain ⟨rfl, rfl⟩ := Prod.mk.inj (Option.some.inj H2)
      have c2 : decide (wrap64 (y1 * q) < wrap64 (x1 * p)) = true := decide_eq_true hgt
      clear hlt H2 hgt
      go_wp2
      refine bodyPost_ret (results_cell_row rfl _ _ (w.heap.size + 1 + 1) 72 #[.int .i64 1, .int .i64 0] (0, 0) _ rfl (by (with_reducible repeat (first | refine blk_drewN ?_ _ | refine blk_drew ?_ | refine blk_alloc ?_ _)); refine blk_put (cs := #[.int .i64 1, .int .i64 0]) ?_ 1 _ rfl; (with_reducible repeat (first | refine blk_drewN ?_ _ | refine blk_drew ?_ | refine blk_alloc ?_ _)); refine blk_put (cs := #[.int .i64 0, .int .i64 0]) ?_ 0 _ rfl; (with_reducible repeat (first | refine blk_drewN ?_ _ | refine blk_drew ?_ | refine blk_alloc ?_ _)); exact HO.out) Tryd.underlying72 rfl (by kernel_rfl)) rfl ?_
      exact ⟨rfl, below_set (below_set HB.out (by omega)) (by omega)⟩
     ·rw [if_neg hgt] at H2
      obtain ⟨rfl, rfl⟩ := Prod.mk.inj (Option.some.inj H2)
      have c2 : decide (wrap64 (y1 * q) < wrap64 (x1 * p)) = false := decide_eq_false hgt
      clear hlt H2 hgt
      go_wp2
      refine bodyPost_ret (results_cell_row rfl _ _ (w.heap.size + 1 + 1) 72 #[.int .i64 0, .int .i64 0] (0, 0) _ rfl (by (with_reducible repeat (first | refine blk_drewN ?_ _ | refine blk_drew ?_ | refine blk_alloc ?_ _)); refine blk_put (cs := #[.int .i64 0, .int .i64 0]) ?_ 1 _ rfl; (with_reducible repeat (first | refine blk_drewN ?_ _ | refine blk_drew ?_ | refine blk_alloc ?_ _)); refine blk_put (cs := #[.int .i64 0, .int .i64 0]) ?_ 0 _ rfl; (with_reducible repeat (first | refine blk_drewN ?_ _ | refine blk_drew ?_ | refine blk_alloc ?_ _)); exact HO.out) Tryd.underlying72 rfl (by kernel_rfl)) rfl ?_
      exact ⟨rfl, below_set (below_set HB.out (by omega)) (by omega)⟩
   ·rw [if_neg hll] at h; cases h
  ·rw [if_neg hy2] at h
   obtain ⟨rfl, rfl⟩ := Prod.mk.inj (Option.some.inj h)
   have c1 : (y2 == 0) = false := beq_eq_false_iff_ne.2 hy2
   have c2 : (y2 != 0) = true := bne_iff_ne.2 hy2
   clear hy2 h
   go_wp2
   refine bodyPost_ret (results_cell_row rfl _ _ (w.heap.size + 1 + 1) 72 #[.int .i64 y1, .int .i64 y2] (0, 0) _ rfl (by (with_reducible repeat (first | refine blk_drewN ?_ _ | refine blk_drew ?_ | refine blk_alloc ?_ _)); refine blk_put (cs := #[.int .i64 y1, .int .i64 0]) ?_ 1 _ rfl; (with_reducible repeat (first | refine blk_drewN ?_ _ | refine blk_drew ?_ | refine blk_alloc ?_ _)); refine blk_put (cs := #[.int .i64 0, .int .i64 0]) ?_ 0 _ rfl; (with_reducible repeat (first | refine blk_drewN ?_ _ | refine blk_drew ?_ | refine blk_alloc ?_ _)); exact HO.out) Tryd.underlying72 rfl (by kernel_rfl)) rfl ?_
   exact ⟨rfl, below_set (below_set HB.out (by omega)) (by omega)⟩
 ·rw [if_neg hx2] at h
  obtain ⟨rfl, rfl⟩ := Prod.mk.inj (Option.some.inj h)
  have c1 : (x2 == 0) = false := beq_eq_false_iff_ne.2 hx2
  have c2 : (x2 != 0) = true := bne_iff_ne.2 hx2
  clear hx2 h
  go_wp2
  refine bodyPost_ret (results_cell_row rfl _ _ (w.heap.size + 1 + 1) 72 #[.int .i64 x1, .int .i64 x2] (0, 0) _ rfl (by (with_reducible repeat (first | refine blk_drewN ?_ _ | refine blk_drew ?_ | refine blk_alloc ?_ _)); refine blk_put (cs := #[.int .i64 x1, .int .i64 0]) ?_ 1 _ rfl; (with_reducible repeat (first | refine blk_drewN ?_ _ | refine blk_drew ?_ | refine blk_alloc ?_ _)); refine blk_put (cs := #[.int .i64 0, .int .i64 0]) ?_ 0 _ rfl; (with_reducible repeat (first | refine blk_drewN ?_ _ | refine blk_drew ?_ | refine blk_alloc ?_ _)); exact HO.out) Tryd.underlying72 rfl (by kernel_rfl)) rfl ?_
  exact ⟨rfl, below_set (below_set HB.out (by omega)) (by omega)⟩


/-! ### quietuslaw12_example: function 76 -/
def quietuslaw12_example.f  : Option (Int × (List (List Int)) × Int × List Int × List Int) := some (2, ([] : List (List Int)), 1, (([0, 1, 2] : List Int)), (([1, 2, 4] : List Int)))
set_option maxHeartbeats 8000000 in
set_option maxRecDepth 100000 in
theorem quietuslaw12_example.calls  (r1 : Int) (r2 : List (List Int)) (r3 : Int) (r4 : List Int) (r5 : List Int) (w : World) (hG : HG w) (h : quietuslaw12_example.f  = some (r1, r2, r3, r4, r5)) :
  Calls Tryd.prog 76 #[] w fun e w' => ∃ v1_ v3_ v4_ : Value, e = .returned (.agg #[.int .i64 r1, v1_, .int .i64 r3, v3_, v4_]) ∧ Kd.S (Kd.slice 3 (Kd.int .i64)) 60 w' w.heap.size (fun k_ => some k_ ≠ (v3_ : Value).ownBlock ∧ some k_ ≠ (v4_ : Value).ownBlock) v1_ r2 ∧ Kd.R (Kd.int .i64) 3 w' w.heap.size (fun k_ => some k_ ≠ (v4_ : Value).ownBlock) v3_ r4 ∧ Kd.R (Kd.int .i64) 3 w' w.heap.size (fun k_ => some k_ ≠ (v3_ : Value).ownBlock) v4_ r5 ∧ Below w.heap.size w w' := by
 have HGw := Aside0.mk hG
 clear hG
 have hu64 := Tryd.underlying64
 have hu24 := Tryd.underlying24
 have HB := Aside0.mk (Below.refl w.heap.size w)
 have H : (some (2, ([] : List (List Int)), 1, (([0, 1, 2] : List Int)), (([1, 2, 4] : List Int)))) = some (r1, r2, r3, r4, r5) := h
 clear h
 obtain ⟨y282, hy282⟩ : ∃ y_ : List Int, y_ = (([0, 1, 2] : List Int)) := ⟨_, rfl⟩
 replace H : (some (2, ([] : List (List Int)), 1, y282, (([1, 2, 4] : List Int)))) = some (r1, r2, r3, r4, r5) := by first | (rw [hy282]; with_reducible exact H) | (have H2_ := (Option.bind_some _ _).symm.trans H; rw [hy282]; with_reducible exact H2_) | (have H2_ := (Option.bind_some _ _).symm.trans H; with_reducible exact H2_) | with_reducible exact H | (rw [hy282]; exact H) | exact H
 have Ny282 := Aside0.mk hy282
 clear hy282
 obtain ⟨y285, hy285⟩ : ∃ y_ : List Int, y_ = (([1, 2, 4] : List Int)) := ⟨_, rfl⟩
 replace H : (some (2, ([] : List (List Int)), 1, y282, y285)) = some (r1, r2, r3, r4, r5) := by first | (rw [hy285]; with_reducible exact H) | (have H2_ := (Option.bind_some _ _).symm.trans H; rw [hy285]; with_reducible exact H2_) | (have H2_ := (Option.bind_some _ _).symm.trans H; with_reducible exact H2_) | with_reducible exact H | (rw [hy285]; exact H) | exact H
 have Ny285 := Aside0.mk hy285
 clear hy285
 simp only [Option.some.injEq, Prod.mk.injEq] at H
 obtain ⟨rfl, rfl, rfl, rfl, rfl⟩ := H
 go_enter Tryd.func76, Tryd.ntmps76
 go_wp2_with (first | ((with_reducible refine gate_dst (N := 0) rfl ?_); refine box_event ?hg (N := 0) ?hd (cs := #[.int .i64 0, .slice none 0 0, .int .i64 0, .slice none 0 0, .slice none 0 0]) (t := 64) ?hr ?_; (case hd => rfl); (case hg => rfl); (case hr => first | (go_simp; done) | (go_simp; rfl)); intro gb281 hg w1 hbox hb; have n0_ := Aside0.mk (below_step (by repeat (first | (with_reducible first | exact HB.out | apply below_alloc | apply pw_below_drewN | apply below_drew1) | exact HB.out)) hb); have n1_ := Aside0.mk (hbox); have n2_ := Aside0.mk ((by rw [hg]; exact (below_size (by repeat (first | (with_reducible first | exact HB.out | apply below_alloc | apply pw_below_drewN | apply below_drew1) | exact HB.out))) : w.heap.size ≤ gb281)); have n3_ := Aside0.mk ((by rw [hg]; exact (below_size (by repeat (first | (with_reducible first | exact HB.out | apply below_alloc | apply pw_below_drewN | apply below_drew1) | exact HB.out))) : w.heap.size ≤ gb281)); clear HB; have HB := n0_; have BK281 := n1_; have GW281 := n2_; have GE281 := n3_; clear n0_ n1_ n2_ n3_; clear hb hbox hg) | ((with_reducible refine gate_dst (N := 2) rfl ?_); refine Kd.R_lit (Kd.int .i64) _ 3 ?hg (N := 2) ?hd (xs := ([0, 1, 2] : List Int)) (inner := [.int .i64 0, .int .i64 1, .int .i64 2]) (ok := fun _ => True) (okp := fun _ => True) ?hr ?hp (fun _ hk => hk) trivial (Below.refl _ _) (Nat.le_refl _) (by simp) ?_; (case hd => rfl); (case hg => rfl); (case hr => first | (go_simp; done) | (go_simp; rfl)); (case hp => exact (Reps.one (show Kd.M (Kd.int .i64) _ _ _ 0 [.int .i64 0] from rfl) (Reps.one (show Kd.M (Kd.int .i64) _ _ _ 1 [.int .i64 1] from rfl) (Reps.one (show Kd.M (Kd.int .i64) _ _ _ 2 [.int .i64 2] from rfl) (Reps.none _ _))))); intro v283 w2 ho3 hb hg_ hnew_; clear hg_ hnew_; (first | rw [← Ny282.out] at ho3 | (simp only [Int.reduceToNat] at ho3; rw [← Ny282.out] at ho3)); have n0_ := Aside0.mk (Kd.R_lower ho3 (below_size (by repeat (first | (with_reducible first | exact HB.out | apply below_alloc | apply pw_below_drewN | apply below_drew1 | refine below_set ?_ GE281.out) | exact HB.out)))); have n1_ := Aside0.mk (blk_below (g := gb281) (o := .cells #[.int .i64 0, .slice none 0 0, .int .i64 0, .slice none 0 0, .slice none 0 0] 64 (0, 0)) (by (with_reducible repeat (first | refine blk_drewN ?_ _ | refine blk_drew ?_ | refine blk_alloc ?_ _)); exact BK281.out) hb); have n2_ := Aside0.mk (below_step (by repeat (first | (with_reducible first | exact HB.out | apply below_alloc | apply pw_below_drewN | apply below_drew1 | refine below_set ?_ GE281.out) | exact HB.out)) hb); clear BK281; clear HB; have HO284 := n0_; have BK281 := n1_; have HB := n2_; clear n0_ n1_ n2_; clear hb ho3) | ((with_reducible refine gate_dst (N := 3) rfl ?_); refine Kd.R_lit (Kd.int .i64) _ 3 ?hg (N := 3) ?hd (xs := ([1, 2, 4] : List Int)) (inner := [.int .i64 1, .int .i64 2, .int .i64 4]) (ok := fun _ => True) (okp := fun _ => True) ?hr ?hp (fun _ hk => hk) trivial (Below.refl _ _) (Nat.le_refl _) (by simp) ?_; (case hd => rfl); (case hg => rfl); (case hr => first | (go_simp; done) | (go_simp; rfl)); (case hp => exact (Reps.one (show Kd.M (Kd.int .i64) _ _ _ 1 [.int .i64 1] from rfl) (Reps.one (show Kd.M (Kd.int .i64) _ _ _ 2 [.int .i64 2] from rfl) (Reps.one (show Kd.M (Kd.int .i64) _ _ _ 4 [.int .i64 4] from rfl) (Reps.none _ _))))); intro v286 w4 ho5 hb hg_ hnew_; clear hg_ hnew_; (first | rw [← Ny285.out] at ho5 | (simp only [Int.reduceToNat] at ho5; rw [← Ny285.out] at ho5)); have n0_ := Aside0.mk (Kd.R_elder' (by (with_reducible repeat (first | apply Kd.R_alloc | apply Kd.R_drewN | apply Kd.R_drew)); exact HO284.out) (Kd.R_base ho5) hb); have n1_ := Aside0.mk (Kd.R_lower (Kd.R_new' ho5 (Kd.R_lt (by (with_reducible repeat (first | apply Kd.R_alloc | apply Kd.R_drewN | apply Kd.R_drew)); exact HO284.out))) (below_size (by repeat (first | (with_reducible first | exact HB.out | apply below_alloc | apply pw_below_drewN | apply below_drew1 | refine below_set ?_ GE281.out) | exact HB.out)))); have n2_ := Aside0.mk (blk_below (g := gb281) (o := .cells #[.int .i64 0, .slice none 0 0, .int .i64 0, .slice none 0 0, .slice none 0 0] 64 (0, 0)) (by (with_reducible repeat (first | refine blk_drewN ?_ _ | refine blk_drew ?_ | refine blk_alloc ?_ _)); exact BK281.out) hb); have n3_ := Aside0.mk (below_step (by repeat (first | (with_reducible first | exact HB.out | apply below_alloc | apply pw_below_drewN | apply below_drew1 | refine below_set ?_ GE281.out) | exact HB.out)) hb); clear HO284; clear BK281; clear HB; have HO284 := n0_; have HO287 := n1_; have BK281 := n2_; have HB := n3_; clear n0_ n1_ n2_ n3_; clear hb ho5; obtain ⟨Ao6, co6, eo6⟩ := Kd.R_slice HO287.out; subst eo6; obtain ⟨Ao7, co7, eo7⟩ := Kd.R_slice HO284.out; subst eo7; have hcz8_0 : w4.cell? ⟨gb281, 0, none⟩ = some (.int .i64 0) := (blk_cell BK281.out 0).trans rfl; have hcz8_1 : w4.cell? ⟨gb281, 1, none⟩ = some (.slice none 0 0) := (blk_cell BK281.out 1).trans rfl; have hcz8_2 : w4.cell? ⟨gb281, 2, none⟩ = some (.int .i64 0) := (blk_cell BK281.out 2).trans rfl; have hcz8_3 : w4.cell? ⟨gb281, 3, none⟩ = some (.slice none 0 0) := (blk_cell BK281.out 3).trans rfl; have hcz8_4 : w4.cell? ⟨gb281, 4, none⟩ = some (.slice none 0 0) := (blk_cell BK281.out 4).trans rfl; have hfz8_0 := blk_frozen BK281.out 0; have hfz8_1 := blk_frozen BK281.out 1; have hfz8_2 := blk_frozen BK281.out 2; have hfz8_3 := blk_frozen BK281.out 3; have hfz8_4 := blk_frozen BK281.out 4))
 refine bodyPost_ret (results_cell_row rfl _ _ gb281 64 #[.int .i64 2, .slice none 0 0, .int .i64 1, .slice Ao7 y282.length co7, .slice Ao6 y285.length co6] (0, 0) _ rfl (by (with_reducible repeat (first | refine blk_drewN ?_ _ | refine blk_drew ?_ | refine blk_alloc ?_ _)); refine blk_put (cs := #[.int .i64 2, .slice none 0 0, .int .i64 1, .slice Ao7 y282.length co7, .slice none 0 0]) ?_ 4 _ rfl; (with_reducible repeat (first | refine blk_drewN ?_ _ | refine blk_drew ?_ | refine blk_alloc ?_ _)); refine blk_put (cs := #[.int .i64 2, .slice none 0 0, .int .i64 1, .slice none 0 0, .slice none 0 0]) ?_ 3 _ rfl; (with_reducible repeat (first | refine blk_drewN ?_ _ | refine blk_drew ?_ | refine blk_alloc ?_ _)); refine blk_put (cs := #[.int .i64 2, .slice none 0 0, .int .i64 0, .slice none 0 0, .slice none 0 0]) ?_ 2 _ rfl; (with_reducible repeat (first | refine blk_drewN ?_ _ | refine blk_drew ?_ | refine blk_alloc ?_ _)); refine blk_put (cs := #[.int .i64 2, .slice none 0 0, .int .i64 0, .slice none 0 0, .slice none 0 0]) ?_ 1 _ rfl; (with_reducible repeat (first | refine blk_drewN ?_ _ | refine blk_drew ?_ | refine blk_alloc ?_ _)); refine blk_put (cs := #[.int .i64 0, .slice none 0 0, .int .i64 0, .slice none 0 0, .slice none 0 0]) ?_ 0 _ rfl; (with_reducible repeat (first | refine blk_drewN ?_ _ | refine blk_drew ?_ | refine blk_alloc ?_ _)); exact BK281.out) Tryd.underlying64 rfl (by kernel_rfl)) rfl ?_
 exact ⟨_, _, _, by first | rfl | (simp [errW_none, errW_some] <;> rfl) | (simp [*, errW_none, errW_some] <;> rfl), by first | exact Kd.S_nil _ _ _ _ _ | exact Kd.N_nil _ _ _ _ _ | exact Kd.V_nil _ _ _ _ _ | exact Kd.Q_nil _ _ _ _ _ | exact Kd.R_nil _ _ _ _ _, by (with_reducible repeat (first | apply Kd.R_alloc | apply Kd.R_drewN | apply Kd.R_drew)); exact Kd.R_mono (Kd.R_far (p := ⟨gb281, 4, none⟩) (Kd.R_far (p := ⟨gb281, 3, none⟩) (Kd.R_far (p := ⟨gb281, 2, none⟩) (Kd.R_far (p := ⟨gb281, 1, none⟩) (Kd.R_far (p := ⟨gb281, 0, none⟩) (Kd.R_types HO284.out BK281.out (by decide)) (fun _ hk => hk.2) (.int .i64 2)) (fun _ hk => hk.2) (.slice none 0 0)) (fun _ hk => hk.2) (.int .i64 1)) (fun _ hk => hk.2) (.slice Ao7 y282.length co7)) (fun _ hk => hk.2) (.slice Ao6 y285.length co6)) (fun _ hk => hk.1.2), by (with_reducible repeat (first | apply Kd.R_alloc | apply Kd.R_drewN | apply Kd.R_drew)); exact Kd.R_mono (Kd.R_far (p := ⟨gb281, 4, none⟩) (Kd.R_far (p := ⟨gb281, 3, none⟩) (Kd.R_far (p := ⟨gb281, 2, none⟩) (Kd.R_far (p := ⟨gb281, 1, none⟩) (Kd.R_far (p := ⟨gb281, 0, none⟩) (Kd.R_types HO287.out BK281.out (by decide)) (fun _ hk => hk.2) (.int .i64 2)) (fun _ hk => hk.2) (.slice none 0 0)) (fun _ hk => hk.2) (.int .i64 1)) (fun _ hk => hk.2) (.slice Ao7 y282.length co7)) (fun _ hk => hk.2) (.slice Ao6 y285.length co6)) (fun _ hk => hk.1.2), by repeat (first | (with_reducible first | exact HB.out | apply below_alloc | apply pw_below_drewN | apply below_drew1 | refine below_set ?_ GE281.out) | exact HB.out)⟩


/-! ### slices_Clone_int_int: function 82 -/
def slices_Clone_int_int.f (l0 : List Int) : Option (List Int) := if l0.length ≤ 1000000 then some l0 else none
set_option maxHeartbeats 4000000 in
set_option maxRecDepth 100000 in
theorem slices_Clone_int_int.calls (A0 : Option Addr) (c0 : Nat) (l0 : List Int) (r : List Int) (w : World) (hG : HG w) (hr0 : Kd.C (Kd.int .i64) w A0 l0.length l0) (hc0 : l0.length ≤ c0) (h : slices_Clone_int_int.f l0 = some r) :
  Calls Tryd.prog 82 #[.slice A0 l0.length c0] w fun e w' => ∃ v0_ : Value, e = .returned (v0_) ∧ Kd.R (Kd.int .i64) 3 w' w.heap.size (fun _ => True) v0_ r ∧ Below w.heap.size w w' := by
 unfold slices_Clone_int_int.f at h
 by_cases hl : l0.length ≤ 1000000
 ·rw [if_pos hl] at h
  obtain rfl := Option.some.inj h
  have HC := Aside0.mk hr0
  have hnn : ∀ (a : Option Addr) (l c : Nat) (w : World), (binOp .eql 60 (.slice a l c) (.slice none 0 0)).run Tryd.prog w = .ok (.bool a.isNone) w := by
   intro a l c w
   have h1 : (Op.equal 60 (.slice a l c) (.slice none 0 0)).run Tryd.prog w = .ok a.isNone w := equalIn_nil Tryd.prog 60 3 Tryd.underlying60 9999 a l c w
   simp only [binOp, Sem.run_bind, h1, Result.andThen_ok, Sem.run_pure]
  clear h hG hr0
  cases A0 with
  | none =>
   have hz : l0 = [] := by
    cases l0 with
    | nil => rfl
    | cons x t =>
     obtain ⟨_, e, _⟩ := at_int_nat HC.out 0 (by simp)
     cases e
   subst hz
   go_enter Tryd.func82, Tryd.ntmps82
   go_wp2
   go_ret
   exact ⟨_, rfl, Kd.R_nil _ _ _ _ _, Below.refl _ _⟩
  | some ad =>
   go_enter Tryd.func82, Tryd.ntmps82
   go_wp2_with (at_builtin; refine Kd.R_append_row (Value.int .i64) (0 : Int) (h1 := fun _ => rfl) (w0 := w) w.heap.size rfl (.tmp 5) (.tmp 6) 60 3 (.int .i64 0) 8 rfl Tryd.underlying60 info3 rfl (by decide) _ [] l0 (some ad) l0.length c0 (fun _ => True) rfl rfl (fun _ _ => trivial) ?uB1 ?uB2 ?uB3 ?uB4 ?uB5 ?_; (case uB1 => exact Kd.R_mono (arr_own (k := .i64) (xs := []) (blk_new w _) (Nat.le_refl _) (by simp) 0 rfl) (fun _ _ => trivial)); (case uB2 => exact Kd.C_below HC.out (below_alloc (Below.refl _ _) _)); (case uB3 => exact (below_alloc (Below.refl _ _) _)); (case uB4 => (rw [World.size_alloc]; omega)); (case uB5 => (simp; omega)); intro v1 w1 ho hb hg hat; rw [List.nil_append] at ho; have HO := Aside0.mk ho; have HB1 := Aside0.mk hb; clear ho hb hg hat)
   go_ret
   exact ⟨_, rfl, HO.out, HB1.out⟩
 ·rw [if_neg hl] at h; cases h


/-! ### risk_Given: function 53 -/
set_option maxHeartbeats 4000000 in
set_option maxRecDepth 100000 in
theorem risk_Given.calls (k : Nat) (a0_0 : Int) (A0_1 : Option Addr) (c0_1 : Nat) (l0_1 : List (List Int)) (a0_2 : Int) (A0_3 : Option Addr) (c0_3 : Nat) (l0_3 : List Int) (A0_4 : Option Addr) (c0_4 : Nat) (l0_4 : List Int) (n : Nat) (fails : Bool) (w : World) (hG : HG w) (hr0_1 : Kd.C (Kd.slice 3 (Kd.int .i64)) w A0_1 l0_1.length l0_1) (hc0_1 : l0_1.length ≤ c0_1) (hr0_3 : Kd.C (Kd.int .i64) w A0_3 l0_3.length l0_3) (hc0_3 : l0_3.length ≤ c0_3) (hr0_4 : Kd.C (Kd.int .i64) w A0_4 l0_4.length l0_4) (hc0_4 : l0_4.length ≤ c0_4) (hn : n < l0_4.length) (hl : l0_4.length ≤ 1000) (h : risk_Check.f k a0_0 l0_1 a0_2 l0_3 l0_4 = some 0) :
  Calls Tryd.prog 53 #[.agg #[.int .i64 a0_0, .slice A0_1 l0_1.length c0_1, .int .i64 a0_2, .slice A0_3 l0_3.length c0_3, .slice A0_4 l0_4.length c0_4], .int .i64 (n : Int), .bool fails] w fun e w' => ∃ g cp, e = .returned (.tuple #[.agg #[.int .i64 a0_0, .slice A0_1 l0_1.length c0_1, .int .i64 a0_2, .slice A0_3 l0_3.length c0_3, .slice (some ⟨g, 0, none⟩) l0_4.length cp], .int .i64 0]) ∧ Kd.R (Kd.int .i64) 3 w' w.heap.size (fun _ => True) (.slice (some ⟨g, 0, none⟩) l0_4.length cp) (l0_4.set n (if fails = true then 16 else 0)) ∧ Below w.heap.size w w' := by
 have HK := Aside0.mk (show PerilAt w.heap.size a0_0 A0_1 c0_1 l0_1 a0_2 A0_3 c0_3 l0_3 A0_4 c0_4 l0_4 ((w.alloc (.cells #[.int .i64 a0_0, .slice A0_1 l0_1.length c0_1, .int .i64 a0_2, .slice A0_3 l0_3.length c0_3, .slice A0_4 l0_4.length c0_4] 64)).alloc (.cells #[.int .i64 0, .slice none 0 0, .int .i64 0, .slice none 0 0, .slice none 0 0] 64)) from PerilAt.below (W := w.alloc (.cells #[.int .i64 a0_0, .slice A0_1 l0_1.length c0_1, .int .i64 a0_2, .slice A0_3 l0_3.length c0_3, .slice A0_4 l0_4.length c0_4] 64)) ⟨blk_new _ _, hc0_1, Kd.C_alloc hr0_1 _, hc0_3, Kd.C_alloc hr0_3 _, hc0_4, Kd.C_alloc hr0_4 _, hG.alloc _⟩ (below_alloc (Below.refl _ _) _))
 have HO := Aside0.mk (show ((w.alloc (.cells #[.int .i64 a0_0, .slice A0_1 l0_1.length c0_1, .int .i64 a0_2, .slice A0_3 l0_3.length c0_3, .slice A0_4 l0_4.length c0_4] 64)).alloc (.cells #[.int .i64 0, .slice none 0 0, .int .i64 0, .slice none 0 0, .slice none 0 0] 64)).heap[w.heap.size + 1]? = some (.cells #[.int .i64 0, .slice none 0 0, .int .i64 0, .slice none 0 0, .slice none 0 0] 64 (0, 0)) from blk_new1 _ _ _)
 have HB := Aside0.mk (show Below w.heap.size w ((w.alloc (.cells #[.int .i64 a0_0, .slice A0_1 l0_1.length c0_1, .int .i64 a0_2, .slice A0_3 l0_3.length c0_3, .slice A0_4 l0_4.length c0_4] 64)).alloc (.cells #[.int .i64 0, .slice none 0 0, .int .i64 0, .slice none 0 0, .slice none 0 0] 64)) from below_alloc (below_alloc (Below.refl _ _) _) _)
 have hu64 := Tryd.underlying64
 have hu24 := Tryd.underlying24
 have HE := Aside0.mk h
 have hy0 := HK.out.c0
 have hy1 := HK.out.c1
 have hy2 := HK.out.c2
 have hy3 := HK.out.c3
 have hy4 := HK.out.c4
 have ho0 := blk_cell HO.out 0
 have ho1 := blk_cell HO.out 1
 have ho2 := blk_cell HO.out 2
 have ho3 := blk_cell HO.out 3
 have ho4 := blk_cell HO.out 4
 have hf0 := blk_frozen HO.out 0
 have hf1 := blk_frozen HO.out 1
 have hf2 := blk_frozen HO.out 2
 have hf3 := blk_frozen HO.out 3
 have hf4 := blk_frozen HO.out 4
 have hg4 := blk_frozen HK.out.1 4
 clear hG hr0_1 hc0_1 hr0_3 hc0_3 hr0_4 hc0_4 h
 have HCLN := Aside0.mk (show slices_Clone_int_int.f l0_4 = some l0_4 by unfold slices_Clone_int_int.f; exact if_pos (by omega))
 have b1 : decide ((n : Int) < 0) = false := decide_eq_false (by omega)
 have b2 : decide ((l0_4.length : Int) ≤ (n : Int)) = false := decide_eq_false (by omega)
 have b3 : decide (l0_4.length ≤ n) = false := decide_eq_false (by omega)
 go_enter Tryd.func53, Tryd.ntmps53
 go_upto_region 6 with (first | (go_at_call 50; (with_reducible refine (HK.out.check HE.out).mono ?_); rintro e w1 ⟨rfl, hb⟩; have HKn := Aside0.mk (HK.out.below hb); have HBn := Aside0.mk (below_step HB.out hb); have HOn := Aside0.mk (blk_below HO.out hb); clear HK HB HO hy0 hy1 hy2 hy3 hy4 ho0 ho1 ho2 ho3 ho4 hf0 hf1 hf2 hf3 hf4 hg4 hb; have HK := HKn; have HB := HBn; have HO := HOn; clear HKn HBn HOn; have hy0 := HK.out.c0; have hy1 := HK.out.c1; have hy2 := HK.out.c2; have hy3 := HK.out.c3; have hy4 := HK.out.c4; have ho0 := blk_cell HO.out 0; have ho1 := blk_cell HO.out 1; have ho2 := blk_cell HO.out 2; have ho3 := blk_cell HO.out 3; have ho4 := blk_cell HO.out 4; have hf0 := blk_frozen HO.out 0; have hf1 := blk_frozen HO.out 1; have hf2 := blk_frozen HO.out 2; have hf3 := blk_frozen HO.out 3; have hf4 := blk_frozen HO.out 4; have hg4 := blk_frozen HK.out.1 4))
 have HS1 := Aside0.mk (show w.heap.size + 1 < w1.heap.size from blk_lt HO.out)
 have HLOW := Aside0.mk HB.out.size
 go_upto_region 7 with (first | (go_at_call 82; (with_reducible refine (slices_Clone_int_int.calls A0_4 c0_4 l0_4 l0_4 _ HK.out.hg HK.out.hch HK.out.hcc HCLN.out).mono ?_); rintro e w1 ⟨v4, rfl, hR, hb⟩; obtain ⟨g4, c4, rfl, hgb, hgl, _⟩ := Kd.R_form hR (by omega); have HGB := Aside0.mk hgb; have HR := Aside0.mk hR; clear hR hgb hgl; have HKn := Aside0.mk (HK.out.below hb); have HBn := Aside0.mk (below_step HB.out hb); have HOn := Aside0.mk (blk_below HO.out hb); clear HK HB HO hy0 hy1 hy2 hy3 hy4 ho0 ho1 ho2 ho3 ho4 hf0 hf1 hf2 hf3 hf4 hg4 hb; have HK := HKn; have HB := HBn; have HO := HOn; clear HKn HBn HOn; have hy0 := HK.out.c0; have hy1 := HK.out.c1; have hy2 := HK.out.c2; have hy3 := HK.out.c3; have hy4 := HK.out.c4; have ho0 := blk_cell HO.out 0; have ho1 := blk_cell HO.out 1; have ho2 := blk_cell HO.out 2; have ho3 := blk_cell HO.out 3; have ho4 := blk_cell HO.out 4; have hf0 := blk_frozen HO.out 0; have hf1 := blk_frozen HO.out 1; have hf2 := blk_frozen HO.out 2; have hf3 := blk_frozen HO.out 3; have hf4 := blk_frozen HO.out 4; have hg4 := blk_frozen HK.out.1 4))
 have hgb : w.heap.size + 1 < g4 := Nat.lt_of_lt_of_le HS1.out HGB.out
 have HR2 := Aside0.mk (Kd.R_set HR.out HK.out.1 (by decide) 4 (.slice (some ⟨g4, 0, none⟩) l0_4.length c4))
 have HP2 := Aside0.mk (blk_set HK.out.1 4 (.slice (some ⟨g4, 0, none⟩) l0_4.length c4))
 have HO2 := Aside0.mk (blk_far HO.out (p := ⟨w.heap.size, 4, none⟩) (by show w.heap.size + 1 ≠ w.heap.size; omega) (.slice (some ⟨g4, 0, none⟩) l0_4.length c4))
 have HB2 := Aside0.mk (below_set (j := 4) (v := .slice (some ⟨g4, 0, none⟩) l0_4.length c4) HB.out (Nat.le_refl _))
 clear HK HB HO HR hy0 hy1 hy2 hy3 hy4 ho0 ho1 ho2 ho3 ho4 hf0 hf1 hf2 hf3 hf4 hg4 HGB HS1
 generalize w1.setCell ⟨w.heap.size, 4, none⟩ (.slice (some ⟨g4, 0, none⟩) l0_4.length c4) = w2 at *
 have hy4 : w2.cell? ⟨w.heap.size, 4, none⟩ = some (.slice (some ⟨g4, 0, none⟩) l0_4.length c4) := blk_cell HP2.out 4
 obtain ⟨hom, hfz⟩ := Kd.R_celln (0 : Int) HR2.out ((n : Nat) : Int) (by omega) (by omega)
 rw [Int.toNat_natCast] at hom hfz
 go_upto_region 8 with fail
 have HR3 := Aside0.mk (Kd.R_putn HR2.out ((n : Nat) : Int) (0 : Int))
 rw [Int.toNat_natCast] at HR3
 have HP3 := Aside0.mk (blk_far HP2.out (p := ⟨g4, n, none⟩) (by show w.heap.size ≠ g4; omega) (.int .i64 (0)))
 have HO3 := Aside0.mk (blk_far HO2.out (p := ⟨g4, n, none⟩) (by show w.heap.size + 1 ≠ g4; omega) (.int .i64 (0)))
 have HB3 := Aside0.mk (below_set (j := n) (v := .int .i64 (0)) HB2.out (show w.heap.size ≤ g4 by omega))
 clear HR2 HP2 HO2 HB2 hy4 hom hfz
 generalize w2.setCell ⟨g4, n, none⟩ (.int .i64 (0)) = w3 at *
 have hy4 : w3.cell? ⟨w.heap.size, 4, none⟩ = some (.slice (some ⟨g4, 0, none⟩) l0_4.length c4) := blk_cell HP3.out 4
 obtain ⟨hom, hfz⟩ := Kd.R_celln (0 : Int) HR3.out ((n : Nat) : Int) (by omega) (by omega)
 rw [Int.toNat_natCast] at hom hfz
 cases fails with
 | true =>
  go_upto_region 10 with fail
  have HR4 := Aside0.mk (Kd.R_putn HR3.out ((n : Nat) : Int) (16 : Int))
  rw [Int.toNat_natCast] at HR4
  have HP4 := Aside0.mk (blk_far HP3.out (p := ⟨g4, n, none⟩) (by show w.heap.size ≠ g4; omega) (.int .i64 (16)))
  have HO4 := Aside0.mk (blk_far HO3.out (p := ⟨g4, n, none⟩) (by show w.heap.size + 1 ≠ g4; omega) (.int .i64 (16)))
  have HB4 := Aside0.mk (below_set (j := n) (v := .int .i64 (16)) HB3.out (show w.heap.size ≤ g4 by omega))
  clear HR3 HP3 HO3 HB3 hy4 hom hfz
  generalize w3.setCell ⟨g4, n, none⟩ (.int .i64 (16)) = w4 at *
  have hy0 : w4.cell? ⟨w.heap.size, 0, none⟩ = some (.int .i64 a0_0) := blk_cell HP4.out 0
  have hy1 : w4.cell? ⟨w.heap.size, 1, none⟩ = some (.slice A0_1 l0_1.length c0_1) := blk_cell HP4.out 1
  have hy2 : w4.cell? ⟨w.heap.size, 2, none⟩ = some (.int .i64 a0_2) := blk_cell HP4.out 2
  have hy3 : w4.cell? ⟨w.heap.size, 3, none⟩ = some (.slice A0_3 l0_3.length c0_3) := blk_cell HP4.out 3
  have hy4 : w4.cell? ⟨w.heap.size, 4, none⟩ = some (.slice (some ⟨g4, 0, none⟩) l0_4.length c4) := blk_cell HP4.out 4
  have ho0 := blk_cell HO4.out 0
  have ho1 := blk_cell HO4.out 1
  have ho2 := blk_cell HO4.out 2
  have ho3 := blk_cell HO4.out 3
  have ho4 := blk_cell HO4.out 4
  have hf0 := blk_frozen HO4.out 0
  have hf1 := blk_frozen HO4.out 1
  have hf2 := blk_frozen HO4.out 2
  have hf3 := blk_frozen HO4.out 3
  have hf4 := blk_frozen HO4.out 4
  go_wp2
  refine bodyPost_ret (results_ct rfl _ _ (w.heap.size + 1) 64 #[.int .i64 a0_0, .slice A0_1 l0_1.length c0_1, .int .i64 a0_2, .slice A0_3 l0_3.length c0_3, .slice (some ⟨g4, 0, none⟩) l0_4.length c4] (0, 0) _ rfl (by refine blk_put (cs := #[.int .i64 a0_0, .slice A0_1 l0_1.length c0_1, .int .i64 a0_2, .slice A0_3 l0_3.length c0_3, .slice none 0 0]) ?_ 4 _ rfl; refine blk_put (cs := #[.int .i64 a0_0, .slice A0_1 l0_1.length c0_1, .int .i64 a0_2, .slice none 0 0, .slice none 0 0]) ?_ 3 _ rfl; refine blk_put (cs := #[.int .i64 a0_0, .slice A0_1 l0_1.length c0_1, .int .i64 0, .slice none 0 0, .slice none 0 0]) ?_ 2 _ rfl; refine blk_put (cs := #[.int .i64 a0_0, .slice none 0 0, .int .i64 0, .slice none 0 0, .slice none 0 0]) ?_ 1 _ rfl; refine blk_put (cs := #[.int .i64 0, .slice none 0 0, .int .i64 0, .slice none 0 0, .slice none 0 0]) ?_ 0 _ rfl; exact HO4.out) Tryd.underlying64 rfl (by kernel_rfl)) rfl ?_
  have hok : ∀ k_, some k_ = (Value.slice (some ⟨g4, 0, none⟩) l0_4.length c4).ownBlock → k_ ≠ w.heap.size + 1 := fun k_ hk_ => by (have h5 : k_ = g4 := (by simpa [Value.ownBlock] using hk_)); omega
  have hrl := Kd.R_lower (Kd.R_tight rfl HR4.out) HLOW.out
  rw [List.set_set] at hrl
  exact ⟨g4, c4, rfl, Kd.R_mono (Kd.R_far (p := ⟨w.heap.size + 1, 4, none⟩) (Kd.R_far (p := ⟨w.heap.size + 1, 3, none⟩) (Kd.R_far (p := ⟨w.heap.size + 1, 2, none⟩) (Kd.R_far (p := ⟨w.heap.size + 1, 1, none⟩) (Kd.R_far (p := ⟨w.heap.size + 1, 0, none⟩) hrl hok _) hok _) hok _) hok _) hok _) (fun _ _ => trivial), below_set (below_set (below_set (below_set (below_set HB4.out (by omega)) (by omega)) (by omega)) (by omega)) (by omega)⟩
 | false =>
  clear hom hfz hy4
  have hy0 : w3.cell? ⟨w.heap.size, 0, none⟩ = some (.int .i64 a0_0) := blk_cell HP3.out 0
  have hy1 : w3.cell? ⟨w.heap.size, 1, none⟩ = some (.slice A0_1 l0_1.length c0_1) := blk_cell HP3.out 1
  have hy2 : w3.cell? ⟨w.heap.size, 2, none⟩ = some (.int .i64 a0_2) := blk_cell HP3.out 2
  have hy3 : w3.cell? ⟨w.heap.size, 3, none⟩ = some (.slice A0_3 l0_3.length c0_3) := blk_cell HP3.out 3
  have hy4 : w3.cell? ⟨w.heap.size, 4, none⟩ = some (.slice (some ⟨g4, 0, none⟩) l0_4.length c4) := blk_cell HP3.out 4
  have ho0 := blk_cell HO3.out 0
  have ho1 := blk_cell HO3.out 1
  have ho2 := blk_cell HO3.out 2
  have ho3 := blk_cell HO3.out 3
  have ho4 := blk_cell HO3.out 4
  have hf0 := blk_frozen HO3.out 0
  have hf1 := blk_frozen HO3.out 1
  have hf2 := blk_frozen HO3.out 2
  have hf3 := blk_frozen HO3.out 3
  have hf4 := blk_frozen HO3.out 4
  go_wp2
  refine bodyPost_ret (results_ct rfl _ _ (w.heap.size + 1) 64 #[.int .i64 a0_0, .slice A0_1 l0_1.length c0_1, .int .i64 a0_2, .slice A0_3 l0_3.length c0_3, .slice (some ⟨g4, 0, none⟩) l0_4.length c4] (0, 0) _ rfl (by refine blk_put (cs := #[.int .i64 a0_0, .slice A0_1 l0_1.length c0_1, .int .i64 a0_2, .slice A0_3 l0_3.length c0_3, .slice none 0 0]) ?_ 4 _ rfl; refine blk_put (cs := #[.int .i64 a0_0, .slice A0_1 l0_1.length c0_1, .int .i64 a0_2, .slice none 0 0, .slice none 0 0]) ?_ 3 _ rfl; refine blk_put (cs := #[.int .i64 a0_0, .slice A0_1 l0_1.length c0_1, .int .i64 0, .slice none 0 0, .slice none 0 0]) ?_ 2 _ rfl; refine blk_put (cs := #[.int .i64 a0_0, .slice none 0 0, .int .i64 0, .slice none 0 0, .slice none 0 0]) ?_ 1 _ rfl; refine blk_put (cs := #[.int .i64 0, .slice none 0 0, .int .i64 0, .slice none 0 0, .slice none 0 0]) ?_ 0 _ rfl; exact HO3.out) Tryd.underlying64 rfl (by kernel_rfl)) rfl ?_
  have hok : ∀ k_, some k_ = (Value.slice (some ⟨g4, 0, none⟩) l0_4.length c4).ownBlock → k_ ≠ w.heap.size + 1 := fun k_ hk_ => by (have h5 : k_ = g4 := (by simpa [Value.ownBlock] using hk_)); omega
  have hrl := Kd.R_lower (Kd.R_tight rfl HR3.out) HLOW.out
  exact ⟨g4, c4, rfl, Kd.R_mono (Kd.R_far (p := ⟨w.heap.size + 1, 4, none⟩) (Kd.R_far (p := ⟨w.heap.size + 1, 3, none⟩) (Kd.R_far (p := ⟨w.heap.size + 1, 2, none⟩) (Kd.R_far (p := ⟨w.heap.size + 1, 1, none⟩) (Kd.R_far (p := ⟨w.heap.size + 1, 0, none⟩) hrl hok _) hok _) hok _) hok _) hok _) (fun _ _ => trivial), below_set (below_set (below_set (below_set (below_set HB3.out (by omega)) (by omega)) (by omega)) (by omega)) (by omega)⟩


/-! ### quietuslaw12_sanity: function 38 -/
section
variable {g : Nat} {d : Int} {A : Option Addr} {c : Nat} {l : List (List Int)} {m : Int} {Aa : Option Addr} {ca : Nat} {pl : List Int} {Ac : Option Addr} {cc : Nat} {ch : List Int} {W W' : World}
theorem PerilAt.total {k : Nat} {r1 r2 : Int} (h : PerilAt g d A c l m Aa ca pl Ac cc ch W) (hr : risk_Total.f k d l m pl ch = some (r1, r2)) :
  Calls Tryd.prog 40 #[.agg #[.int .i64 d, .slice A l.length c, .int .i64 m, .slice Aa pl.length ca, .slice Ac ch.length cc]] W fun e w' => e = .returned (.tuple #[.int .i64 r1, .int .i64 r2]) ∧ Below W.heap.size W w' :=
 risk_Total.calls k d A c l m Aa ca pl Ac cc ch r1 r2 W h.hg h.hgr h.hc h.hpl h.hca h.hch h.hcc hr
theorem PerilAt.lost {k : Nat} {a1 : Int} {r1 : Bool} {r2 : Int} (h : PerilAt g d A c l m Aa ca pl Ac cc ch W) (hr : risk_Lost.f k d l m pl ch a1 = some (r1, r2)) :
  Calls Tryd.prog 41 #[.agg #[.int .i64 d, .slice A l.length c, .int .i64 m, .slice Aa pl.length ca, .slice Ac ch.length cc], .int .i64 a1] W fun e w' => e = .returned (.tuple #[.bool r1, .int .i64 r2]) ∧ Below W.heap.size W w' :=
 risk_Lost.calls k d A c l m Aa ca pl Ac cc ch a1 r1 r2 W h.hg h.hgr h.hc h.hpl h.hca h.hch h.hcc hr
theorem PerilAt.loss {k : Nat} {r1 r2 : Int} (h : PerilAt g d A c l m Aa ca pl Ac cc ch W) (hr : risk_Loss.f k d l m pl ch = some (r1, r2)) :
  Calls Tryd.prog 42 #[.agg #[.int .i64 d, .slice A l.length c, .int .i64 m, .slice Aa pl.length ca, .slice Ac ch.length cc]] W fun e w' => e = .returned (.tuple #[.int .i64 r1, .int .i64 r2]) ∧ Below W.heap.size W w' :=
 risk_Loss.calls k d A c l m Aa ca pl Ac cc ch r1 r2 W h.hg h.hgr h.hc h.hpl h.hca h.hch h.hcc hr
theorem PerilAt.least {k : Nat} {r1 r2 : Int} (h : PerilAt g d A c l m Aa ca pl Ac cc ch W) (hr : risk_Least.f k d l m pl ch = some (r1, r2)) :
  Calls Tryd.prog 43 #[.agg #[.int .i64 d, .slice A l.length c, .int .i64 m, .slice Aa pl.length ca, .slice Ac ch.length cc]] W fun e w' => e = .returned (.tuple #[.int .i64 r1, .int .i64 r2]) ∧ Below W.heap.size W w' :=
 risk_Least.calls k d A c l m Aa ca pl Ac cc ch r1 r2 W h.hg h.hgr h.hc h.hpl h.hca h.hch h.hcc hr
theorem PerilAt.millionths {k : Nat} {r1 r2 : Int} (h : PerilAt g d A c l m Aa ca pl Ac cc ch W) (hr : risk_Millionths.f k d l m pl ch = some (r1, r2)) :
  Calls Tryd.prog 45 #[.agg #[.int .i64 d, .slice A l.length c, .int .i64 m, .slice Aa pl.length ca, .slice Ac ch.length cc]] W fun e w' => e = .returned (.tuple #[.int .i64 r1, .int .i64 r2]) ∧ Below W.heap.size W w' :=
 risk_Millionths.calls k d A c l m Aa ca pl Ac cc ch r1 r2 W h.hg h.hgr h.hc h.hpl h.hca h.hch h.hcc hr
end
theorem PerilAt.compare {k g g2 : Nat} {W : World} {a0_0 : Int} {A0_1 : Option Addr} {c0_1 : Nat} {l0_1 : List (List Int)} {a0_2 : Int} {A0_3 : Option Addr} {c0_3 : Nat} {l0_3 : List Int} {A0_4 : Option Addr} {c0_4 : Nat} {l0_4 : List Int} {a1_0 : Int} {A1_1 : Option Addr} {c1_1 : Nat} {l1_1 : List (List Int)} {a1_2 : Int} {A1_3 : Option Addr} {c1_3 : Nat} {l1_3 : List Int} {A1_4 : Option Addr} {c1_4 : Nat} {l1_4 : List Int} {r1 r2 : Int} (h : PerilAt g a0_0 A0_1 c0_1 l0_1 a0_2 A0_3 c0_3 l0_3 A0_4 c0_4 l0_4 W) (h2 : PerilAt g2 a1_0 A1_1 c1_1 l1_1 a1_2 A1_3 c1_3 l1_3 A1_4 c1_4 l1_4 W) (hr : risk_Compare.f k a0_0 l0_1 a0_2 l0_3 l0_4 a1_0 l1_1 a1_2 l1_3 l1_4 = some (r1, r2)) :
  Calls Tryd.prog 44 #[.agg #[.int .i64 a0_0, .slice A0_1 l0_1.length c0_1, .int .i64 a0_2, .slice A0_3 l0_3.length c0_3, .slice A0_4 l0_4.length c0_4], .agg #[.int .i64 a1_0, .slice A1_1 l1_1.length c1_1, .int .i64 a1_2, .slice A1_3 l1_3.length c1_3, .slice A1_4 l1_4.length c1_4]] W fun e w' => e = .returned (.tuple #[.int .i64 r1, .int .i64 r2]) ∧ Below W.heap.size W w' :=
 risk_Compare.calls k a0_0 A0_1 c0_1 l0_1 a0_2 A0_3 c0_3 l0_3 A0_4 c0_4 l0_4 a1_0 A1_1 c1_1 l1_1 a1_2 A1_3 c1_3 l1_3 A1_4 c1_4 l1_4 r1 r2 W h.hg h.hgr h.hc h.hpl h.hca h.hch h.hcc h2.hgr h2.hc h2.hpl h2.hca h2.hch h2.hcc hr
theorem PerilAt.given {k g : Nat} {d : Int} {A : Option Addr} {c : Nat} {l : List (List Int)} {m : Int} {Aa : Option Addr} {ca : Nat} {pl : List Int} {Ac : Option Addr} {cc : Nat} {ch : List Int} {W : World} (n : Nat) (fails : Bool) (h : PerilAt g d A c l m Aa ca pl Ac cc ch W) (hn : n < ch.length) (hl : ch.length ≤ 1000) (hr : risk_Check.f k d l m pl ch = some 0) :
  Calls Tryd.prog 53 #[.agg #[.int .i64 d, .slice A l.length c, .int .i64 m, .slice Aa pl.length ca, .slice Ac ch.length cc], .int .i64 (n : Int), .bool fails] W fun e w' => ∃ g cp, e = .returned (.tuple #[.agg #[.int .i64 d, .slice A l.length c, .int .i64 m, .slice Aa pl.length ca, .slice (some ⟨g, 0, none⟩) ch.length cp], .int .i64 0]) ∧ Kd.R (Kd.int .i64) 3 w' W.heap.size (fun _ => True) (.slice (some ⟨g, 0, none⟩) ch.length cp) (ch.set n (if fails = true then 16 else 0)) ∧ Below W.heap.size W w' :=
 risk_Given.calls k d A c l m Aa ca pl Ac cc ch n fails W h.hg h.hgr h.hc h.hpl h.hca h.hch h.hcc hn hl hr
theorem PerilAt.given0 {k g : Nat} {d : Int} {A : Option Addr} {c : Nat} {l : List (List Int)} {m : Int} {Aa : Option Addr} {ca : Nat} {pl : List Int} {Ac : Option Addr} {cc : Nat} {ch : List Int} {W : World} (fails : Bool) (h : PerilAt g d A c l m Aa ca pl Ac cc ch W) (hn : 0 < ch.length) (hl : ch.length ≤ 1000) (hr : risk_Check.f k d l m pl ch = some 0) :
  Calls Tryd.prog 53 #[.agg #[.int .i64 d, .slice A l.length c, .int .i64 m, .slice Aa pl.length ca, .slice Ac ch.length cc], .int .i64 0, .bool fails] W fun e w' => ∃ g cp, e = .returned (.tuple #[.agg #[.int .i64 d, .slice A l.length c, .int .i64 m, .slice Aa pl.length ca, .slice (some ⟨g, 0, none⟩) ch.length cp], .int .i64 0]) ∧ Kd.R (Kd.int .i64) 3 w' W.heap.size (fun _ => True) (.slice (some ⟨g, 0, none⟩) ch.length cp) (ch.set 0 (if fails = true then 16 else 0)) ∧ Below W.heap.size W w' := h.given 0 fails hn hl hr
theorem PerilAt.c4' {g : Nat} {d : Int} {A : Option Addr} {c : Nat} {l : List (List Int)} {m : Int} {Aa : Option Addr} {ca : Nat} {pl : List Int} {Ac : Option Addr} {cc : Nat} {ch : List Int} {W : World} (h : PerilAt g d A c l m Aa ca pl Ac cc ch W) {n : Nat} (hn : ch.length = n) : W.cell? ⟨g, 4, none⟩ = some (.slice Ac n cc) := by rw [← hn]; exact h.c4
theorem PerilAt.c3' {g : Nat} {d : Int} {A : Option Addr} {c : Nat} {l : List (List Int)} {m : Int} {Aa : Option Addr} {ca : Nat} {pl : List Int} {Ac : Option Addr} {cc : Nat} {ch : List Int} {W : World} (h : PerilAt g d A c l m Aa ca pl Ac cc ch W) {n : Nat} (hn : pl.length = n) : W.cell? ⟨g, 3, none⟩ = some (.slice Aa n ca) := by rw [← hn]; exact h.c3
theorem PerilAt.loss' {k g : Nat} {d : Int} {A : Option Addr} {c : Nat} {l : List (List Int)} {m : Int} {Aa : Option Addr} {ca : Nat} {pl : List Int} {Ac : Option Addr} {cc : Nat} {ch : List Int} {W : World} {r1 r2 : Int} (h : PerilAt g d A c l m Aa ca pl Ac cc ch W) (hr : risk_Loss.f k d l m pl ch = some (r1, r2)) {n n2 : Nat} (hn : pl.length = n) (hn2 : ch.length = n2) :
  Calls Tryd.prog 42 #[.agg #[.int .i64 d, .slice A l.length c, .int .i64 m, .slice Aa n ca, .slice Ac n2 cc]] W fun e w' => e = .returned (.tuple #[.int .i64 r1, .int .i64 r2]) ∧ Below W.heap.size W w' := by subst hn hn2; exact h.loss hr
theorem PerilAt.compare' {k g g2 : Nat} {W : World} {a0_0 : Int} {A0_1 : Option Addr} {c0_1 : Nat} {l0_1 : List (List Int)} {a0_2 : Int} {A0_3 : Option Addr} {c0_3 : Nat} {l0_3 : List Int} {A0_4 : Option Addr} {c0_4 : Nat} {l0_4 : List Int} {a1_0 : Int} {A1_1 : Option Addr} {c1_1 : Nat} {l1_1 : List (List Int)} {a1_2 : Int} {A1_3 : Option Addr} {c1_3 : Nat} {l1_3 : List Int} {A1_4 : Option Addr} {c1_4 : Nat} {l1_4 : List Int} {r1 r2 : Int} (h : PerilAt g a0_0 A0_1 c0_1 l0_1 a0_2 A0_3 c0_3 l0_3 A0_4 c0_4 l0_4 W) (h2 : PerilAt g2 a1_0 A1_1 c1_1 l1_1 a1_2 A1_3 c1_3 l1_3 A1_4 c1_4 l1_4 W) (hr : risk_Compare.f k a0_0 l0_1 a0_2 l0_3 l0_4 a1_0 l1_1 a1_2 l1_3 l1_4 = some (r1, r2)) {n : Nat} (hn : l1_3.length = n) :
  Calls Tryd.prog 44 #[.agg #[.int .i64 a0_0, .slice A0_1 l0_1.length c0_1, .int .i64 a0_2, .slice A0_3 l0_3.length c0_3, .slice A0_4 l0_4.length c0_4], .agg #[.int .i64 a1_0, .slice A1_1 l1_1.length c1_1, .int .i64 a1_2, .slice A1_3 n c1_3, .slice A1_4 l1_4.length c1_4]] W fun e w' => e = .returned (.tuple #[.int .i64 r1, .int .i64 r2]) ∧ Below W.heap.size W w' := by
 subst hn
 exact risk_Compare.calls k a0_0 A0_1 c0_1 l0_1 a0_2 A0_3 c0_3 l0_3 A0_4 c0_4 l0_4 a1_0 A1_1 c1_1 l1_1 a1_2 A1_3 c1_3 l1_3 A1_4 c1_4 l1_4 r1 r2 W h.hg h.hgr h.hc h.hpl h.hca h.hch h.hcc h2.hgr h2.hc h2.hpl h2.hca h2.hch h2.hcc hr

theorem x12_check : risk_Check.f 40 2 [] 1 [0, 1, 2] [1, 2, 4] = some 0 := by decide +kernel
theorem x12_total : risk_Total.f 40 2 [] 1 [0, 1, 2] [1, 2, 4] = some (4096, 0) := by decide +kernel
theorem x12_lost1 : risk_Lost.f 40 2 [] 1 [0, 1, 2] [1, 2, 4] 1 = some (false, 0) := by decide +kernel
theorem x12_lost2 : risk_Lost.f 40 2 [] 1 [0, 1, 2] [1, 2, 4] 3 = some (true, 0) := by decide +kernel
theorem x12_loss : risk_Loss.f 40 2 [] 1 [0, 1, 2] [1, 2, 4] = some (208, 0) := by decide +kernel
theorem x12_least : risk_Least.f 40 2 [] 1 [0, 1, 2] [1, 2, 4] = some (3, 0) := by decide +kernel
theorem x12_loss1 : risk_Loss.f 40 2 [] 1 [0, 1, 2] [16, 2, 4] = some (1408, 0) := by decide +kernel
theorem x12_loss0 : risk_Loss.f 40 2 [] 1 [0, 1, 2] [0, 2, 4] = some (128, 0) := by decide +kernel
theorem x12_mill : risk_Millionths.f 40 2 [] 1 [0, 1, 2] [1, 2, 4] = some (50782, 0) := by decide +kernel
theorem x12_lossn : risk_Loss.f 40 2 [] 1 [0, 1, -1] [1, 2, 4] = some (736, 0) := by decide +kernel
theorem x12_comp : risk_Compare.f 40 2 [] 1 [0, 1, 2] [1, 2, 4] 2 [] 1 [0, 1, -1] [1, 2, 4] = some (-1, 0) := by decide +kernel
set_option maxHeartbeats 4000000 in
set_option maxRecDepth 100000 in
theorem quietuslaw12_sanity.main (k : Nat) (gs : List (List Int)) (pl ch pn d1 d0 : List Int) (hex : quietuslaw12_example.f = some (2, gs, 1, pl, ch)) (hpl : pl.length = 3) (hch : ch.length = 3) (hpn : pn = pl.set 2 (-1)) (hd1 : d1 = ch.set 0 16) (hd0 : d0 = ch.set 0 0)
  (h0 : risk_Check.f k 2 gs 1 pl ch = some 0) (h1 : risk_Total.f k 2 gs 1 pl ch = some (4096, 0)) (h2 : risk_Lost.f k 2 gs 1 pl ch 1 = some (false, 0)) (h3 : risk_Lost.f k 2 gs 1 pl ch 3 = some (true, 0)) (h4 : risk_Loss.f k 2 gs 1 pl ch = some (208, 0)) (h5 : risk_Least.f k 2 gs 1 pl ch = some (3, 0))
  (h6 : risk_Loss.f k 2 gs 1 pl d1 = some (1408, 0)) (h7 : risk_Loss.f k 2 gs 1 pl d0 = some (128, 0)) (h8 : risk_Millionths.f k 2 gs 1 pl ch = some (50782, 0)) (h9 : risk_Loss.f k 2 gs 1 pn ch = some (736, 0)) (h10 : risk_Compare.f k 2 gs 1 pl ch 2 gs 1 pn ch = some (-1, 0)) (w : World) (hG : HG w) :
  Calls Tryd.prog 38 #[] w fun e w' => e = .returned (.bool true) ∧ Below w.heap.size w w' := by
 have Hex := Aside0.mk hex
 have H0 := Aside0.mk h0
 have H1 := Aside0.mk h1
 have H2 := Aside0.mk h2
 have H3 := Aside0.mk h3
 have H4 := Aside0.mk h4
 have H5 := Aside0.mk h5
 have H6 := Aside0.mk h6
 have H7 := Aside0.mk h7
 have H8 := Aside0.mk h8
 have H9 := Aside0.mk h9
 have H10 := Aside0.mk h10
 have Hpl := Aside0.mk hpl
 have Hch := Aside0.mk hch
 have Hpn := Aside0.mk hpn
 have HLd1 := Aside0.mk (show d1.length = ch.length by rw [hd1, List.length_set])
 have HLd0 := Aside0.mk (show d0.length = ch.length by rw [hd0, List.length_set])
 have HLpn := Aside0.mk (show pn.length = pl.length by rw [hpn, List.length_set])
 have HD1 := Aside0.mk hd1
 have HD0 := Aside0.mk hd0
 have HGw := Aside0.mk hG
 have hu64 := Tryd.underlying64
 have hu24 := Tryd.underlying24
 clear hex h0 h1 h2 h3 h4 h5 h6 h7 h8 h9 h10 hpl hch hpn hd1 hd0 hG
 go_enter Tryd.func38, Tryd.ntmps38
 go_upto_region 2 with (first | (go_at_call 76; (with_reducible refine (quietuslaw12_example.calls 2 gs 1 pl ch _ HGw.out Hex.out).mono ?_); rintro e w1 ⟨v1, v3, v4, rfl, hS, hR3, hR4, hb⟩; obtain ⟨A, c, rfl⟩ := Kd.S_slice hS; obtain ⟨Aa, ca, rfl⟩ := Kd.R_slice hR3; obtain ⟨Ac, cc, rfl⟩ := Kd.R_slice hR4; have HB := Aside0.mk hb; have HSS := Aside0.mk (Kd.S_reads' hS); have HR3 := Aside0.mk (Kd.R_reads' hR3); have HR4 := Aside0.mk (Kd.R_reads' hR4); clear hS hR3 hR4 hb))
 have HK := Aside0.mk (show PerilAt w1.heap.size 2 A c gs 1 Aa ca pl Ac cc ch (w1.alloc (.cells #[.int .i64 2, .slice A gs.length c, .int .i64 1, .slice Aa pl.length ca, .slice Ac ch.length cc] 64)) from ⟨blk_new _ _, HSS.out.2.1, Kd.C_alloc HSS.out.2.2 _, HR3.out.2.1, Kd.C_alloc HR3.out.2.2 _, HR4.out.2.1, Kd.C_alloc HR4.out.2.2 _, (HGw.out.below HB.out).alloc _⟩)
 have hdum := True.intro
 have hb := below_alloc (Below.refl w1.heap.size w1) (.cells #[.int .i64 2, .slice A gs.length c, .int .i64 1, .slice Aa pl.length ca, .slice Ac ch.length cc] 64)
 have HBn := Aside0.mk (below_step HB.out hb)
 clear HB hdum hb
 have HB := HBn
 clear HBn
 have hdum := True.intro
 generalize w1.alloc (.cells #[.int .i64 2, .slice A gs.length c, .int .i64 1, .slice Aa pl.length ca, .slice Ac ch.length cc] 64) = ws at *
 have cHK0 := HK.out.c0
 have cHK1 := HK.out.c1
 have cHK2 := HK.out.c2
 have cHK3 := HK.out.c3
 have cHK4 := HK.out.c4
 clear HSS HR3 HR4
 go_upto_region 7 with (first | (go_at_call 40; (with_reducible refine (HK.out.total H1.out).mono ?_); rintro e w1 ⟨rfl, hb⟩; have HBn := Aside0.mk (below_step HB.out hb); have HKn := Aside0.mk (HK.out.below hb); clear HB HK cHK0 cHK1 cHK2 cHK3 cHK4 hb; have HB := HBn; have HK := HKn; clear HBn HKn; have cHK0 := HK.out.c0; have cHK1 := HK.out.c1; have cHK2 := HK.out.c2; have cHK3 := HK.out.c3; have cHK4 := HK.out.c4) | (go_at_call 41; (with_reducible refine (HK.out.lost H2.out).mono ?_); rintro e w1 ⟨rfl, hb⟩; have HBn := Aside0.mk (below_step HB.out hb); have HKn := Aside0.mk (HK.out.below hb); clear HB HK cHK0 cHK1 cHK2 cHK3 cHK4 hb; have HB := HBn; have HK := HKn; clear HBn HKn; have cHK0 := HK.out.c0; have cHK1 := HK.out.c1; have cHK2 := HK.out.c2; have cHK3 := HK.out.c3; have cHK4 := HK.out.c4) | (go_at_call 41; (with_reducible refine (HK.out.lost H3.out).mono ?_); rintro e w1 ⟨rfl, hb⟩; have HBn := Aside0.mk (below_step HB.out hb); have HKn := Aside0.mk (HK.out.below hb); clear HB HK cHK0 cHK1 cHK2 cHK3 cHK4 hb; have HB := HBn; have HK := HKn; clear HBn HKn; have cHK0 := HK.out.c0; have cHK1 := HK.out.c1; have cHK2 := HK.out.c2; have cHK3 := HK.out.c3; have cHK4 := HK.out.c4) | (go_at_call 42; (with_reducible refine (HK.out.loss H4.out).mono ?_); rintro e w1 ⟨rfl, hb⟩; have HBn := Aside0.mk (below_step HB.out hb); have HKn := Aside0.mk (HK.out.below hb); clear HB HK cHK0 cHK1 cHK2 cHK3 cHK4 hb; have HB := HBn; have HK := HKn; clear HBn HKn; have cHK0 := HK.out.c0; have cHK1 := HK.out.c1; have cHK2 := HK.out.c2; have cHK3 := HK.out.c3; have cHK4 := HK.out.c4) | (go_at_call 43; (with_reducible refine (HK.out.least H5.out).mono ?_); rintro e w1 ⟨rfl, hb⟩; have HBn := Aside0.mk (below_step HB.out hb); have HKn := Aside0.mk (HK.out.below hb); clear HB HK cHK0 cHK1 cHK2 cHK3 cHK4 hb; have HB := HBn; have HK := HKn; clear HBn HKn; have cHK0 := HK.out.c0; have cHK1 := HK.out.c1; have cHK2 := HK.out.c2; have cHK3 := HK.out.c3; have cHK4 := HK.out.c4))
 go_upto_region 8 with (first | (go_at_call 53; (with_reducible refine (HK.out.given0 true (by rw [Hch.out]; decide) (by rw [Hch.out]; decide) H0.out).mono ?_); rintro e w1 ⟨g1, cp1, rfl, hR, hb⟩; have HRn_ := Aside0.mk (show Kd.R (Kd.int .i64) 3 _ _ (fun _ => True) (.slice (some ⟨g1, 0, none⟩) ch.length cp1) d1 from by rw [HD1.out]; exact hR); clear hR; have HBn := Aside0.mk (below_step HB.out hb); have HKn := Aside0.mk (HK.out.below hb); clear HB HK cHK0 cHK1 cHK2 cHK3 cHK4 hb; have HB := HBn; have HK := HKn; clear HBn HKn; have cHK0 := HK.out.c0; have cHK1 := HK.out.c1; have cHK2 := HK.out.c2; have cHK3 := HK.out.c3; have cHK4 := HK.out.c4))
 have HK1 := Aside0.mk (show PerilAt w1.heap.size 2 A c gs 1 Aa ca pl (some ⟨g1, 0, none⟩) cp1 d1 (w1.alloc (.cells #[.int .i64 2, .slice A gs.length c, .int .i64 1, .slice Aa pl.length ca, .slice (some ⟨g1, 0, none⟩) ch.length cp1] 64)) from ⟨by rw [HLd1.out]; exact blk_new _ _, HK.out.hc, Kd.C_alloc HK.out.hgr _, HK.out.hca, Kd.C_alloc HK.out.hpl _, by rw [HLd1.out]; exact (Kd.R_reads' HRn_.out).2.1, Kd.C_alloc (Kd.R_reads' HRn_.out).2.2 _, HK.out.hg.alloc _⟩)
 clear HRn_
 have hb := below_alloc (Below.refl w1.heap.size w1) (.cells #[.int .i64 2, .slice A gs.length c, .int .i64 1, .slice Aa pl.length ca, .slice (some ⟨g1, 0, none⟩) ch.length cp1] 64)
 have HBn := Aside0.mk (below_step HB.out hb)
 have HKn := Aside0.mk (HK.out.below hb)
 clear HB HK cHK0 cHK1 cHK2 cHK3 cHK4 hb
 have HB := HBn
 have HK := HKn
 clear HBn HKn
 have cHK0 := HK.out.c0
 have cHK1 := HK.out.c1
 have cHK2 := HK.out.c2
 have cHK3 := HK.out.c3
 have cHK4 := HK.out.c4
 generalize w1.alloc (.cells #[.int .i64 2, .slice A gs.length c, .int .i64 1, .slice Aa pl.length ca, .slice (some ⟨g1, 0, none⟩) ch.length cp1] 64) = ws at *
 have cHK10 := HK1.out.c0
 have cHK11 := HK1.out.c1
 have cHK12 := HK1.out.c2
 have cHK13 := HK1.out.c3
 have cHK14 := HK1.out.c4' HLd1.out
 go_upto_region 9 with (first | (go_at_call 53; (with_reducible refine (HK.out.given0 false (by rw [Hch.out]; decide) (by rw [Hch.out]; decide) H0.out).mono ?_); rintro e w1 ⟨g0, cp0, rfl, hR, hb⟩; have HRn_ := Aside0.mk (show Kd.R (Kd.int .i64) 3 _ _ (fun _ => True) (.slice (some ⟨g0, 0, none⟩) ch.length cp0) d0 from by rw [HD0.out]; exact hR); clear hR; have HBn := Aside0.mk (below_step HB.out hb); have HKn := Aside0.mk (HK.out.below hb); have HK1n := Aside0.mk (HK1.out.below hb); clear HB HK HK1 cHK0 cHK1 cHK2 cHK3 cHK4 cHK10 cHK11 cHK12 cHK13 cHK14 hb; have HB := HBn; have HK := HKn; have HK1 := HK1n; clear HBn HKn HK1n; have cHK0 := HK.out.c0; have cHK1 := HK.out.c1; have cHK2 := HK.out.c2; have cHK3 := HK.out.c3; have cHK4 := HK.out.c4; have cHK10 := HK1.out.c0; have cHK11 := HK1.out.c1; have cHK12 := HK1.out.c2; have cHK13 := HK1.out.c3; have cHK14 := HK1.out.c4' HLd1.out))
 have HK0 := Aside0.mk (show PerilAt w1.heap.size 2 A c gs 1 Aa ca pl (some ⟨g0, 0, none⟩) cp0 d0 (w1.alloc (.cells #[.int .i64 2, .slice A gs.length c, .int .i64 1, .slice Aa pl.length ca, .slice (some ⟨g0, 0, none⟩) ch.length cp0] 64)) from ⟨by rw [HLd0.out]; exact blk_new _ _, HK.out.hc, Kd.C_alloc HK.out.hgr _, HK.out.hca, Kd.C_alloc HK.out.hpl _, by rw [HLd0.out]; exact (Kd.R_reads' HRn_.out).2.1, Kd.C_alloc (Kd.R_reads' HRn_.out).2.2 _, HK.out.hg.alloc _⟩)
 clear HRn_
 have hb := below_alloc (Below.refl w1.heap.size w1) (.cells #[.int .i64 2, .slice A gs.length c, .int .i64 1, .slice Aa pl.length ca, .slice (some ⟨g0, 0, none⟩) ch.length cp0] 64)
 have HBn := Aside0.mk (below_step HB.out hb)
 have HKn := Aside0.mk (HK.out.below hb)
 have HK1n := Aside0.mk (HK1.out.below hb)
 clear HB HK HK1 cHK0 cHK1 cHK2 cHK3 cHK4 cHK10 cHK11 cHK12 cHK13 cHK14 hb
 have HB := HBn
 have HK := HKn
 have HK1 := HK1n
 clear HBn HKn HK1n
 have cHK0 := HK.out.c0
 have cHK1 := HK.out.c1
 have cHK2 := HK.out.c2
 have cHK3 := HK.out.c3
 have cHK4 := HK.out.c4
 have cHK10 := HK1.out.c0
 have cHK11 := HK1.out.c1
 have cHK12 := HK1.out.c2
 have cHK13 := HK1.out.c3
 have cHK14 := HK1.out.c4' HLd1.out
 generalize w1.alloc (.cells #[.int .i64 2, .slice A gs.length c, .int .i64 1, .slice Aa pl.length ca, .slice (some ⟨g0, 0, none⟩) ch.length cp0] 64) = ws at *
 have cHK00 := HK0.out.c0
 have cHK01 := HK0.out.c1
 have cHK02 := HK0.out.c2
 have cHK03 := HK0.out.c3
 have cHK04 := HK0.out.c4' HLd0.out
 go_upto_region 10 with (first | (go_at_call 42; (with_reducible refine (HK1.out.loss' H6.out rfl HLd1.out).mono ?_); rintro e w1 ⟨rfl, hb⟩; have HBn := Aside0.mk (below_step HB.out hb); have HKn := Aside0.mk (HK.out.below hb); have HK1n := Aside0.mk (HK1.out.below hb); have HK0n := Aside0.mk (HK0.out.below hb); clear HB HK HK1 HK0 cHK0 cHK1 cHK2 cHK3 cHK4 cHK10 cHK11 cHK12 cHK13 cHK14 cHK00 cHK01 cHK02 cHK03 cHK04 hb; have HB := HBn; have HK := HKn; have HK1 := HK1n; have HK0 := HK0n; clear HBn HKn HK1n HK0n; have cHK0 := HK.out.c0; have cHK1 := HK.out.c1; have cHK2 := HK.out.c2; have cHK3 := HK.out.c3; have cHK4 := HK.out.c4; have cHK10 := HK1.out.c0; have cHK11 := HK1.out.c1; have cHK12 := HK1.out.c2; have cHK13 := HK1.out.c3; have cHK14 := HK1.out.c4' HLd1.out; have cHK00 := HK0.out.c0; have cHK01 := HK0.out.c1; have cHK02 := HK0.out.c2; have cHK03 := HK0.out.c3; have cHK04 := HK0.out.c4' HLd0.out))
 go_upto_region 11 with (first | (go_at_call 42; (with_reducible refine (HK0.out.loss' H7.out rfl HLd0.out).mono ?_); rintro e w1 ⟨rfl, hb⟩; have HBn := Aside0.mk (below_step HB.out hb); have HKn := Aside0.mk (HK.out.below hb); have HK1n := Aside0.mk (HK1.out.below hb); have HK0n := Aside0.mk (HK0.out.below hb); clear HB HK HK1 HK0 cHK0 cHK1 cHK2 cHK3 cHK4 cHK10 cHK11 cHK12 cHK13 cHK14 cHK00 cHK01 cHK02 cHK03 cHK04 hb; have HB := HBn; have HK := HKn; have HK1 := HK1n; have HK0 := HK0n; clear HBn HKn HK1n HK0n; have cHK0 := HK.out.c0; have cHK1 := HK.out.c1; have cHK2 := HK.out.c2; have cHK3 := HK.out.c3; have cHK4 := HK.out.c4; have cHK10 := HK1.out.c0; have cHK11 := HK1.out.c1; have cHK12 := HK1.out.c2; have cHK13 := HK1.out.c3; have cHK14 := HK1.out.c4' HLd1.out; have cHK00 := HK0.out.c0; have cHK01 := HK0.out.c1; have cHK02 := HK0.out.c2; have cHK03 := HK0.out.c3; have cHK04 := HK0.out.c4' HLd0.out))
 clear HK1 HK0 cHK10 cHK11 cHK12 cHK13 cHK14 cHK00 cHK01 cHK02 cHK03 cHK04
 go_upto_region 12 with (first | (go_at_call 45; (with_reducible refine (HK.out.millionths H8.out).mono ?_); rintro e w1 ⟨rfl, hb⟩; have HBn := Aside0.mk (below_step HB.out hb); have HKn := Aside0.mk (HK.out.below hb); clear HB HK cHK0 cHK1 cHK2 cHK3 cHK4 hb; have HB := HBn; have HK := HKn; clear HBn HKn; have cHK0 := HK.out.c0; have cHK1 := HK.out.c1; have cHK2 := HK.out.c2; have cHK3 := HK.out.c3; have cHK4 := HK.out.c4))
 go_upto_region 13 with (first | (go_at_call 76; (with_reducible refine (quietuslaw12_example.calls 2 gs 1 pl ch _ HK.out.hg Hex.out).mono ?_); rintro e w1 ⟨v1, v3, v4, rfl, hS, hR3, hR4, hb⟩; obtain ⟨A2, c2, rfl⟩ := Kd.S_slice hS; obtain ⟨ga, ca2, rfl, hgb, hgl, _⟩ := Kd.R_form hR3 (by rw [Hpl.out]; decide); obtain ⟨Ac2, cc2, rfl⟩ := Kd.R_slice hR4; have HBE := Aside0.mk hb; have HS2 := Aside0.mk hS; have HR3 := Aside0.mk hR3; have HR4 := Aside0.mk hR4; have HGB := Aside0.mk hgb; have HGL := Aside0.mk hgl; clear hS hR3 hR4 hb hgb hgl cHK0 cHK1 cHK2 cHK3 cHK4))
 have HN := Aside0.mk (blk_new w1 (.cells #[.int .i64 2, .slice A2 gs.length c2, .int .i64 1, .slice (some ⟨ga, 0, none⟩) pl.length ca2, .slice Ac2 ch.length cc2] 64))
 have HSa := Aside0.mk (Kd.S_alloc HS2.out (.cells #[.int .i64 2, .slice A2 gs.length c2, .int .i64 1, .slice (some ⟨ga, 0, none⟩) pl.length ca2, .slice Ac2 ch.length cc2] 64))
 have HRa := Aside0.mk (Kd.R_alloc HR3.out (.cells #[.int .i64 2, .slice A2 gs.length c2, .int .i64 1, .slice (some ⟨ga, 0, none⟩) pl.length ca2, .slice Ac2 ch.length cc2] 64))
 have HRb := Aside0.mk (Kd.R_alloc HR4.out (.cells #[.int .i64 2, .slice A2 gs.length c2, .int .i64 1, .slice (some ⟨ga, 0, none⟩) pl.length ca2, .slice Ac2 ch.length cc2] 64))
 have HBa := Aside0.mk (below_alloc HBE.out (.cells #[.int .i64 2, .slice A2 gs.length c2, .int .i64 1, .slice (some ⟨ga, 0, none⟩) pl.length ca2, .slice Ac2 ch.length cc2] 64))
 clear HS2 HR3 HR4 HBE
 generalize w1.alloc (.cells #[.int .i64 2, .slice A2 gs.length c2, .int .i64 1, .slice (some ⟨ga, 0, none⟩) pl.length ca2, .slice Ac2 ch.length cc2] 64) = wn at *
 generalize w1.heap.size = gn at *
 have hgne : gn ≠ ga := by have := HGL.out; omega
 have HNE := Aside0.mk hgne
 have cn3 : wn.cell? ⟨gn, 3, none⟩ = some (.slice (some ⟨ga, 0, none⟩) pl.length ca2) := blk_cell HN.out 3
 obtain ⟨hom, hfz⟩ := Kd.R_celln (0 : Int) HRa.out (2 : Int) (by omega) (by rw [Hpl.out]; decide)
 rw [show (2 : Int).toNat = 2 from rfl] at hom hfz
 have hp2 : (2 : Int) < (pl.length : Int) := by rw [Hpl.out]; decide
 go_upto_region 14 with fail
 have HRP := Aside0.mk (Kd.R_putn HRa.out (2 : Int) (-1 : Int))
 rw [show (2 : Int).toNat = 2 from rfl] at HRP
 rw [← Hpn.out] at HRP
 have HBs := Aside0.mk (below_set (j := 2) (v := .int .i64 (-1)) HBa.out HGB.out)
 have hok : ∀ k_, some k_ ≠ (Value.slice (some ⟨ga, 0, none⟩) pl.length ca2).ownBlock → k_ ≠ ga := fun k_ hk_ e_ => hk_ (by rw [e_]; rfl)
 have HQ := Aside0.mk (show PerilAt gn 2 A2 c2 gs 1 (some ⟨ga, 0, none⟩) ca2 pn Ac2 cc2 ch (wn.setCell ⟨ga, 2, none⟩ (.int .i64 (-1))) from ⟨by rw [HLpn.out]; exact blk_far HN.out (p := ⟨ga, 2, none⟩) HNE.out _, (Kd.S_reads' HSa.out).2.1, (Kd.S_reads' (Kd.S_far (p := ⟨ga, 2, none⟩) HSa.out (fun k_ hk_ => hok k_ hk_.1) (.int .i64 (-1)))).2.2, by rw [HLpn.out]; exact (Kd.R_reads' HRa.out).2.1, (Kd.R_reads' HRP.out).2.2, (Kd.R_reads' HRb.out).2.1, (Kd.R_reads' (Kd.R_far (p := ⟨ga, 2, none⟩) HRb.out hok (.int .i64 (-1)))).2.2, HK.out.hg.below HBs.out⟩)
 have HKm := Aside0.mk (HK.out.below HBs.out)
 have HBm := Aside0.mk (below_step HB.out HBs.out)
 clear HK HB HN HSa HRa HRb HBa HRP HBs hom hfz cn3 hok hp2
 have HK := HKm
 have HB := HBm
 clear HKm HBm
 generalize wn.setCell ⟨ga, 2, none⟩ (.int .i64 (-1)) = w9 at *
 have cHK0 := HK.out.c0
 have cHK1 := HK.out.c1
 have cHK2 := HK.out.c2
 have cHK3 := HK.out.c3
 have cHK4 := HK.out.c4
 have cHQ0 := HQ.out.c0
 have cHQ1 := HQ.out.c1
 have cHQ2 := HQ.out.c2
 have cHKn3 := HQ.out.c3' HLpn.out
 have cHQ4 := HQ.out.c4
 go_upto_region 15 with (first | (go_at_call 42; (with_reducible refine (HQ.out.loss' H9.out HLpn.out rfl).mono ?_); rintro e w1 ⟨rfl, hb⟩; have HBn := Aside0.mk (below_step HB.out hb); have HKn := Aside0.mk (HK.out.below hb); have HQn := Aside0.mk (HQ.out.below hb); clear HB HK HQ cHK0 cHK1 cHK2 cHK3 cHK4 cHQ0 cHQ1 cHQ2 cHKn3 cHQ4 hb; have HB := HBn; have HK := HKn; have HQ := HQn; clear HBn HKn HQn; have cHK0 := HK.out.c0; have cHK1 := HK.out.c1; have cHK2 := HK.out.c2; have cHK3 := HK.out.c3; have cHK4 := HK.out.c4; have cHQ0 := HQ.out.c0; have cHQ1 := HQ.out.c1; have cHQ2 := HQ.out.c2; have cHKn3 := HQ.out.c3' HLpn.out; have cHQ4 := HQ.out.c4))
 go_upto_region 16 with (first | (go_at_call 44; (with_reducible refine (HK.out.compare' HQ.out H10.out HLpn.out).mono ?_); rintro e w1 ⟨rfl, hb⟩; have HBn := Aside0.mk (below_step HB.out hb); have HKn := Aside0.mk (HK.out.below hb); have HQn := Aside0.mk (HQ.out.below hb); clear HB HK HQ cHK0 cHK1 cHK2 cHK3 cHK4 cHQ0 cHQ1 cHQ2 cHKn3 cHQ4 hb; have HB := HBn; have HK := HKn; have HQ := HQn; clear HBn HKn HQn; have cHK0 := HK.out.c0; have cHK1 := HK.out.c1; have cHK2 := HK.out.c2; have cHK3 := HK.out.c3; have cHK4 := HK.out.c4; have cHQ0 := HQ.out.c0; have cHQ1 := HQ.out.c1; have cHQ2 := HQ.out.c2; have cHKn3 := HQ.out.c3' HLpn.out; have cHQ4 := HQ.out.c4))
 go_wp2
 go_ret
 exact ⟨rfl, HB.out⟩
theorem quietuslaw12_sanity.yes (w : World) (hG : HG w) :
  Calls Tryd.prog 38 #[] w fun e w' => e = .returned (.bool true) ∧ Below w.heap.size w w' :=
 quietuslaw12_sanity.main 40 [] [0, 1, 2] [1, 2, 4] [0, 1, -1] [16, 2, 4] [0, 2, 4] rfl rfl rfl rfl rfl rfl x12_check x12_total x12_lost1 x12_lost2 x12_loss x12_least x12_loss1 x12_loss0 x12_mill x12_lossn x12_comp w hG


/-! ### quietuslaw12_RiskLeastIsLeast: function 11 -/
theorem PerilAt.few {k g : Nat} {d : Int} {A : Option Addr} {c : Nat} {l : List (List Int)} {m : Int} {Aa : Option Addr} {ca : Nat} {pl : List Int} {Ac : Option Addr} {cc : Nat} {ch : List Int} {W : World} {n : Int} {r : Bool} (h : PerilAt g d A c l m Aa ca pl Ac cc ch W) (hr : quietusref12_Few.f k d l m pl ch n = some r) :
  Calls Tryd.prog 37 #[.agg #[.int .i64 d, .slice A l.length c, .int .i64 m, .slice Aa pl.length ca, .slice Ac ch.length cc], .int .i64 n] W fun e w' => e = .returned (.bool r) ∧ Below W.heap.size W w' :=
 quietusref12_Few.calls k d A c l m Aa ca pl Ac cc ch n r W h.hg h.hgr h.hc h.hpl h.hca h.hch h.hcc hr

/-! ### quietuslaw12_RiskMatchesSpec: function 8 -/
-- over PerilAt.few PerilAt.compare PerilAt.rloss PerilAt.rcheck
section
variable {g : Nat} {d : Int} {A : Option Addr} {c : Nat} {l : List (List Int)} {m : Int} {Aa : Option Addr} {ca : Nat} {pl : List Int} {Ac : Option Addr} {cc : Nat} {ch : List Int} {W W' : World}
theorem PerilAt.rleast {k : Nat} {r1 r2 : Int} (h : PerilAt g d A c l m Aa ca pl Ac cc ch W) (hr : quietusref12_Least.f k d l m pl ch = some (r1, r2)) :
    Calls Tryd.prog 47 #[.agg #[.int .i64 d, .slice A l.length c, .int .i64 m, .slice Aa pl.length ca, .slice Ac ch.length cc]] W fun e w' => e = .returned (.agg #[.int .i64 r1, .int .i64 r2]) ∧ Below W.heap.size W w' :=
  quietusref12_Least.calls k d A c l m Aa ca pl Ac cc ch r1 r2 W h.hg h.hgr h.hc h.hpl h.hca h.hch h.hcc hr
theorem PerilAt.rmillionths {k : Nat} {r1 r2 : Int} (h : PerilAt g d A c l m Aa ca pl Ac cc ch W) (hr : quietusref12_Millionths.f k d l m pl ch = some (r1, r2)) :
    Calls Tryd.prog 49 #[.agg #[.int .i64 d, .slice A l.length c, .int .i64 m, .slice Aa pl.length ca, .slice Ac ch.length cc]] W fun e w' => e = .returned (.agg #[.int .i64 r1, .int .i64 r2]) ∧ Below W.heap.size W w' :=
  quietusref12_Millionths.calls k d A c l m Aa ca pl Ac cc ch r1 r2 W h.hg h.hgr h.hc h.hpl h.hca h.hch h.hcc hr
end
theorem PerilAt.rcompare {k g g2 : Nat} {W : World} {a0_0 : Int} {A0_1 : Option Addr} {c0_1 : Nat} {l0_1 : List (List Int)} {a0_2 : Int} {A0_3 : Option Addr} {c0_3 : Nat} {l0_3 : List Int} {A0_4 : Option Addr} {c0_4 : Nat} {l0_4 : List Int} {a1_0 : Int} {A1_1 : Option Addr} {c1_1 : Nat} {l1_1 : List (List Int)} {a1_2 : Int} {A1_3 : Option Addr} {c1_3 : Nat} {l1_3 : List Int} {A1_4 : Option Addr} {c1_4 : Nat} {l1_4 : List Int} {r1 r2 : Int} (h : PerilAt g a0_0 A0_1 c0_1 l0_1 a0_2 A0_3 c0_3 l0_3 A0_4 c0_4 l0_4 W) (h2 : PerilAt g2 a1_0 A1_1 c1_1 l1_1 a1_2 A1_3 c1_3 l1_3 A1_4 c1_4 l1_4 W) (hr : quietusref12_Compare.f k a0_0 l0_1 a0_2 l0_3 l0_4 a1_0 l1_1 a1_2 l1_3 l1_4 = some (r1, r2)) :
    Calls Tryd.prog 48 #[.agg #[.int .i64 a0_0, .slice A0_1 l0_1.length c0_1, .int .i64 a0_2, .slice A0_3 l0_3.length c0_3, .slice A0_4 l0_4.length c0_4], .agg #[.int .i64 a1_0, .slice A1_1 l1_1.length c1_1, .int .i64 a1_2, .slice A1_3 l1_3.length c1_3, .slice A1_4 l1_4.length c1_4]] W fun e w' => e = .returned (.agg #[.int .i64 r1, .int .i64 r2]) ∧ Below W.heap.size W w' :=
  quietusref12_Compare.calls k a0_0 A0_1 c0_1 l0_1 a0_2 A0_3 c0_3 l0_3 A0_4 c0_4 l0_4 a1_0 A1_1 c1_1 l1_1 a1_2 A1_3 c1_3 l1_3 A1_4 c1_4 l1_4 r1 r2 W h.hg h.hgr h.hc h.hpl h.hca h.hch h.hcc h2.hgr h2.hc h2.hpl h2.hca h2.hch h2.hcc hr
set_option maxHeartbeats 4000000 in
set_option maxRecDepth 100000 in
theorem law12_spec.aside (k : Nat) (d : Int) (A : Option Addr) (c : Nat) (l : List (List Int)) (m : Int) (Aa : Option Addr) (ca : Nat) (pl : List Int) (Ac : Option Addr) (cc : Nat) (ch : List Int) (d2 : Int) (A2 : Option Addr) (c2 : Nat) (l2 : List (List Int)) (m2 : Int) (Aa2 : Option Addr) (ca2 : Nat) (pl2 : List Int) (Ac2 : Option Addr) (cc2 : Nat) (ch2 : List Int) (failed : Int) (f1 f2 : Bool) (w : World) (hG : HG w) (hC : Kd.C (Kd.slice 3 (Kd.int .i64)) w A l.length l) (hc : l.length ≤ c) (hP : (Kd.int .i64).C w Aa pl.length pl) (hca : pl.length ≤ ca) (hH : (Kd.int .i64).C w Ac ch.length ch) (hcc : ch.length ≤ cc) (hC2 : Kd.C (Kd.slice 3 (Kd.int .i64)) w A2 l2.length l2) (hc2 : l2.length ≤ c2) (hP2 : (Kd.int .i64).C w Aa2 pl2.length pl2) (hca2 : pl2.length ≤ ca2) (hH2 : (Kd.int .i64).C w Ac2 ch2.length ch2) (hcc2 : ch2.length ≤ cc2) (hfew : quietusref12_Few.f k d l m pl ch 9 = some f1) (hfew2 : quietusref12_Few.f k d2 l2 m2 pl2 ch2 9 = some f2) (hff : (f1 && f2) = false) :
    Calls Tryd.prog 8 #[.agg #[.int .i64 d, .slice A l.length c, .int .i64 m, .slice Aa pl.length ca, .slice Ac ch.length cc], .agg #[.int .i64 d2, .slice A2 l2.length c2, .int .i64 m2, .slice Aa2 pl2.length ca2, .slice Ac2 ch2.length cc2], .int .i64 failed] w fun e w' => e = .returned (.bool true) ∧ Below w.heap.size w w' := by
  have HK := Aside0.mk (show PerilAt w.heap.size d A c l m Aa ca pl Ac cc ch ((w.alloc (.cells #[.int .i64 d, .slice A l.length c, .int .i64 m, .slice Aa pl.length ca, .slice Ac ch.length cc] 64)).alloc (.cells #[.int .i64 d2, .slice A2 l2.length c2, .int .i64 m2, .slice Aa2 pl2.length ca2, .slice Ac2 ch2.length cc2] 64)) from PerilAt.below (W := w.alloc (.cells #[.int .i64 d, .slice A l.length c, .int .i64 m, .slice Aa pl.length ca, .slice Ac ch.length cc] 64)) ⟨blk_new _ _, hc, Kd.C_alloc hC _, hca, Kd.C_alloc hP _, hcc, Kd.C_alloc hH _, hG.alloc _⟩ (below_alloc (Below.refl _ _) _))
  have HK2 := Aside0.mk (show PerilAt (w.heap.size + 1) d2 A2 c2 l2 m2 Aa2 ca2 pl2 Ac2 cc2 ch2 ((w.alloc (.cells #[.int .i64 d, .slice A l.length c, .int .i64 m, .slice Aa pl.length ca, .slice Ac ch.length cc] 64)).alloc (.cells #[.int .i64 d2, .slice A2 l2.length c2, .int .i64 m2, .slice Aa2 pl2.length ca2, .slice Ac2 ch2.length cc2] 64)) from ⟨blk_new1 _ _ _, hc2, Kd.C_alloc (Kd.C_alloc hC2 _) _, hca2, Kd.C_alloc (Kd.C_alloc hP2 _) _, hcc2, Kd.C_alloc (Kd.C_alloc hH2 _) _, (hG.alloc _).alloc _⟩)
  have HB := Aside0.mk (show Below w.heap.size w ((w.alloc (.cells #[.int .i64 d, .slice A l.length c, .int .i64 m, .slice Aa pl.length ca, .slice Ac ch.length cc] 64)).alloc (.cells #[.int .i64 d2, .slice A2 l2.length c2, .int .i64 m2, .slice Aa2 pl2.length ca2, .slice Ac2 ch2.length cc2] 64)) from below_alloc (below_alloc (Below.refl _ _) _) _)
  have hu64 := Tryd.underlying64
  have hu24 := Tryd.underlying24
  have hu72 := Tryd.underlying72
  have cHK0 := HK.out.c0
  have cHK1 := HK.out.c1
  have cHK2 := HK.out.c2
  have cHK3 := HK.out.c3
  have cHK4 := HK.out.c4
  have c20 := HK2.out.c0
  have c21 := HK2.out.c1
  have c22 := HK2.out.c2
  have c23 := HK2.out.c3
  have c24 := HK2.out.c4
  clear hG hC hc hP hca hH hcc hC2 hc2 hP2 hca2 hH2 hcc2
  have HFEW := Aside0.mk hfew
  have HFEW2 := Aside0.mk hfew2
  clear hfew hfew2
  cases f1 <;> cases f2 <;> first
    | exact absurd hff (by decide)
    | (clear hff
       go_enter Tryd.func8, Tryd.ntmps8
       go_wp2_with (first | (go_at_call 37; (with_reducible refine (HK.out.few HFEW.out).mono ?_); rintro e w1 ⟨rfl, hb⟩; have HBn := Aside0.mk (below_step HB.out hb); have HKn := Aside0.mk (HK.out.below hb); have HK2n := Aside0.mk (HK2.out.below hb); clear HB HK HK2 cHK0 cHK1 cHK2 cHK3 cHK4 c20 c21 c22 c23 c24 hb; have HB := HBn; have HK := HKn; have HK2 := HK2n; clear HBn HKn HK2n; have cHK0 := HK.out.c0; have cHK1 := HK.out.c1; have cHK2 := HK.out.c2; have cHK3 := HK.out.c3; have cHK4 := HK.out.c4; have c20 := HK2.out.c0; have c21 := HK2.out.c1; have c22 := HK2.out.c2; have c23 := HK2.out.c3; have c24 := HK2.out.c4) | (go_at_call 37; (with_reducible refine (HK2.out.few HFEW2.out).mono ?_); rintro e w1 ⟨rfl, hb⟩; have HBn := Aside0.mk (below_step HB.out hb); have HKn := Aside0.mk (HK.out.below hb); have HK2n := Aside0.mk (HK2.out.below hb); clear HB HK HK2 cHK0 cHK1 cHK2 cHK3 cHK4 c20 c21 c22 c23 c24 hb; have HB := HBn; have HK := HKn; have HK2 := HK2n; clear HBn HKn HK2n; have cHK0 := HK.out.c0; have cHK1 := HK.out.c1; have cHK2 := HK.out.c2; have cHK3 := HK.out.c3; have cHK4 := HK.out.c4; have c20 := HK2.out.c0; have c21 := HK2.out.c1; have c22 := HK2.out.c2; have c23 := HK2.out.c3; have c24 := HK2.out.c4) | (go_at_call 38; (with_reducible refine (quietuslaw12_sanity.yes _ HK.out.hg).mono ?_); rintro e w1 ⟨rfl, hb⟩; have HBn := Aside0.mk (below_step HB.out hb); have HKn := Aside0.mk (HK.out.below hb); have HK2n := Aside0.mk (HK2.out.below hb); clear HB HK HK2 cHK0 cHK1 cHK2 cHK3 cHK4 c20 c21 c22 c23 c24 hb; have HB := HBn; have HK := HKn; have HK2 := HK2n; clear HBn HKn HK2n; have cHK0 := HK.out.c0; have cHK1 := HK.out.c1; have cHK2 := HK.out.c2; have cHK3 := HK.out.c3; have cHK4 := HK.out.c4; have c20 := HK2.out.c0; have c21 := HK2.out.c1; have c22 := HK2.out.c2; have c23 := HK2.out.c3; have c24 := HK2.out.c4))
       go_ret
       exact ⟨rfl, HB.out⟩)
set_option maxHeartbeats 4000000 in
set_option maxRecDepth 100000 in
theorem law12_spec.main (k : Nat) (d : Int) (A : Option Addr) (c : Nat) (l : List (List Int)) (m : Int) (Aa : Option Addr) (ca : Nat) (pl : List Int) (Ac : Option Addr) (cc : Nat) (ch : List Int) (d2 : Int) (A2 : Option Addr) (c2 : Nat) (l2 : List (List Int)) (m2 : Int) (Aa2 : Option Addr) (ca2 : Nat) (pl2 : List Int) (Ac2 : Option Addr) (cc2 : Nat) (ch2 : List Int) (failed : Int) (e T g x ex y ey z ez v ev : Int) (lo : Bool) (w : World) (hG : HG w) (hC : Kd.C (Kd.slice 3 (Kd.int .i64)) w A l.length l) (hc : l.length ≤ c) (hP : (Kd.int .i64).C w Aa pl.length pl) (hca : pl.length ≤ ca) (hH : (Kd.int .i64).C w Ac ch.length ch) (hcc : ch.length ≤ cc) (hC2 : Kd.C (Kd.slice 3 (Kd.int .i64)) w A2 l2.length l2) (hc2 : l2.length ≤ c2) (hP2 : (Kd.int .i64).C w Aa2 pl2.length pl2) (hca2 : pl2.length ≤ ca2) (hH2 : (Kd.int .i64).C w Ac2 ch2.length ch2) (hcc2 : ch2.length ≤ cc2)
    (hfew : quietusref12_Few.f k d l m pl ch 9 = some true) (hfew2 : quietusref12_Few.f k d2 l2 m2 pl2 ch2 9 = some true) (hrc : quietusref12_Check.f k d l m pl ch = some e) (hchk : risk_Check.f k d l m pl ch = some e) (htot : risk_Total.f k d l m pl ch = some (T, e)) (hlost : risk_Lost.f k d l m pl ch failed = some (lo, g)) (hloss : risk_Loss.f k d l m pl ch = some (x, ex)) (hleast : risk_Least.f k d l m pl ch = some (y, ey)) (hcmp : risk_Compare.f k d l m pl ch d2 l2 m2 pl2 ch2 = some (z, ez)) (hmil : risk_Millionths.f k d l m pl ch = some (v, ev)) (rloss : quietusref12_Loss.f k d l m pl ch = some (x, ex)) (rleast : quietusref12_Least.f k d l m pl ch = some (y, ey)) (rcmp : quietusref12_Compare.f k d l m pl ch d2 l2 m2 pl2 ch2 = some (z, ez)) (rmil : quietusref12_Millionths.f k d l m pl ch = some (v, ev))
    (hend : (e ≠ 0 ∧ T = 0 ∧ lo = false ∧ g = e) ∨ (e = 0 ∧ ch.length ≤ 12 ∧ quietusref12_Power.f k (ch.length : Int) = some T ∧ (((failed < 0 ∨ ((2 ^ ch.length : Nat) : Int) ≤ failed) ∧ lo = false ∧ g = 1) ∨ (0 ≤ failed ∧ failed < ((2 ^ ch.length : Nat) : Int) ∧ g = 0 ∧ quietusref12_Loses.f k d l m pl ch failed = some lo)))) :
    Calls Tryd.prog 8 #[.agg #[.int .i64 d, .slice A l.length c, .int .i64 m, .slice Aa pl.length ca, .slice Ac ch.length cc], .agg #[.int .i64 d2, .slice A2 l2.length c2, .int .i64 m2, .slice Aa2 pl2.length ca2, .slice Ac2 ch2.length cc2], .int .i64 failed] w fun e w' => e = .returned (.bool true) ∧ Below w.heap.size w w' := by
  have HFEW := Aside0.mk hfew
  have HFEW2 := Aside0.mk hfew2
  have HRC := Aside0.mk hrc
  have HCHK := Aside0.mk hchk
  have HTOT := Aside0.mk htot
  have HLOST := Aside0.mk hlost
  have HLOSS := Aside0.mk hloss
  have HLEAST := Aside0.mk hleast
  have HCMP := Aside0.mk hcmp
  have HMIL := Aside0.mk hmil
  have RLOSS := Aside0.mk rloss
  have RLEAST := Aside0.mk rleast
  have RCMP := Aside0.mk rcmp
  have RMIL := Aside0.mk rmil
  have HEND := Aside0.mk hend
  have HK := Aside0.mk (show PerilAt w.heap.size d A c l m Aa ca pl Ac cc ch ((w.alloc (.cells #[.int .i64 d, .slice A l.length c, .int .i64 m, .slice Aa pl.length ca, .slice Ac ch.length cc] 64)).alloc (.cells #[.int .i64 d2, .slice A2 l2.length c2, .int .i64 m2, .slice Aa2 pl2.length ca2, .slice Ac2 ch2.length cc2] 64)) from PerilAt.below (W := w.alloc (.cells #[.int .i64 d, .slice A l.length c, .int .i64 m, .slice Aa pl.length ca, .slice Ac ch.length cc] 64)) ⟨blk_new _ _, hc, Kd.C_alloc hC _, hca, Kd.C_alloc hP _, hcc, Kd.C_alloc hH _, hG.alloc _⟩ (below_alloc (Below.refl _ _) _))
  have HK2 := Aside0.mk (show PerilAt (w.heap.size + 1) d2 A2 c2 l2 m2 Aa2 ca2 pl2 Ac2 cc2 ch2 ((w.alloc (.cells #[.int .i64 d, .slice A l.length c, .int .i64 m, .slice Aa pl.length ca, .slice Ac ch.length cc] 64)).alloc (.cells #[.int .i64 d2, .slice A2 l2.length c2, .int .i64 m2, .slice Aa2 pl2.length ca2, .slice Ac2 ch2.length cc2] 64)) from ⟨blk_new1 _ _ _, hc2, Kd.C_alloc (Kd.C_alloc hC2 _) _, hca2, Kd.C_alloc (Kd.C_alloc hP2 _) _, hcc2, Kd.C_alloc (Kd.C_alloc hH2 _) _, (hG.alloc _).alloc _⟩)
  have HB := Aside0.mk (show Below w.heap.size w ((w.alloc (.cells #[.int .i64 d, .slice A l.length c, .int .i64 m, .slice Aa pl.length ca, .slice Ac ch.length cc] 64)).alloc (.cells #[.int .i64 d2, .slice A2 l2.length c2, .int .i64 m2, .slice Aa2 pl2.length ca2, .slice Ac2 ch2.length cc2] 64)) from below_alloc (below_alloc (Below.refl _ _) _) _)
  have hu64 := Tryd.underlying64
  have hu24 := Tryd.underlying24
  have hu72 := Tryd.underlying72
  have cHK0 := HK.out.c0
  have cHK1 := HK.out.c1
  have cHK2 := HK.out.c2
  have cHK3 := HK.out.c3
  have cHK4 := HK.out.c4
  have c20 := HK2.out.c0
  have c21 := HK2.out.c1
  have c22 := HK2.out.c2
  have c23 := HK2.out.c3
  have c24 := HK2.out.c4
  clear hG hC hc hP hca hH hcc hC2 hc2 hP2 hca2 hH2 hcc2
  clear hend hfew hfew2 hrc hchk htot hlost hloss hleast hcmp hmil rloss rleast rcmp rmil
  go_enter Tryd.func8, Tryd.ntmps8
  go_upto_region 12 with (first | (go_at_call 37; (with_reducible refine (HK.out.few HFEW.out).mono ?_); rintro e w1 ⟨rfl, hb⟩; have HBn := Aside0.mk (below_step HB.out hb); have HKn := Aside0.mk (HK.out.below hb); have HK2n := Aside0.mk (HK2.out.below hb); clear HB HK HK2 cHK0 cHK1 cHK2 cHK3 cHK4 c20 c21 c22 c23 c24 hb; have HB := HBn; have HK := HKn; have HK2 := HK2n; clear HBn HKn HK2n; have cHK0 := HK.out.c0; have cHK1 := HK.out.c1; have cHK2 := HK.out.c2; have cHK3 := HK.out.c3; have cHK4 := HK.out.c4; have c20 := HK2.out.c0; have c21 := HK2.out.c1; have c22 := HK2.out.c2; have c23 := HK2.out.c3; have c24 := HK2.out.c4) | (go_at_call 37; (with_reducible refine (HK2.out.few HFEW2.out).mono ?_); rintro e w1 ⟨rfl, hb⟩; have HBn := Aside0.mk (below_step HB.out hb); have HKn := Aside0.mk (HK.out.below hb); have HK2n := Aside0.mk (HK2.out.below hb); clear HB HK HK2 cHK0 cHK1 cHK2 cHK3 cHK4 c20 c21 c22 c23 c24 hb; have HB := HBn; have HK := HKn; have HK2 := HK2n; clear HBn HKn HK2n; have cHK0 := HK.out.c0; have cHK1 := HK.out.c1; have cHK2 := HK.out.c2; have cHK3 := HK.out.c3; have cHK4 := HK.out.c4; have c20 := HK2.out.c0; have c21 := HK2.out.c1; have c22 := HK2.out.c2; have c23 := HK2.out.c3; have c24 := HK2.out.c4) | (go_at_call 39; (with_reducible refine (HK.out.rcheck HRC.out).mono ?_); rintro e w1 ⟨rfl, hb⟩; have HBn := Aside0.mk (below_step HB.out hb); have HKn := Aside0.mk (HK.out.below hb); have HK2n := Aside0.mk (HK2.out.below hb); clear HB HK HK2 cHK0 cHK1 cHK2 cHK3 cHK4 c20 c21 c22 c23 c24 hb; have HB := HBn; have HK := HKn; have HK2 := HK2n; clear HBn HKn HK2n; have cHK0 := HK.out.c0; have cHK1 := HK.out.c1; have cHK2 := HK.out.c2; have cHK3 := HK.out.c3; have cHK4 := HK.out.c4; have c20 := HK2.out.c0; have c21 := HK2.out.c1; have c22 := HK2.out.c2; have c23 := HK2.out.c3; have c24 := HK2.out.c4) | (go_at_call 40; (with_reducible refine (HK.out.total HTOT.out).mono ?_); rintro e w1 ⟨rfl, hb⟩; have HBn := Aside0.mk (below_step HB.out hb); have HKn := Aside0.mk (HK.out.below hb); have HK2n := Aside0.mk (HK2.out.below hb); clear HB HK HK2 cHK0 cHK1 cHK2 cHK3 cHK4 c20 c21 c22 c23 c24 hb; have HB := HBn; have HK := HKn; have HK2 := HK2n; clear HBn HKn HK2n; have cHK0 := HK.out.c0; have cHK1 := HK.out.c1; have cHK2 := HK.out.c2; have cHK3 := HK.out.c3; have cHK4 := HK.out.c4; have c20 := HK2.out.c0; have c21 := HK2.out.c1; have c22 := HK2.out.c2; have c23 := HK2.out.c3; have c24 := HK2.out.c4) | (go_at_call 41; (with_reducible refine (HK.out.lost HLOST.out).mono ?_); rintro e w1 ⟨rfl, hb⟩; have HBn := Aside0.mk (below_step HB.out hb); have HKn := Aside0.mk (HK.out.below hb); have HK2n := Aside0.mk (HK2.out.below hb); clear HB HK HK2 cHK0 cHK1 cHK2 cHK3 cHK4 c20 c21 c22 c23 c24 hb; have HB := HBn; have HK := HKn; have HK2 := HK2n; clear HBn HKn HK2n; have cHK0 := HK.out.c0; have cHK1 := HK.out.c1; have cHK2 := HK.out.c2; have cHK3 := HK.out.c3; have cHK4 := HK.out.c4; have c20 := HK2.out.c0; have c21 := HK2.out.c1; have c22 := HK2.out.c2; have c23 := HK2.out.c3; have c24 := HK2.out.c4) | (go_at_call 42; (with_reducible refine (HK.out.loss HLOSS.out).mono ?_); rintro e w1 ⟨rfl, hb⟩; have HBn := Aside0.mk (below_step HB.out hb); have HKn := Aside0.mk (HK.out.below hb); have HK2n := Aside0.mk (HK2.out.below hb); clear HB HK HK2 cHK0 cHK1 cHK2 cHK3 cHK4 c20 c21 c22 c23 c24 hb; have HB := HBn; have HK := HKn; have HK2 := HK2n; clear HBn HKn HK2n; have cHK0 := HK.out.c0; have cHK1 := HK.out.c1; have cHK2 := HK.out.c2; have cHK3 := HK.out.c3; have cHK4 := HK.out.c4; have c20 := HK2.out.c0; have c21 := HK2.out.c1; have c22 := HK2.out.c2; have c23 := HK2.out.c3; have c24 := HK2.out.c4) | (go_at_call 43; (with_reducible refine (HK.out.least HLEAST.out).mono ?_); rintro e w1 ⟨rfl, hb⟩; have HBn := Aside0.mk (below_step HB.out hb); have HKn := Aside0.mk (HK.out.below hb); have HK2n := Aside0.mk (HK2.out.below hb); clear HB HK HK2 cHK0 cHK1 cHK2 cHK3 cHK4 c20 c21 c22 c23 c24 hb; have HB := HBn; have HK := HKn; have HK2 := HK2n; clear HBn HKn HK2n; have cHK0 := HK.out.c0; have cHK1 := HK.out.c1; have cHK2 := HK.out.c2; have cHK3 := HK.out.c3; have cHK4 := HK.out.c4; have c20 := HK2.out.c0; have c21 := HK2.out.c1; have c22 := HK2.out.c2; have c23 := HK2.out.c3; have c24 := HK2.out.c4) | (go_at_call 44; (with_reducible refine (HK.out.compare HK2.out HCMP.out).mono ?_); rintro e w1 ⟨rfl, hb⟩; have HBn := Aside0.mk (below_step HB.out hb); have HKn := Aside0.mk (HK.out.below hb); have HK2n := Aside0.mk (HK2.out.below hb); clear HB HK HK2 cHK0 cHK1 cHK2 cHK3 cHK4 c20 c21 c22 c23 c24 hb; have HB := HBn; have HK := HKn; have HK2 := HK2n; clear HBn HKn HK2n; have cHK0 := HK.out.c0; have cHK1 := HK.out.c1; have cHK2 := HK.out.c2; have cHK3 := HK.out.c3; have cHK4 := HK.out.c4; have c20 := HK2.out.c0; have c21 := HK2.out.c1; have c22 := HK2.out.c2; have c23 := HK2.out.c3; have c24 := HK2.out.c4) | (go_at_call 45; (with_reducible refine (HK.out.millionths HMIL.out).mono ?_); rintro e w1 ⟨rfl, hb⟩; have HBn := Aside0.mk (below_step HB.out hb); have HKn := Aside0.mk (HK.out.below hb); have HK2n := Aside0.mk (HK2.out.below hb); clear HB HK HK2 cHK0 cHK1 cHK2 cHK3 cHK4 c20 c21 c22 c23 c24 hb; have HB := HBn; have HK := HKn; have HK2 := HK2n; clear HBn HKn HK2n; have cHK0 := HK.out.c0; have cHK1 := HK.out.c1; have cHK2 := HK.out.c2; have cHK3 := HK.out.c3; have cHK4 := HK.out.c4; have c20 := HK2.out.c0; have c21 := HK2.out.c1; have c22 := HK2.out.c2; have c23 := HK2.out.c3; have c24 := HK2.out.c4))
  go_upto_region 13 with (first | (go_at_call 46; (with_reducible refine (HK.out.rloss RLOSS.out).mono ?_); rintro e w1 ⟨rfl, hb⟩; have HBn := Aside0.mk (below_step HB.out hb); have HKn := Aside0.mk (HK.out.below hb); have HK2n := Aside0.mk (HK2.out.below hb); clear HB HK HK2 cHK0 cHK1 cHK2 cHK3 cHK4 c20 c21 c22 c23 c24 hb; have HB := HBn; have HK := HKn; have HK2 := HK2n; clear HBn HKn HK2n; have cHK0 := HK.out.c0; have cHK1 := HK.out.c1; have cHK2 := HK.out.c2; have cHK3 := HK.out.c3; have cHK4 := HK.out.c4; have c20 := HK2.out.c0; have c21 := HK2.out.c1; have c22 := HK2.out.c2; have c23 := HK2.out.c3; have c24 := HK2.out.c4))
  have HX := Aside0.mk (blk_new w1 (.cells #[.int .i64 x, .int .i64 ex] 72))
  have hb := below_alloc (Below.refl w1.heap.size w1) (.cells #[.int .i64 x, .int .i64 ex] 72)
  clear cHK0 cHK1 cHK2 cHK3 cHK4 c20 c21 c22 c23 c24
  have HBn := Aside0.mk (below_step HB.out hb)
  have HKn := Aside0.mk (HK.out.below hb)
  have HK2n := Aside0.mk (HK2.out.below hb)
  clear HB HK HK2 hb
  have HB := HBn
  have HK := HKn
  have HK2 := HK2n
  clear HBn HKn HK2n
  generalize w1.alloc (.cells #[.int .i64 x, .int .i64 ex] 72) = ws at *
  have cHK0 := HK.out.c0
  have cHK1 := HK.out.c1
  have cHK2 := HK.out.c2
  have cHK3 := HK.out.c3
  have cHK4 := HK.out.c4
  have c20 := HK2.out.c0
  have c21 := HK2.out.c1
  have c22 := HK2.out.c2
  have c23 := HK2.out.c3
  have c24 := HK2.out.c4
  have hx0 := blk_cell HX.out 0
  have hx1 := blk_cell HX.out 1
  generalize w1.heap.size = gx at *
  go_upto_region 14 with (first | (go_at_call 47; (with_reducible refine (HK.out.rleast RLEAST.out).mono ?_); rintro e w1 ⟨rfl, hb⟩; have HBn := Aside0.mk (below_step HB.out hb); have HKn := Aside0.mk (HK.out.below hb); have HK2n := Aside0.mk (HK2.out.below hb); have HXn := Aside0.mk (blk_below HX.out hb); clear HB HK HK2 HX cHK0 cHK1 cHK2 cHK3 cHK4 c20 c21 c22 c23 c24 hx0 hx1 hb; have HB := HBn; have HK := HKn; have HK2 := HK2n; have HX := HXn; clear HBn HKn HK2n HXn; have cHK0 := HK.out.c0; have cHK1 := HK.out.c1; have cHK2 := HK.out.c2; have cHK3 := HK.out.c3; have cHK4 := HK.out.c4; have c20 := HK2.out.c0; have c21 := HK2.out.c1; have c22 := HK2.out.c2; have c23 := HK2.out.c3; have c24 := HK2.out.c4; have hx0 := blk_cell HX.out 0; have hx1 := blk_cell HX.out 1))
  have HY := Aside0.mk (blk_new w1 (.cells #[.int .i64 y, .int .i64 ey] 72))
  have hb := below_alloc (Below.refl w1.heap.size w1) (.cells #[.int .i64 y, .int .i64 ey] 72)
  clear cHK0 cHK1 cHK2 cHK3 cHK4 c20 c21 c22 c23 c24 hx0 hx1
  have HBn := Aside0.mk (below_step HB.out hb)
  have HKn := Aside0.mk (HK.out.below hb)
  have HK2n := Aside0.mk (HK2.out.below hb)
  have HXn := Aside0.mk (blk_below HX.out hb)
  clear HB HK HK2 HX hb
  have HB := HBn
  have HK := HKn
  have HK2 := HK2n
  have HX := HXn
  clear HBn HKn HK2n HXn
  generalize w1.alloc (.cells #[.int .i64 y, .int .i64 ey] 72) = ws at *
  have cHK0 := HK.out.c0
  have cHK1 := HK.out.c1
  have cHK2 := HK.out.c2
  have cHK3 := HK.out.c3
  have cHK4 := HK.out.c4
  have c20 := HK2.out.c0
  have c21 := HK2.out.c1
  have c22 := HK2.out.c2
  have c23 := HK2.out.c3
  have c24 := HK2.out.c4
  have hx0 := blk_cell HX.out 0
  have hx1 := blk_cell HX.out 1
  have hy0 := blk_cell HY.out 0
  have hy1 := blk_cell HY.out 1
  generalize w1.heap.size = gy at *
  go_upto_region 15 with (first | (go_at_call 48; (with_reducible refine (HK.out.rcompare HK2.out RCMP.out).mono ?_); rintro e w1 ⟨rfl, hb⟩; have HBn := Aside0.mk (below_step HB.out hb); have HKn := Aside0.mk (HK.out.below hb); have HK2n := Aside0.mk (HK2.out.below hb); have HXn := Aside0.mk (blk_below HX.out hb); have HYn := Aside0.mk (blk_below HY.out hb); clear HB HK HK2 HX HY cHK0 cHK1 cHK2 cHK3 cHK4 c20 c21 c22 c23 c24 hx0 hx1 hy0 hy1 hb; have HB := HBn; have HK := HKn; have HK2 := HK2n; have HX := HXn; have HY := HYn; clear HBn HKn HK2n HXn HYn; have cHK0 := HK.out.c0; have cHK1 := HK.out.c1; have cHK2 := HK.out.c2; have cHK3 := HK.out.c3; have cHK4 := HK.out.c4; have c20 := HK2.out.c0; have c21 := HK2.out.c1; have c22 := HK2.out.c2; have c23 := HK2.out.c3; have c24 := HK2.out.c4; have hx0 := blk_cell HX.out 0; have hx1 := blk_cell HX.out 1; have hy0 := blk_cell HY.out 0; have hy1 := blk_cell HY.out 1))
  have HZ := Aside0.mk (blk_new w1 (.cells #[.int .i64 z, .int .i64 ez] 72))
  have hb := below_alloc (Below.refl w1.heap.size w1) (.cells #[.int .i64 z, .int .i64 ez] 72)
  clear cHK0 cHK1 cHK2 cHK3 cHK4 c20 c21 c22 c23 c24 hx0 hx1 hy0 hy1
  have HBn := Aside0.mk (below_step HB.out hb)
  have HKn := Aside0.mk (HK.out.below hb)
  have HK2n := Aside0.mk (HK2.out.below hb)
  have HXn := Aside0.mk (blk_below HX.out hb)
  have HYn := Aside0.mk (blk_below HY.out hb)
  clear HB HK HK2 HX HY hb
  have HB := HBn
  have HK := HKn
  have HK2 := HK2n
  have HX := HXn
  have HY := HYn
  clear HBn HKn HK2n HXn HYn
  generalize w1.alloc (.cells #[.int .i64 z, .int .i64 ez] 72) = ws at *
  have cHK0 := HK.out.c0
  have cHK1 := HK.out.c1
  have cHK2 := HK.out.c2
  have cHK3 := HK.out.c3
  have cHK4 := HK.out.c4
  have c20 := HK2.out.c0
  have c21 := HK2.out.c1
  have c22 := HK2.out.c2
  have c23 := HK2.out.c3
  have c24 := HK2.out.c4
  have hx0 := blk_cell HX.out 0
  have hx1 := blk_cell HX.out 1
  have hy0 := blk_cell HY.out 0
  have hy1 := blk_cell HY.out 1
  have hz0 := blk_cell HZ.out 0
  have hz1 := blk_cell HZ.out 1
  generalize w1.heap.size = gz at *
  go_upto_region 16 with (first | (go_at_call 49; (with_reducible refine (HK.out.rmillionths RMIL.out).mono ?_); rintro e w1 ⟨rfl, hb⟩; have HBn := Aside0.mk (below_step HB.out hb); have HKn := Aside0.mk (HK.out.below hb); have HK2n := Aside0.mk (HK2.out.below hb); have HXn := Aside0.mk (blk_below HX.out hb); have HYn := Aside0.mk (blk_below HY.out hb); have HZn := Aside0.mk (blk_below HZ.out hb); clear HB HK HK2 HX HY HZ cHK0 cHK1 cHK2 cHK3 cHK4 c20 c21 c22 c23 c24 hx0 hx1 hy0 hy1 hz0 hz1 hb; have HB := HBn; have HK := HKn; have HK2 := HK2n; have HX := HXn; have HY := HYn; have HZ := HZn; clear HBn HKn HK2n HXn HYn HZn; have cHK0 := HK.out.c0; have cHK1 := HK.out.c1; have cHK2 := HK.out.c2; have cHK3 := HK.out.c3; have cHK4 := HK.out.c4; have c20 := HK2.out.c0; have c21 := HK2.out.c1; have c22 := HK2.out.c2; have c23 := HK2.out.c3; have c24 := HK2.out.c4; have hx0 := blk_cell HX.out 0; have hx1 := blk_cell HX.out 1; have hy0 := blk_cell HY.out 0; have hy1 := blk_cell HY.out 1; have hz0 := blk_cell HZ.out 0; have hz1 := blk_cell HZ.out 1))
  have HV := Aside0.mk (blk_new w1 (.cells #[.int .i64 v, .int .i64 ev] 72))
  have hb := below_alloc (Below.refl w1.heap.size w1) (.cells #[.int .i64 v, .int .i64 ev] 72)
  clear cHK0 cHK1 cHK2 cHK3 cHK4 c20 c21 c22 c23 c24 hx0 hx1 hy0 hy1 hz0 hz1
  have HBn := Aside0.mk (below_step HB.out hb)
  have HKn := Aside0.mk (HK.out.below hb)
  have HK2n := Aside0.mk (HK2.out.below hb)
  have HXn := Aside0.mk (blk_below HX.out hb)
  have HYn := Aside0.mk (blk_below HY.out hb)
  have HZn := Aside0.mk (blk_below HZ.out hb)
  clear HB HK HK2 HX HY HZ hb
  have HB := HBn
  have HK := HKn
  have HK2 := HK2n
  have HX := HXn
  have HY := HYn
  have HZ := HZn
  clear HBn HKn HK2n HXn HYn HZn
  generalize w1.alloc (.cells #[.int .i64 v, .int .i64 ev] 72) = ws at *
  have cHK0 := HK.out.c0
  have cHK1 := HK.out.c1
  have cHK2 := HK.out.c2
  have cHK3 := HK.out.c3
  have cHK4 := HK.out.c4
  have c20 := HK2.out.c0
  have c21 := HK2.out.c1
  have c22 := HK2.out.c2
  have c23 := HK2.out.c3
  have c24 := HK2.out.c4
  have hx0 := blk_cell HX.out 0
  have hx1 := blk_cell HX.out 1
  have hy0 := blk_cell HY.out 0
  have hy1 := blk_cell HY.out 1
  have hz0 := blk_cell HZ.out 0
  have hz1 := blk_cell HZ.out 1
  have hv0 := blk_cell HV.out 0
  have hv1 := blk_cell HV.out 1
  generalize w1.heap.size = gv at *
  have ne_e : (e != e) = false := bne_self_eq_false _
  have ne_x : (x != x) = false := bne_self_eq_false _
  have ne_ex : (ex != ex) = false := bne_self_eq_false _
  have ne_y : (y != y) = false := bne_self_eq_false _
  have ne_ey : (ey != ey) = false := bne_self_eq_false _
  have ne_z : (z != z) = false := bne_self_eq_false _
  have ne_ez : (ez != ez) = false := bne_self_eq_false _
  have ne_v : (v != v) = false := bne_self_eq_false _
  have ne_ev : (ev != ev) = false := bne_self_eq_false _
  go_upto_region 18 with (first | (go_at_call 50; (with_reducible refine (HK.out.check HCHK.out).mono ?_); rintro e w1 ⟨rfl, hb⟩; have HBn := Aside0.mk (below_step HB.out hb); have HKn := Aside0.mk (HK.out.below hb); have HK2n := Aside0.mk (HK2.out.below hb); have HXn := Aside0.mk (blk_below HX.out hb); have HYn := Aside0.mk (blk_below HY.out hb); have HZn := Aside0.mk (blk_below HZ.out hb); have HVn := Aside0.mk (blk_below HV.out hb); clear HB HK HK2 HX HY HZ HV cHK0 cHK1 cHK2 cHK3 cHK4 c20 c21 c22 c23 c24 hx0 hx1 hy0 hy1 hz0 hz1 hv0 hv1 hb; have HB := HBn; have HK := HKn; have HK2 := HK2n; have HX := HXn; have HY := HYn; have HZ := HZn; have HV := HVn; clear HBn HKn HK2n HXn HYn HZn HVn; have cHK0 := HK.out.c0; have cHK1 := HK.out.c1; have cHK2 := HK.out.c2; have cHK3 := HK.out.c3; have cHK4 := HK.out.c4; have c20 := HK2.out.c0; have c21 := HK2.out.c1; have c22 := HK2.out.c2; have c23 := HK2.out.c3; have c24 := HK2.out.c4; have hx0 := blk_cell HX.out 0; have hx1 := blk_cell HX.out 1; have hy0 := blk_cell HY.out 0; have hy1 := blk_cell HY.out 1; have hz0 := blk_cell HZ.out 0; have hz1 := blk_cell HZ.out 1; have hv0 := blk_cell HV.out 0; have hv1 := blk_cell HV.out 1))
  clear ne_e ne_x ne_ex ne_y ne_ey ne_z ne_ez ne_v ne_ev
  clear hx0 hx1 hy0 hy1 hz0 hz1 hv0 hv1
  clear HX HY HZ HV HK2 c20 c21 c22 c23 c24
  rcases HEND.out with ⟨e0, hT, hlo, hg⟩ | ⟨e0, hn, hpw, hcase⟩
  · subst hT hlo hg
    have b1 : (g != 0) = true := bne_iff_ne.2 e0
    have b2 : (g == g) = true := beq_self_eq_true _
    clear HEND e0
    go_wp2_with (first | (go_at_call 38; (with_reducible refine (quietuslaw12_sanity.yes _ HK.out.hg).mono ?_); rintro e w1 ⟨rfl, hb⟩; have HBn := Aside0.mk (below_step HB.out hb); have HKn := Aside0.mk (HK.out.below hb); clear HB HK cHK0 cHK1 cHK2 cHK3 cHK4 hb; have HB := HBn; have HK := HKn; clear HBn HKn; have cHK0 := HK.out.c0; have cHK1 := HK.out.c1; have cHK2 := HK.out.c2; have cHK3 := HK.out.c3; have cHK4 := HK.out.c4))
    go_ret
    exact ⟨rfl, HB.out⟩
  · subst e0
    have HPW := Aside0.mk hpw
    have hn24 : ch.length ≤ 24 := Nat.le_trans hn (by decide)
    have hpwr := pow_wrap ch.length hn24
    have b3 : (T == T) = true := beq_self_eq_true _
    rcases hcase with ⟨hcase, hlo, hg⟩ | ⟨h0, h1, hg, hls⟩
    · subst hlo hg
      clear HEND hpw
      by_cases hneg : failed < 0
      · have b1 : decide (failed < 0) = true := decide_eq_true hneg
        clear hcase hneg hpwr
        go_wp2_with (first | (go_at_call 38; (with_reducible refine (quietuslaw12_sanity.yes _ HK.out.hg).mono ?_); rintro e w1 ⟨rfl, hb⟩; have HBn := Aside0.mk (below_step HB.out hb); have HKn := Aside0.mk (HK.out.below hb); clear HB HK cHK0 cHK1 cHK2 cHK3 cHK4 hb; have HB := HBn; have HK := HKn; clear HBn HKn; have cHK0 := HK.out.c0; have cHK1 := HK.out.c1; have cHK2 := HK.out.c2; have cHK3 := HK.out.c3; have cHK4 := HK.out.c4) | (go_at_call 51; (with_reducible refine (quietusref12_Power.calls k _ T _ HK.out.hg HPW.out).mono ?_); rintro e w1 ⟨rfl, hd⟩; have hb := hd.below; clear hd; have HBn := Aside0.mk (below_step HB.out hb); have HKn := Aside0.mk (HK.out.below hb); clear HB HK cHK0 cHK1 cHK2 cHK3 cHK4 hb; have HB := HBn; have HK := HKn; clear HBn HKn; have cHK0 := HK.out.c0; have cHK1 := HK.out.c1; have cHK2 := HK.out.c2; have cHK3 := HK.out.c3; have cHK4 := HK.out.c4))
        go_ret
        exact ⟨rfl, HB.out⟩
      · have b1 : decide (failed < 0) = false := decide_eq_false hneg
        have b2 : decide (wrap64 ((2 : Int) ^ ch.length) ≤ failed) = true := decide_eq_true (by rw [hpwr]; exact hcase.resolve_left hneg)
        clear hcase hneg hpwr
        go_wp2_with (first | (go_at_call 38; (with_reducible refine (quietuslaw12_sanity.yes _ HK.out.hg).mono ?_); rintro e w1 ⟨rfl, hb⟩; have HBn := Aside0.mk (below_step HB.out hb); have HKn := Aside0.mk (HK.out.below hb); clear HB HK cHK0 cHK1 cHK2 cHK3 cHK4 hb; have HB := HBn; have HK := HKn; clear HBn HKn; have cHK0 := HK.out.c0; have cHK1 := HK.out.c1; have cHK2 := HK.out.c2; have cHK3 := HK.out.c3; have cHK4 := HK.out.c4) | (go_at_call 51; (with_reducible refine (quietusref12_Power.calls k _ T _ HK.out.hg HPW.out).mono ?_); rintro e w1 ⟨rfl, hd⟩; have hb := hd.below; clear hd; have HBn := Aside0.mk (below_step HB.out hb); have HKn := Aside0.mk (HK.out.below hb); clear HB HK cHK0 cHK1 cHK2 cHK3 cHK4 hb; have HB := HBn; have HK := HKn; clear HBn HKn; have cHK0 := HK.out.c0; have cHK1 := HK.out.c1; have cHK2 := HK.out.c2; have cHK3 := HK.out.c3; have cHK4 := HK.out.c4))
        go_ret
        exact ⟨rfl, HB.out⟩
    · subst hg
      have HLS := Aside0.mk hls
      have b1 : decide (failed < 0) = false := decide_eq_false (by omega)
      have b2 : decide (wrap64 ((2 : Int) ^ ch.length) ≤ failed) = false := decide_eq_false (by rw [hpwr]; omega)
      have b4 : (lo == lo) = true := beq_self_eq_true _
      clear HEND hpw hls h0 h1 hpwr
      go_wp2_with (first | (go_at_call 38; (with_reducible refine (quietuslaw12_sanity.yes _ HK.out.hg).mono ?_); rintro e w1 ⟨rfl, hb⟩; have HBn := Aside0.mk (below_step HB.out hb); have HKn := Aside0.mk (HK.out.below hb); clear HB HK cHK0 cHK1 cHK2 cHK3 cHK4 hb; have HB := HBn; have HK := HKn; clear HBn HKn; have cHK0 := HK.out.c0; have cHK1 := HK.out.c1; have cHK2 := HK.out.c2; have cHK3 := HK.out.c3; have cHK4 := HK.out.c4) | (go_at_call 51; (with_reducible refine (quietusref12_Power.calls k _ T _ HK.out.hg HPW.out).mono ?_); rintro e w1 ⟨rfl, hd⟩; have hb := hd.below; clear hd; have HBn := Aside0.mk (below_step HB.out hb); have HKn := Aside0.mk (HK.out.below hb); clear HB HK cHK0 cHK1 cHK2 cHK3 cHK4 hb; have HB := HBn; have HK := HKn; clear HBn HKn; have cHK0 := HK.out.c0; have cHK1 := HK.out.c1; have cHK2 := HK.out.c2; have cHK3 := HK.out.c3; have cHK4 := HK.out.c4) | (go_at_call 52; (with_reducible refine (HK.out.rloses HLS.out).mono ?_); rintro e w1 ⟨rfl, hb⟩; have HBn := Aside0.mk (below_step HB.out hb); have HKn := Aside0.mk (HK.out.below hb); clear HB HK cHK0 cHK1 cHK2 cHK3 cHK4 hb; have HB := HBn; have HK := HKn; clear HBn HKn; have cHK0 := HK.out.c0; have cHK1 := HK.out.c1; have cHK2 := HK.out.c2; have cHK3 := HK.out.c3; have cHK4 := HK.out.c4))
      go_ret
      exact ⟨rfl, HB.out⟩


/-! ### quietusref07_Few: function 14 -/
def quietusref07_Few.l0 : Nat → Int → Int → List (List Int) → Int → Option (Bool)
 | 0, _, _, _, _ => none
 | k + 1, x5, x102000, x102001, x102002 => if x5 < (x102001.length : Int) then (if 0 ≤ x5 then (if ((rd_L1 x102001 x5).length : Int) > 20 then (some false) else (quietusref07_Few.l0 k (wrap64 (x5 + 1)) x102000 x102001 x102002)) else (none)) else (some true)
def quietusref07_Few.f (k : Nat) (a0_0 : Int) (l0_1 : List (List Int)) (a0_2 : Int) (a1 : Int) : Option (Bool) := if (l0_1.length : Int) > a1 then (some false) else (quietusref07_Few.l0 k 0 a0_0 l0_1 a0_2)
set_option maxHeartbeats 8000000 in
set_option maxRecDepth 100000 in
theorem quietusref07_Few.calls (k : Nat) (a0_0 : Int) (A0_1 : Option Addr) (c0_1 : Nat) (l0_1 : List (List Int)) (a0_2 : Int) (a1 : Int) (r : Bool) (w : World) (hG : HG w) (hr0_1 : Kd.C (Kd.slice 3 (Kd.int .i64)) w A0_1 l0_1.length l0_1) (hc0_1 : l0_1.length ≤ c0_1) (h : quietusref07_Few.f k a0_0 l0_1 a0_2 a1 = some r) :
  Calls Tryd.prog 14 #[.agg #[.int .i64 a0_0, .slice A0_1 l0_1.length c0_1, .int .i64 a0_2], .int .i64 a1] w fun e w' => e = .returned (.bool r) ∧ Below w.heap.size w w' := by
 have HGw := Aside0.mk hG
 clear hG
 have hu24 := Tryd.underlying24
 have HR0_1 := Aside0.mk hr0_1
 have HC0_1 := Aside0.mk hc0_1
 clear hr0_1 hc0_1
 have HB := Aside0.mk (Below.refl w.heap.size w)
 have H : (if (l0_1.length : Int) > a1 then (some false) else (quietusref07_Few.l0 k 0 a0_0 l0_1 a0_2)) = some r := h
 clear h
 by_cases c3 : (l0_1.length : Int) > a1
 ·rw [if_pos c3] at H
  have c3b0 : decide (a1 < (l0_1.length : Int)) = true := decide_eq_true c3
  clear c3
  obtain rfl := Option.some.inj H
  go_enter Tryd.func14, Tryd.ntmps14
  go_wp2_with (first | ((with_reducible refine gate_dst (N := 2) rfl ?_); refine box_event ?hg (N := 2) ?hd (cs := #[.int .i64 a0_0, .slice A0_1 l0_1.length c0_1, .int .i64 a0_2]) (t := 24) ?hr ?_; (case hd => rfl); (case hg => rfl); (case hr => first | (go_simp; done) | (go_simp; rfl)); intro gb101 hg w4 hbox hb; have n0_ := Aside0.mk (below_step (by repeat (first | (with_reducible first | exact HB.out | apply below_alloc | apply pw_below_drewN | apply below_drew1) | exact HB.out)) hb); have n1_ := Aside0.mk (hbox); have n2_ := Aside0.mk ((by rw [hg]; exact (below_size (by repeat (first | (with_reducible first | exact HB.out | apply below_alloc | apply pw_below_drewN | apply below_drew1) | exact HB.out))) : w.heap.size ≤ gb101)); have n3_ := Aside0.mk ((by rw [hg]; exact (below_size (by repeat (first | (with_reducible first | exact HB.out | apply below_alloc | apply pw_below_drewN | apply below_drew1) | exact HB.out))) : w.heap.size ≤ gb101)); clear HB; have HB := n0_; have BK101 := n1_; have GW101 := n2_; have GE101 := n3_; clear n0_ n1_ n2_ n3_; clear hb hbox hg; have hcz5_0 : w4.cell? ⟨gb101, 0, none⟩ = some (.int .i64 a0_0) := (blk_cell BK101.out 0).trans rfl; have hcz5_1 : w4.cell? ⟨gb101, 1, none⟩ = some (.slice A0_1 l0_1.length c0_1) := (blk_cell BK101.out 1).trans rfl; have hcz5_2 : w4.cell? ⟨gb101, 2, none⟩ = some (.int .i64 a0_2) := (blk_cell BK101.out 2).trans rfl; have hfz5_0 := blk_frozen BK101.out 0; have hfz5_1 := blk_frozen BK101.out 1; have hfz5_2 := blk_frozen BK101.out 2))
  go_ret
  exact ⟨by first | rfl | (simp [errW_none, errW_some] <;> rfl) | (simp [*, errW_none, errW_some] <;> rfl), by repeat (first | (with_reducible first | exact HB.out | apply below_alloc | apply pw_below_drewN | apply below_drew1 | refine below_set ?_ GE101.out) | exact HB.out)⟩
 ·rw [if_neg c3] at H
  have c3b0 : decide (a1 < (l0_1.length : Int)) = false := decide_eq_false c3
  clear c3
  have H' := Aside0.mk H
  clear H
  go_enter Tryd.func14, Tryd.ntmps14
  go_wp2_with (first | ((with_reducible refine gate_dst (N := 2) rfl ?_); refine box_event ?hg (N := 2) ?hd (cs := #[.int .i64 a0_0, .slice A0_1 l0_1.length c0_1, .int .i64 a0_2]) (t := 24) ?hr ?_; (case hd => rfl); (case hg => rfl); (case hr => first | (go_simp; done) | (go_simp; rfl)); intro gb101 hg w6 hbox hb; have n0_ := Aside0.mk (below_step (by repeat (first | (with_reducible first | exact HB.out | apply below_alloc | apply pw_below_drewN | apply below_drew1) | exact HB.out)) hb); have n1_ := Aside0.mk (hbox); have n2_ := Aside0.mk ((by rw [hg]; exact (below_size (by repeat (first | (with_reducible first | exact HB.out | apply below_alloc | apply pw_below_drewN | apply below_drew1) | exact HB.out))) : w.heap.size ≤ gb101)); have n3_ := Aside0.mk ((by rw [hg]; exact (below_size (by repeat (first | (with_reducible first | exact HB.out | apply below_alloc | apply pw_below_drewN | apply below_drew1) | exact HB.out))) : w.heap.size ≤ gb101)); clear HB; have HB := n0_; have BK101 := n1_; have GW101 := n2_; have GE101 := n3_; clear n0_ n1_ n2_ n3_; clear hb hbox hg; have hcz7_0 : w6.cell? ⟨gb101, 0, none⟩ = some (.int .i64 a0_0) := (blk_cell BK101.out 0).trans rfl; have hcz7_1 : w6.cell? ⟨gb101, 1, none⟩ = some (.slice A0_1 l0_1.length c0_1) := (blk_cell BK101.out 1).trans rfl; have hcz7_2 : w6.cell? ⟨gb101, 2, none⟩ = some (.int .i64 a0_2) := (blk_cell BK101.out 2).trans rfl; have hfz7_0 := blk_frozen BK101.out 0; have hfz7_1 := blk_frozen BK101.out 1; have hfz7_2 := blk_frozen BK101.out 2))
  go_loopg [5] k (fun kq v5 w' => ∃ (x5_1 : Int), v5 = .int .i64 x5_1 ∧ Aside0 (quietusref07_Few.l0 kq x5_1 a0_0 l0_1 a0_2 = some r) ∧ Aside0 (kq ≤ k) ∧ Aside0 (w'.heap[gb101]? = some (.cells #[.int .i64 a0_0, (.slice A0_1 l0_1.length c0_1), .int .i64 a0_2] 24 (0, 0))) ∧ Aside0 (Below w.heap.size w w'))
  case atStart => exact ⟨(0), (by first | rfl | (simp; done) | (simp [*]; done)), H', ⟨Nat.le_refl _⟩, ⟨by (with_reducible repeat (first | refine blk_drewN ?_ _ | refine blk_drew ?_ | refine blk_alloc ?_ _)); exact BK101.out⟩, ⟨by repeat (first | (with_reducible first | exact HB.out | apply below_alloc | apply pw_below_drewN | apply below_drew1 | refine below_set ?_ GE101.out) | exact HB.out)⟩⟩
  case round =>
   clear H'
   try clear c1
   try clear p2
   try clear c3
   try clear c3b0
   try clear hcz5_0
   try clear hcz5_1
   try clear hcz5_2
   try clear hcz7_0
   try clear hcz7_1
   try clear hcz7_2
   try clear hfz5_0
   try clear hfz5_1
   try clear hfz5_2
   try clear hfz7_0
   try clear hfz7_1
   try clear hfz7_2
   obtain ⟨x5_1, rfl, HA, HK1, BK101, HB⟩ := hrel
   cases gk with
   | zero => exact absurd HA.out (by simp [quietusref07_Few.l0])
   | succ k1 =>
    have H := HA.out
    clear HA
    simp only [quietusref07_Few.l0] at H
    by_cases c8 : x5_1 < (l0_1.length : Int)
    ·rw [if_pos c8] at H
     have c8b0 : decide (x5_1 < (l0_1.length : Int)) = true := decide_eq_true c8
     clear c8
     by_cases c9 : 0 ≤ x5_1
     ·rw [if_pos c9] at H
      have c9b0 : decide (0 ≤ x5_1) = true := decide_eq_true c9
      clear c9
      by_cases c10 : ((rd_L1 l0_1 x5_1).length : Int) > 20
      ·rw [if_pos c10] at H
       have c10b0 : decide (20 < ((rd_L1 l0_1 x5_1).length : Int)) = true := decide_eq_true c10
       have c10b1 : decide (20 < (rd_L1 l0_1 x5_1).length) = true := decide_eq_true (by omega)
       clear c10
       obtain rfl := Option.some.inj H
       have hcz11_0 : wr.cell? ⟨gb101, 0, none⟩ = some (.int .i64 a0_0) := (blk_cell BK101.out 0).trans rfl
       have hcz11_1 : wr.cell? ⟨gb101, 1, none⟩ = some (.slice A0_1 l0_1.length c0_1) := (blk_cell BK101.out 1).trans rfl
       have hcz11_2 : wr.cell? ⟨gb101, 2, none⟩ = some (.int .i64 a0_2) := (blk_cell BK101.out 2).trans rfl
       have hfz11_0 := blk_frozen BK101.out 0
       have hfz11_1 := blk_frozen BK101.out 1
       have hfz11_2 := blk_frozen BK101.out 2
       have p102 : 0 ≤ (x5_1 : Int) := of_decide_eq_true (by first | (with_reducible assumption) | assumption)
       have q102 : x5_1 < (l0_1.length : Int) := of_decide_eq_true (by first | (with_reducible assumption) | assumption)
       obtain ⟨ad102, A102_0, c102_0, e102, hx102_0, hl102_0, hi102_0⟩ := at_L1 HR0_1.out x5_1 p102 q102
       cases e102
       replace hx102_0 := (HB.out.cell (World.block_lt_of_cell? w _ hx102_0)).trans hx102_0
       have HR102_0 := Aside0.mk hi102_0
       have HC102_0 := Aside0.mk hl102_0
       clear hi102_0 hl102_0
       replace p102 := eq_true p102
       replace q102 := eq_true q102
       go_wp2
       go_ret
       exact ⟨by first | rfl | (simp [errW_none, errW_some] <;> rfl) | (simp [*, errW_none, errW_some] <;> rfl), by repeat (first | (with_reducible first | exact HB.out | apply below_alloc | apply pw_below_drewN | apply below_drew1 | refine below_set ?_ GE101.out) | exact HB.out)⟩
      ·rw [if_neg c10] at H
       have c10b0 : decide (20 < ((rd_L1 l0_1 x5_1).length : Int)) = false := decide_eq_false c10
       have c10b1 : decide (20 < (rd_L1 l0_1 x5_1).length) = false := decide_eq_false (by omega)
       clear c10
       have H' := Aside0.mk H
       clear H
       have hcz12_0 : wr.cell? ⟨gb101, 0, none⟩ = some (.int .i64 a0_0) := (blk_cell BK101.out 0).trans rfl
       have hcz12_1 : wr.cell? ⟨gb101, 1, none⟩ = some (.slice A0_1 l0_1.length c0_1) := (blk_cell BK101.out 1).trans rfl
       have hcz12_2 : wr.cell? ⟨gb101, 2, none⟩ = some (.int .i64 a0_2) := (blk_cell BK101.out 2).trans rfl
       have hfz12_0 := blk_frozen BK101.out 0
       have hfz12_1 := blk_frozen BK101.out 1
       have hfz12_2 := blk_frozen BK101.out 2
       have p102 : 0 ≤ (x5_1 : Int) := of_decide_eq_true (by first | (with_reducible assumption) | assumption)
       have q102 : x5_1 < (l0_1.length : Int) := of_decide_eq_true (by first | (with_reducible assumption) | assumption)
       obtain ⟨ad102, A102_0, c102_0, e102, hx102_0, hl102_0, hi102_0⟩ := at_L1 HR0_1.out x5_1 p102 q102
       cases e102
       replace hx102_0 := (HB.out.cell (World.block_lt_of_cell? w _ hx102_0)).trans hx102_0
       have HR102_0 := Aside0.mk hi102_0
       have HC102_0 := Aside0.mk hl102_0
       clear hi102_0 hl102_0
       replace p102 := eq_true p102
       replace q102 := eq_true q102
       go_wp2
       go_roundg k1
       case measure => have := HK1.out; omega
       case rel => exact ⟨(wrap64 (x5_1 + 1)), (by first | rfl | (simp; done) | (simp [*]; done)), H', ⟨by have := HK1.out; omega⟩, ⟨by (with_reducible repeat (first | refine blk_drewN ?_ _ | refine blk_drew ?_ | refine blk_alloc ?_ _)); exact BK101.out⟩, ⟨by repeat (first | (with_reducible first | exact HB.out | apply below_alloc | apply pw_below_drewN | apply below_drew1 | refine below_set ?_ GE101.out) | exact HB.out)⟩⟩
     ·rw [if_neg c9] at H
      exact absurd H (by simp)
    ·rw [if_neg c8] at H
     have c8b0 : decide (x5_1 < (l0_1.length : Int)) = false := decide_eq_false c8
     clear c8
     obtain rfl := Option.some.inj H
     have hcz13_0 : wr.cell? ⟨gb101, 0, none⟩ = some (.int .i64 a0_0) := (blk_cell BK101.out 0).trans rfl
     have hcz13_1 : wr.cell? ⟨gb101, 1, none⟩ = some (.slice A0_1 l0_1.length c0_1) := (blk_cell BK101.out 1).trans rfl
     have hcz13_2 : wr.cell? ⟨gb101, 2, none⟩ = some (.int .i64 a0_2) := (blk_cell BK101.out 2).trans rfl
     have hfz13_0 := blk_frozen BK101.out 0
     have hfz13_1 := blk_frozen BK101.out 1
     have hfz13_2 := blk_frozen BK101.out 2
     go_wp2
     go_ret
     exact ⟨by first | rfl | (simp [errW_none, errW_some] <;> rfl) | (simp [*, errW_none, errW_some] <;> rfl), by repeat (first | (with_reducible first | exact HB.out | apply below_alloc | apply pw_below_drewN | apply below_drew1 | refine below_set ?_ GE101.out) | exact HB.out)⟩


/-! ### quietuslaw07_sanity: function 15 -/
/-! a code in its variable -/
def CodeAt (g : Nat) (A : Option Addr) (c : Nat) (d : Int) (l : List (List Int)) (m : Int) (W : World) : Prop :=
 W.heap[g]? = some (.cells #[.int .i64 d, .slice A l.length c, .int .i64 m] 24 (0, 0)) ∧ l.length ≤ c ∧ Kd.C (Kd.slice 3 (Kd.int .i64)) W A l.length l ∧ HG W
theorem CodeAt.below {g : Nat} {A : Option Addr} {c : Nat} {d : Int} {l : List (List Int)} {m : Int} {W W' : World} (h : CodeAt g A c d l m W) (hb : Below W.heap.size W W') : CodeAt g A c d l m W' :=
 ⟨blk_below h.1 hb, h.2.1, Kd.C_below h.2.2.1 hb, h.2.2.2.below hb⟩
section
variable {g : Nat} {A : Option Addr} {c : Nat} {d : Int} {l : List (List Int)} {m : Int} {W : World}
theorem CodeAt.hg (h : CodeAt g A c d l m W) : HG W := h.2.2.2
theorem CodeAt.c0 (h : CodeAt g A c d l m W) : W.cell? ⟨g, 0, none⟩ = some (.int .i64 d) := blk_cell h.1 0
theorem CodeAt.c1 (h : CodeAt g A c d l m W) : W.cell? ⟨g, 1, none⟩ = some (.slice A l.length c) := blk_cell h.1 1
theorem CodeAt.c2 (h : CodeAt g A c d l m W) : W.cell? ⟨g, 2, none⟩ = some (.int .i64 m) := blk_cell h.1 2
theorem CodeAt.rows {k : Nat} {r1 : List (List Int)} {r2 : Int} (h : CodeAt g A c d l m W) (hr : code_Rows.f k d l m = some (r1, r2)) :
  Calls Tryd.prog 17 #[.agg #[.int .i64 d, .slice A l.length c, .int .i64 m]] W fun e w' => ∃ v0_ : Value, e = .returned (.tuple #[v0_, .int .i64 r2]) ∧ Kd.S (Kd.slice 5 (Kd.int .u8)) 57 w' W.heap.size (fun _ => True) v0_ r1 ∧ Below W.heap.size W w' :=
 code_Rows.calls k d A c l m r1 r2 W h.2.2.2 h.2.2.1 h.2.1 hr
theorem CodeAt.check {k : Nat} {r : Int} (h : CodeAt g A c d l m W) (hr : code_Check.f k d l m = some r) :
  Calls Tryd.prog 20 #[.agg #[.int .i64 d, .slice A l.length c, .int .i64 m]] W fun e w' => e = .returned (.int .i64 r) ∧ Below W.heap.size W w' :=
 code_Check.calls k d A c l m r W h.2.2.2 h.2.2.1 h.2.1 hr
theorem CodeAt.size {k : Nat} {n r : Int} (h : CodeAt g A c d l m W) (hr : code_Size.f k d l m n = some r) :
  Calls Tryd.prog 23 #[.agg #[.int .i64 d, .slice A l.length c, .int .i64 m], .int .i64 n] W fun e w' => e = .returned (.int .i64 r) ∧ Below W.heap.size W w' :=
 code_Size.calls k d A c l m n r W h.2.2.2 h.2.2.1 h.2.1 hr
theorem CodeAt.recoverable {k : Nat} {n : Int} {r : Bool} (h : CodeAt g A c d l m W) (hr : code_Recoverable.f k d l m n = some r) :
  Calls Tryd.prog 30 #[.agg #[.int .i64 d, .slice A l.length c, .int .i64 m], .int .i64 n] W fun e w' => e = .returned (.bool r) ∧ Below W.heap.size W w' :=
 code_Recoverable.calls k d A c l m n r W h.2.2.2 h.2.2.1 h.2.1 hr
end
/-! the document's example -/

/-! ### quietuslaw07_CodeEncodesAsSpecified: function 3 -/
section
variable {g : Nat} {A : Option Addr} {c : Nat} {d : Int} {l : List (List Int)} {m : Int} {W : World}
theorem CodeAt.few {k : Nat} {n : Int} {r : Bool} (h : CodeAt g A c d l m W) (hr : quietusref07_Few.f k d l m n = some r) :
  Calls Tryd.prog 14 #[.agg #[.int .i64 d, .slice A l.length c, .int .i64 m], .int .i64 n] W fun e w' => e = .returned (.bool r) ∧ Below W.heap.size W w' :=
 quietusref07_Few.calls k d A c l m n r W h.2.2.2 h.2.2.1 h.2.1 hr
theorem CodeAt.rcheck {k : Nat} {r : Int} (h : CodeAt g A c d l m W) (hr : quietusref07_Check.f k d l m = some r) :
  Calls Tryd.prog 16 #[.agg #[.int .i64 d, .slice A l.length c, .int .i64 m]] W fun e w' => e = .returned (.int .i64 r) ∧ Below W.heap.size W w' :=
 quietusref07_Check.calls k d A c l m r W h.2.2.2 h.2.2.1 h.2.1 hr
end
theorem CodeAt.keep {g : Nat} {A : Option Addr} {c : Nat} {d : Int} {l : List (List Int)} {m : Int} {w W W' : World} (h : CodeAt g A c d l m W) (hb : Below W.heap.size W W') : Aside0 (CodeAt g A c d l m W') := ⟨h.below hb⟩

/-! ### quietuslaw07_CodeRoundTrips: function 6 -/
-- over CodeAt.few CodeAt.check
/-- Fresh bytes: a block whose cell behind the last is marked. -/
def BytesAt (g : Nat) (xs : List Int) (W : World) : Prop := ∃ cs : Array Value, W.heap[g]? = some (.cells cs 5 (cs.size, cs.size + 1)) ∧ xs.length ≤ cs.size ∧ ∀ j : Nat, j < xs.length → cs[j]? = some (.int .u8 (rd xs (j : Int)))
theorem BytesAt.cell {g : Nat} {xs : List Int} {W : World} (h : BytesAt g xs W) (j : Nat) (hj : j < xs.length) : W.cell? ⟨g, j, none⟩ = some (.int .u8 (rd xs (j : Int))) ∧ W.frozen? ⟨g, j, none⟩ = false := by
 obtain ⟨cs, h1, h2, h3⟩ := h
 refine ⟨(cell_of_row _ _ _ _ _ _ h1).trans (h3 j hj), ?_⟩
 simp [World.frozen?, h1]; omega
theorem BytesAt.below {g : Nat} {xs : List Int} {W W' : World} (h : BytesAt g xs W) (hb : Below W.heap.size W W') : BytesAt g xs W' := by
 obtain ⟨cs, h1, h2⟩ := h
 exact ⟨cs, blk_below h1 hb, h2⟩
theorem BytesAt.reads {g : Nat} {xs : List Int} {W : World} (h : BytesAt g xs W) (hm : xs.length ≤ 9223372036854775807) : ReadsInt W .u8 (some ⟨g, 0, none⟩) xs.length xs := by
 refine ⟨rfl, hm, fun _ => ⟨_, rfl, fun j hj => ?_⟩⟩
 rw [add_plain, (h.cell j hj).1]; rfl
theorem BytesAt.set {g : Nat} {xs : List Int} {W : World} (h : BytesAt g xs W) (i : Nat) (hi : i < xs.length) (v : Int) : BytesAt g (xs.set i v) (W.setCell ⟨g, i, none⟩ (.int .u8 v)) := by
 obtain ⟨cs, h1, h2, h3⟩ := h
 refine ⟨cs.setIfInBounds i (.int .u8 v), ?_, by simpa using h2, fun j hj => ?_⟩
 ·simp [World.setCell, Array.getElem?_modify, h1]
 ·rw [List.length_set] at hj
  by_cases e : i = j
  ·subst e
   simp [Array.getElem?_setIfInBounds, rd, List.getD_eq_getElem?_getD, hi, show i < cs.size by omega]
  ·rw [Array.getElem?_setIfInBounds_ne e, h3 j hj]
   simp [rd, List.getD_eq_getElem?_getD, List.getElem?_set_ne e]
def anyFrom (p : Nat → Bool) : Nat → Nat → Bool
 | _, 0 => false
 | j, n + 1 => p j || anyFrom p (j + 1) n
theorem anyFrom_iff (p : Nat → Bool) : ∀ n j, anyFrom p j n = true ↔ ∃ t, j ≤ t ∧ t < j + n ∧ p t = true := by
 intro n
 induction n with
 | zero =>
  intro j
  simp only [anyFrom]
  constructor
  ·intro h; cases h
  ·rintro ⟨t, h1, h2, _⟩; omega
 | succ n ih =>
  intro j
  simp only [anyFrom, Bool.or_eq_true, ih]
  constructor
  ·rintro (h | ⟨t, h1, h2, h3⟩)
   ·exact ⟨j, Nat.le_refl _, by omega, h⟩
   ·exact ⟨t, by omega, by omega, h3⟩
  ·rintro ⟨t, h1, h2, h3⟩
   by_cases e : t = j
   ·subst e; exact .inl h3
   ·exact .inr ⟨t, by omega, by omega, h3⟩
theorem anyFrom_false {p : Nat → Bool} {j n : Nat} (h : anyFrom p j n = false) : ∀ t, j ≤ t → t < j + n → p t = false := by
 intro t h1 h2
 cases hp : p t
 ·rfl
 ·rw [(anyFrom_iff p n j).2 ⟨t, h1, h2, hp⟩] at h; cases h
theorem wrap_nat {n : Nat} (h : n < 9223372036854775808) : wrap64 (n : Int) = (n : Int) := by unfold wrap64; omega
theorem wrap_succ {n : Nat} (h : n < 9223372036854775807) : wrap64 ((n : Int) + 1) = ((n + 1 : Nat) : Int) := by unfold wrap64; omega
theorem wrap_pred {n : Nat} (h0 : 0 < n) (h : n < 9223372036854775807) : wrap64 ((n : Int) - 1) = ((n - 1 : Nat) : Int) := by unfold wrap64; omega
theorem ev_eq {α : Type} {g : Nat → Option α} {a b : α} (h : Ev g a) (e : a = b) : Ev g b := e ▸ h
/-! Has -/
theorem has_from (l : List Int) (x : Int) (hl : l.length ≤ 9223372036854775807) : ∀ (j i : Nat), i + j = l.length → Ev (fun k => quietusref07_Has.l0 k l x (i : Int)) (decide (x ∈ l.drop i)) := by
 intro j
 induction j with
 | zero =>
  intro i hi
  refine Ev.step (f := fun _ => some (decide (x ∈ l.drop i))) (fun k => ?_) (Ev.now _)
  simp only [quietusref07_Has.l0]
  rw [if_neg (by omega), List.drop_of_length_le (by omega)]
  simp
 | succ j ih =>
  intro i hi
  have hlt : i < l.length := by omega
  have hd : l.drop i = l[i] :: l.drop (i + 1) := List.drop_eq_getElem_cons hlt
  by_cases e : l[i] = x
  ·refine Ev.step (f := fun _ => some (decide (x ∈ l.drop i))) (fun k => ?_) (Ev.now _)
   simp only [quietusref07_Has.l0]
   rw [if_pos (by omega), if_pos (by omega), rdi hlt, if_pos e, hd]
   simp [e]
  ·refine Ev.step (f := fun k => quietusref07_Has.l0 k l x ((i + 1 : Nat) : Int)) (fun k => ?_) (ev_eq (ih (i + 1) (by omega)) ?_)
   ·simp only [quietusref07_Has.l0]
    rw [if_pos (by omega), if_pos (by omega), rdi hlt, if_neg e, wrap_succ (by omega)]
   ·rw [hd]
    exact decide_eq_decide.2 ⟨fun h => List.mem_cons_of_mem _ h, fun h => (List.mem_cons.1 h).resolve_left (fun h' => e h'.symm)⟩
theorem has_ev (l : List Int) (x : Int) (hl : l.length ≤ 9223372036854775807) : Ev (fun k => quietusref07_Has.f k l x) (decide (x ∈ l)) := has_from l x hl l.length 0 (Nat.zero_add _)
/-! what Check says -/
def badEl (d : Int) (l : List (List Int)) (gi j : Nat) : Bool :=
 (decide (rd (rd_L1 l gi) j < 0) || (decide (d ≤ rd (rd_L1 l gi) j) || (decide (0 < j) && decide (rd (rd_L1 l gi) j ≤ rd (rd_L1 l gi) ((j - 1 : Nat) : Int))))) || anyFrom (fun h => decide (rd (rd_L1 l gi) j ∈ rd_L1 l (h : Nat))) 0 gi
def grpErr (d : Int) (l : List (List Int)) (gi : Nat) : Int := if (rd_L1 l gi).length = 0 then 8 else if anyFrom (badEl d l gi) 0 (rd_L1 l gi).length = true then 1 else 0
def chkFrom (d : Int) (l : List (List Int)) : Nat → Nat → Int
 | _, 0 => 0
 | i, n + 1 => if grpErr d l i = 0 then chkFrom d l (i + 1) n else grpErr d l i
def chk (d : Int) (l : List (List Int)) (m : Int) : Int := if d < 1 ∨ 16 < d ∨ m < 0 ∨ 4 < m then 3 else if 24 < d + l.length + m then 2 else chkFrom d l 0 l.length
/-! the reference's Check -/
def Small (l : List (List Int)) : Prop := l.length ≤ 4611686018427387000 ∧ ∀ i : Nat, (rd_L1 l i).length ≤ 9223372036854775807
theorem rgrp_l1 (d : Int) (l : List (List Int)) (m : Int) (hs : Small l) (gi j : Nat) (x : Int) (hg : gi < l.length) (hj : j < 9223372036854775807) (R : Int) (hR : Ev (fun k => quietusref07_group.l0 k (gi : Int) ((j + 1 : Nat) : Int) d l m) R) :
  ∀ n h, h + n = gi → Ev (fun k => quietusref07_group.l1 k (gi : Int) (j : Int) x (h : Int) d l m) (if anyFrom (fun h => decide (x ∈ rd_L1 l (h : Nat))) h n = true then 1 else R) := by
 intro n
 induction n with
 | zero =>
  intro h hh
  refine Ev.step (f := fun k => quietusref07_group.l0 k (gi : Int) ((j + 1 : Nat) : Int) d l m) (fun k => ?_) (by simpa [anyFrom] using hR)
  simp only [quietusref07_group.l1]
  rw [if_neg (by omega), wrap_succ (by omega)]
 | succ n ih =>
  intro h hh
  have hb := has_ev (rd_L1 l (h : Nat)) x (hs.2 h)
  have hsl := hs.1
  refine Ev.step (f := fun k => (quietusref07_Has.f k (rd_L1 l (h : Nat)) x).bind fun t => if t = true then some 1 else quietusref07_group.l1 k (gi : Int) (j : Int) x ((h + 1 : Nat) : Int) d l m) (fun k => ?_) (Ev.bind hb ?_)
  ·simp only [quietusref07_group.l1]
   rw [if_pos (by omega), if_pos (by omega), if_pos (by omega), wrap_succ (by omega)]
  ·by_cases e : x ∈ rd_L1 l (h : Nat)
   ·simp only [anyFrom, e, decide_true, Bool.true_or, if_true]
    exact Ev.now _
   ·simp only [anyFrom, e, decide_false, Bool.false_or]
    exact ih (h + 1) (by omega)
theorem rgrp_l0 (d : Int) (l : List (List Int)) (m : Int) (hs : Small l) (gi : Nat) (hg : gi < l.length) :
  ∀ n j, j + n = (rd_L1 l gi).length → Ev (fun k => quietusref07_group.l0 k (gi : Int) (j : Int) d l m) (if anyFrom (badEl d l gi) j n = true then 1 else 0) := by
 intro n
 have hgl := hs.2 gi
 induction n with
 | zero =>
  intro j hj
  refine Ev.step (f := fun _ => some 0) (fun k => ?_) (by simpa [anyFrom] using Ev.now (0 : Int))
  simp only [quietusref07_group.l0]
  rw [if_pos (by omega), if_pos (by omega), if_neg (by omega)]
 | succ n ih =>
  intro j hj
  obtain ⟨b, hb⟩ : ∃ b, b = (decide (rd (rd_L1 l gi) j < 0) || (decide (d ≤ rd (rd_L1 l gi) j) || (decide (0 < j) && decide (rd (rd_L1 l gi) j ≤ rd (rd_L1 l gi) ((j - 1 : Nat) : Int))))) := ⟨_, rfl⟩
  refine Ev.step (f := fun k => quietusref07_group.j1 k (gi : Int) (j : Int) (rd (rd_L1 l gi) j) b d l m) (fun k => ?_) ?_
  ·simp only [quietusref07_group.l0]
   rw [if_pos (by omega), if_pos (by omega), if_pos (by omega), if_pos (by omega)]
   by_cases c1 : rd (rd_L1 l gi) j < 0
   ·rw [if_pos c1, hb]; simp [c1]
   rw [if_neg c1]
   by_cases c2 : d ≤ rd (rd_L1 l gi) j
   ·rw [if_pos c2, hb]; simp [c2]
   rw [if_neg c2]
   by_cases c3 : 0 < j
   ·rw [if_pos (by omega), wrap_pred c3 (by omega), if_pos (by omega), if_pos (by omega), hb]; simp [c1, c2, c3]
   ·rw [if_neg (by omega), hb]; simp [c1, c2, c3]
  ·refine Ev.step (f := fun k => if b = true then some 1 else quietusref07_group.l1 k (gi : Int) (j : Int) (rd (rd_L1 l gi) j) ((0 : Nat) : Int) d l m) (fun k => by simp only [quietusref07_group.j1]; rfl) ?_
   simp only [anyFrom, badEl, ← hb]
   cases b with
   | true => simp only [Bool.true_or, if_true]; exact Ev.now _
   | false =>
    simp only [Bool.false_or, Bool.false_eq_true, if_false]
    refine ev_eq (rgrp_l1 d l m hs gi j _ hg (by omega) _ (ih (j + 1) (by omega)) gi 0 (Nat.zero_add _)) ?_
    by_cases e : anyFrom (fun h => decide (rd (rd_L1 l gi) j ∈ rd_L1 l (h : Nat))) 0 gi = true
    ·rw [if_pos e, e]; simp
    ·rw [if_neg e, Bool.eq_false_iff.2 e, Bool.false_or]
theorem rgrp_ev (d : Int) (l : List (List Int)) (m : Int) (hs : Small l) (gi : Nat) (hg : gi < l.length) : Ev (fun k => quietusref07_group.f k d l m (gi : Int)) (grpErr d l gi) := by
 unfold grpErr
 by_cases h0 : (rd_L1 l gi).length = 0
 ·rw [if_pos h0]
  refine Ev.congr (f := fun _ => some 8) (fun k => ?_) (Ev.now _)
  unfold quietusref07_group.f
  rw [if_pos (by omega), if_pos (by omega), if_pos (by omega)]
 ·rw [if_neg h0]
  refine Ev.congr (f := fun k => quietusref07_group.l0 k (gi : Int) ((0 : Nat) : Int) d l m) (fun k => ?_) (rgrp_l0 d l m hs gi hg _ 0 (Nat.zero_add _))
  unfold quietusref07_group.f
  rw [if_pos (by omega), if_pos (by omega), if_neg (by omega)]
  rfl
theorem rchk_l0 (d : Int) (l : List (List Int)) (m : Int) (hs : Small l) : ∀ n i, i + n = l.length → Ev (fun k => quietusref07_Check.l0 k (i : Int) d l m) (chkFrom d l i n) := by
 intro n
 have hsl := hs.1
 induction n with
 | zero =>
  intro i hi
  refine Ev.step (f := fun _ => some 0) (fun k => ?_) (Ev.now _)
  simp only [quietusref07_Check.l0]
  rw [if_neg (by omega)]
 | succ n ih =>
  intro i hi
  refine Ev.step (f := fun k => (quietusref07_group.f k d l m (i : Int)).bind fun t => if t = 0 then quietusref07_Check.l0 k ((i + 1 : Nat) : Int) d l m else some t) (fun k => ?_) (Ev.bind (rgrp_ev d l m hs i (by omega)) ?_)
  ·simp only [quietusref07_Check.l0]
   rw [if_pos (by omega), wrap_succ (by omega)]
  ·simp only [chkFrom]
   by_cases e : grpErr d l i = 0
   ·simp only [e, if_true]
    exact ih (i + 1) (by omega)
   ·simp only [e, if_false]
    exact Ev.now _
/-- Groups and numbers as they come: no sum wraps round that matters. -/
theorem rchk_ev (d : Int) (l : List (List Int)) (m : Int) (hs : Small l) : Ev (fun k => quietusref07_Check.f k d l m) (chk d l m) := by
 have hsl := hs.1
 obtain ⟨b, hb⟩ : ∃ b, b = (decide (d < 1) || (decide (16 < d) || (decide (m < 0) || decide (4 < m)))) := ⟨_, rfl⟩
 refine Ev.congr (f := fun k => quietusref07_Check.j0 k b d l m) (fun k => ?_) ?_
 ·unfold quietusref07_Check.f
  by_cases c1 : d < 1
  ·rw [if_pos c1, hb]; simp [c1]
  rw [if_neg c1]
  by_cases c2 : 16 < d
  ·rw [if_pos c2, hb]; simp [c2]
  rw [if_neg c2]
  by_cases c3 : m < 0
  ·rw [if_pos c3, hb]; simp [c3]
  rw [if_neg c3, hb]
  simp [c1, c2, c3]
 ·refine Ev.step (f := fun k => if b = true then some 3 else if 24 < wrap64 (wrap64 (d + (l.length : Int)) + m) then some 2 else quietusref07_Check.l0 k ((0 : Nat) : Int) d l m) (fun k => by simp only [quietusref07_Check.j0]; rfl) ?_
  unfold chk
  cases b with
  | true =>
   have : d < 1 ∨ 16 < d ∨ m < 0 ∨ 4 < m := by simpa using hb.symm
   rw [if_pos this]
   exact Ev.now _
  | false =>
   have h' : ¬ (d < 1 ∨ 16 < d ∨ m < 0 ∨ 4 < m) := by
    intro h
    have : (decide (d < 1) || (decide (16 < d) || (decide (m < 0) || decide (4 < m)))) = true := by simpa using h
    rw [← hb] at this; cases this
   rw [if_neg h']
   have hw : wrap64 (wrap64 (d + (l.length : Int)) + m) = d + l.length + m := by unfold wrap64; omega
   rw [hw]
   by_cases e : 24 < d + (l.length : Int) + m
   ·simp only [e, if_true]
    exact Ev.now _
   ·simp only [e, if_false]
    exact rchk_l0 d l m hs _ 0 (Nat.zero_add _)
end Go.Proofs.YtkadfidmfnpohaaDoor.XB
