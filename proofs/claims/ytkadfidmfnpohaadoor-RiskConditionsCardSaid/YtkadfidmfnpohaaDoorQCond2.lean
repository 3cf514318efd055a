/- Lemmas for the claim Cond: functions of the program as plain Lean functions, each with its contract, and what is proved of them. -/
import Derived.Test.YtkadfidmfnpohaaDoorQCond1
import Derived.Maps.OwnOps
import Derived.Maps.OwnSet
import Derived.Maps.Views
import Derived.Maps.AppendAt
namespace Go.Proofs.YtkadfidmfnpohaaDoor.XB
open Go.RowKit Go.Proofs.YtkadfidmfnpohaaDoorW.PrintWords Go.Proofs.YtkadfidmfnpohaaDoorW.PrintLast Go.Proofs.YtkadfidmfnpohaaDoorW.PrintMore
set_option linter.unusedVariables false
set_option linter.unusedSimpArgs false

/-! ### risk_Check: function 50 -/
mutual
def risk_Check.l0 : Nat → Int → List Int → Int → Int → Int → List (List Int) → Int → List Int → List Int → Option (Int)
 | 0, _, _, _, _, _, _, _, _, _ => none
 | k + 1, x4, x28, x29, x30, x266000, x266001, x266002, x266003, x266004 => if x30 < x29 then (if 0 ≤ x30 then (if x30 < (x28.length : Int) then (if (rd x28 x30) < (-1) then (some 1) else (if (rd x28 x30) ≥ x4 then (some 1) else (risk_Check.l0 k x4 x28 x29 (wrap64 (x30 + 1)) x266000 x266001 x266002 x266003 x266004))) else (none)) else (none)) else (risk_Check.l1 k x266004 (x266004.length : Int) 0)
def risk_Check.l1 : Nat → List Int → Int → Int → Option (Int)
 | 0, _, _, _ => none
 | k + 1, x43, x44, x45 => if x45 < x44 then (if 0 ≤ x45 then (if x45 < (x43.length : Int) then (if (rd x43 x45) < 0 then (some 3) else (if (rd x43 x45) > 16 then (some 3) else (risk_Check.l1 k x43 x44 (wrap64 (x45 + 1))))) else (none)) else (none)) else (some 0)
end
def risk_Check.f (k : Nat) (a0_0 : Int) (l0_1 : List (List Int)) (a0_2 : Int) (l0_3 : List Int) (l0_4 : List Int) : Option (Int) := (code_Check.f k a0_0 l0_1 a0_2).bind fun t266 => (if t266 = 0 then (if (l0_4.length : Int) > 12 then (some 2) else ((code_Pieces.f k a0_0 l0_1 a0_2).bind fun t267 => (if (l0_3.length : Int) = t267 then (risk_Check.l0 k (l0_4.length : Int) l0_3 (l0_3.length : Int) 0 a0_0 l0_1 a0_2 l0_3 l0_4) else (some 1)))) else (some t266))
set_option maxHeartbeats 8000000 in
set_option maxRecDepth 100000 in
theorem risk_Check.calls (k : Nat) (a0_0 : Int) (A0_1 : Option Addr) (c0_1 : Nat) (l0_1 : List (List Int)) (a0_2 : Int) (A0_3 : Option Addr) (c0_3 : Nat) (l0_3 : List Int) (A0_4 : Option Addr) (c0_4 : Nat) (l0_4 : List Int) (r : Int) (w : World) (hG : HG w) (hr0_1 : Kd.C (Kd.slice 3 (Kd.int .i64)) w A0_1 l0_1.length l0_1) (hc0_1 : l0_1.length ≤ c0_1) (hr0_3 : Kd.C (Kd.int .i64) w A0_3 l0_3.length l0_3) (hc0_3 : l0_3.length ≤ c0_3) (hr0_4 : Kd.C (Kd.int .i64) w A0_4 l0_4.length l0_4) (hc0_4 : l0_4.length ≤ c0_4) (h : risk_Check.f k a0_0 l0_1 a0_2 l0_3 l0_4 = some r) :
  Calls Tryd.prog 50 #[.agg #[.int .i64 a0_0, .slice A0_1 l0_1.length c0_1, .int .i64 a0_2, .slice A0_3 l0_3.length c0_3, .slice A0_4 l0_4.length c0_4]] w fun e w' => e = .returned (.int .i64 r) ∧ Below w.heap.size w w' := by
 have HGw := Aside0.mk hG
 clear hG
 have hu64 := Tryd.underlying64
 have hu24 := Tryd.underlying24
 have HR0_1 := Aside0.mk hr0_1
 have HC0_1 := Aside0.mk hc0_1
 clear hr0_1 hc0_1
 have HR0_3 := Aside0.mk hr0_3
 have HC0_3 := Aside0.mk hc0_3
 clear hr0_3 hc0_3
 have HR0_4 := Aside0.mk hr0_4
 have HC0_4 := Aside0.mk hc0_4
 clear hr0_4 hc0_4
 have HB := Aside0.mk (Below.refl w.heap.size w)
 have H : ((code_Check.f k a0_0 l0_1 a0_2).bind fun t266 => (if t266 = 0 then (if (l0_4.length : Int) > 12 then (some 2) else ((code_Pieces.f k a0_0 l0_1 a0_2).bind fun t267 => (if (l0_3.length : Int) = t267 then (risk_Check.l0 k (l0_4.length : Int) l0_3 (l0_3.length : Int) 0 a0_0 l0_1 a0_2 l0_3 l0_4) else (some 1)))) else (some t266))) = some r := h
 clear h
 replace H := Option.bind_eq_some_iff.mp H
 obtain ⟨t266, A20, H⟩ := H
 replace H : (if t266 = 0 then (if (l0_4.length : Int) > 12 then (some 2) else ((code_Pieces.f k a0_0 l0_1 a0_2).bind fun t267 => (if (l0_3.length : Int) = t267 then (risk_Check.l0 k (l0_4.length : Int) l0_3 (l0_3.length : Int) 0 a0_0 l0_1 a0_2 l0_3 l0_4) else (some 1)))) else (some t266)) = some r := H
 have A2 := Aside0.mk A20
 clear A20
 by_cases c3 : t266 = 0
 ·rw [if_pos c3] at H
  have c3b0 : (t266 == 0) = true := beq_iff_eq.mpr c3
  have c3b1 : (t266 != 0) = false := bne_eq_false_iff_eq.mpr c3
  clear c3
  by_cases c4 : (l0_4.length : Int) > 12
  ·rw [if_pos c4] at H
   have c4b0 : decide (12 < (l0_4.length : Int)) = true := decide_eq_true c4
   have c4b1 : decide (12 < l0_4.length) = true := decide_eq_true (by omega)
   clear c4
   obtain rfl := Option.some.inj H
   go_enter Tryd.func50, Tryd.ntmps50
   go_wp2_with (first | ((with_reducible refine gate_dst (N := 1) rfl ?_); refine box_event ?hg (N := 1) ?hd (cs := #[.int .i64 a0_0, .slice A0_1 l0_1.length c0_1, .int .i64 a0_2, .slice A0_3 l0_3.length c0_3, .slice A0_4 l0_4.length c0_4]) (t := 64) ?hr ?_; (case hd => rfl); (case hg => rfl); (case hr => first | (go_simp; done) | (go_simp; rfl)); intro gb265 hg w5 hbox hb; have n0_ := Aside0.mk (below_step (by repeat (first | (with_reducible first | exact HB.out | apply below_alloc | apply pw_below_drewN | apply below_drew1) | exact HB.out)) hb); have n1_ := Aside0.mk (hbox); have n2_ := Aside0.mk ((by rw [hg]; exact (below_size (by repeat (first | (with_reducible first | exact HB.out | apply below_alloc | apply pw_below_drewN | apply below_drew1) | exact HB.out))) : w.heap.size ≤ gb265)); have n3_ := Aside0.mk ((by rw [hg]; exact (below_size (by repeat (first | (with_reducible first | exact HB.out | apply below_alloc | apply pw_below_drewN | apply below_drew1) | exact HB.out))) : w.heap.size ≤ gb265)); clear HB; have HB := n0_; have BK265 := n1_; have GW265 := n2_; have GE265 := n3_; clear n0_ n1_ n2_ n3_; clear hb hbox hg; have hcz6_0 : w5.cell? ⟨gb265, 0, none⟩ = some (.int .i64 a0_0) := (blk_cell BK265.out 0).trans rfl; have hcz6_1 : w5.cell? ⟨gb265, 1, none⟩ = some (.slice A0_1 l0_1.length c0_1) := (blk_cell BK265.out 1).trans rfl; have hcz6_2 : w5.cell? ⟨gb265, 2, none⟩ = some (.int .i64 a0_2) := (blk_cell BK265.out 2).trans rfl; have hcz6_3 : w5.cell? ⟨gb265, 3, none⟩ = some (.slice A0_3 l0_3.length c0_3) := (blk_cell BK265.out 3).trans rfl; have hcz6_4 : w5.cell? ⟨gb265, 4, none⟩ = some (.slice A0_4 l0_4.length c0_4) := (blk_cell BK265.out 4).trans rfl; have hfz6_0 := blk_frozen BK265.out 0; have hfz6_1 := blk_frozen BK265.out 1; have hfz6_2 := blk_frozen BK265.out 2; have hfz6_3 := blk_frozen BK265.out 3; have hfz6_4 := blk_frozen BK265.out 4) | ((with_reducible refine gate_callee (f := 20) rfl ?_); refine goesL_ (some 11) rfl rfl Tryd.func20 (by kernel_rfl) rfl #[.agg #[.int .i64 a0_0, .slice A0_1 l0_1.length c0_1, .int .i64 a0_2]] rfl (by (try simp only [List.map_toArray, List.map_cons, List.map_nil]); first | done | rfl | (simp only [List.length_drop, List.length_take]; rfl)) ?_; (with_reducible refine (code_Check.calls k a0_0 _ _ l0_1 a0_2 t266 _ ?side1 ?side2 ?side3 A2.out).mono ?_); (case side1 => exact HG.below HGw.out (by repeat (first | (with_reducible first | exact HB.out | apply below_alloc | apply pw_below_drewN | apply below_drew1 | refine below_set ?_ GE265.out) | exact HB.out))); (case side2 => repeat (first | exact (Kd.C_below HR0_1.out HB.out) | (with_reducible refine Kd.C_alloc ?_ _) | (with_reducible refine Kd.C_drewN ?_ _) | (with_reducible refine Kd.C_drew ?_))); (case side3 => exact HC0_1.out); rintro e w7 ⟨rfl, hb⟩; refine ⟨_, rfl, ?_⟩; have n0_ := Aside0.mk (blk_below (g := gb265) (o := .cells #[.int .i64 a0_0, .slice A0_1 l0_1.length c0_1, .int .i64 a0_2, .slice A0_3 l0_3.length c0_3, .slice A0_4 l0_4.length c0_4] 64 (0, 0)) (by (with_reducible repeat (first | refine blk_drewN ?_ _ | refine blk_drew ?_ | refine blk_alloc ?_ _)); exact BK265.out) hb); have n1_ := Aside0.mk (below_step (by repeat (first | (with_reducible first | exact HB.out | apply below_alloc | apply pw_below_drewN | apply below_drew1 | refine below_set ?_ GE265.out) | exact HB.out)) hb); clear BK265; clear HB; have BK265 := n0_; have HB := n1_; clear n0_ n1_; (try clear hb); (try clear hb2); (try clear hk); (try clear hi); have hcz8_0 : w7.cell? ⟨gb265, 0, none⟩ = some (.int .i64 a0_0) := (blk_cell BK265.out 0).trans rfl; have hcz8_1 : w7.cell? ⟨gb265, 1, none⟩ = some (.slice A0_1 l0_1.length c0_1) := (blk_cell BK265.out 1).trans rfl; have hcz8_2 : w7.cell? ⟨gb265, 2, none⟩ = some (.int .i64 a0_2) := (blk_cell BK265.out 2).trans rfl; have hcz8_3 : w7.cell? ⟨gb265, 3, none⟩ = some (.slice A0_3 l0_3.length c0_3) := (blk_cell BK265.out 3).trans rfl; have hcz8_4 : w7.cell? ⟨gb265, 4, none⟩ = some (.slice A0_4 l0_4.length c0_4) := (blk_cell BK265.out 4).trans rfl; have hfz8_0 := blk_frozen BK265.out 0; have hfz8_1 := blk_frozen BK265.out 1; have hfz8_2 := blk_frozen BK265.out 2; have hfz8_3 := blk_frozen BK265.out 3; have hfz8_4 := blk_frozen BK265.out 4))
   go_ret
   exact ⟨by first | rfl | (simp [errW_none, errW_some] <;> rfl) | (simp [*, errW_none, errW_some] <;> rfl), by repeat (first | (with_reducible first | exact HB.out | apply below_alloc | apply pw_below_drewN | apply below_drew1 | refine below_set ?_ GE265.out) | exact HB.out)⟩
  ·rw [if_neg c4] at H
   have c4b0 : decide (12 < (l0_4.length : Int)) = false := decide_eq_false c4
   have c4b1 : decide (12 < l0_4.length) = false := decide_eq_false (by omega)
   clear c4
   replace H := Option.bind_eq_some_iff.mp H
   obtain ⟨t267, A90, H⟩ := H
   replace H : (if (l0_3.length : Int) = t267 then (risk_Check.l0 k (l0_4.length : Int) l0_3 (l0_3.length : Int) 0 a0_0 l0_1 a0_2 l0_3 l0_4) else (some 1)) = some r := H
   have A9 := Aside0.mk A90
   clear A90
   by_cases c10 : (l0_3.length : Int) = t267
   ·rw [if_pos c10] at H
    have c10b0 : ((l0_3.length : Int) == t267) = true := beq_iff_eq.mpr c10
    have c10b1 : ((l0_3.length : Int) != t267) = false := bne_eq_false_iff_eq.mpr c10
    clear c10
    have H' := Aside0.mk H
    clear H
    go_enter Tryd.func50, Tryd.ntmps50
    try go_wp2_with (first | ((with_reducible refine gate_dst (N := 1) rfl ?_); refine box_event ?hg (N := 1) ?hd (cs := #[.int .i64 a0_0, .slice A0_1 l0_1.length c0_1, .int .i64 a0_2, .slice A0_3 l0_3.length c0_3, .slice A0_4 l0_4.length c0_4]) (t := 64) ?hr ?_; (case hd => rfl); (case hg => rfl); (case hr => first | (go_simp; done) | (go_simp; rfl)); intro gb265 hg w11 hbox hb; have n0_ := Aside0.mk (below_step (by repeat (first | (with_reducible first | exact HB.out | apply below_alloc | apply pw_below_drewN | apply below_drew1) | exact HB.out)) hb); have n1_ := Aside0.mk (hbox); have n2_ := Aside0.mk ((by rw [hg]; exact (below_size (by repeat (first | (with_reducible first | exact HB.out | apply below_alloc | apply pw_below_drewN | apply below_drew1) | exact HB.out))) : w.heap.size ≤ gb265)); have n3_ := Aside0.mk ((by rw [hg]; exact (below_size (by repeat (first | (with_reducible first | exact HB.out | apply below_alloc | apply pw_below_drewN | apply below_drew1) | exact HB.out))) : w.heap.size ≤ gb265)); clear HB; have HB := n0_; have BK265 := n1_; have GW265 := n2_; have GE265 := n3_; clear n0_ n1_ n2_ n3_; clear hb hbox hg; have hcz12_0 : w11.cell? ⟨gb265, 0, none⟩ = some (.int .i64 a0_0) := (blk_cell BK265.out 0).trans rfl; have hcz12_1 : w11.cell? ⟨gb265, 1, none⟩ = some (.slice A0_1 l0_1.length c0_1) := (blk_cell BK265.out 1).trans rfl; have hcz12_2 : w11.cell? ⟨gb265, 2, none⟩ = some (.int .i64 a0_2) := (blk_cell BK265.out 2).trans rfl; have hcz12_3 : w11.cell? ⟨gb265, 3, none⟩ = some (.slice A0_3 l0_3.length c0_3) := (blk_cell BK265.out 3).trans rfl; have hcz12_4 : w11.cell? ⟨gb265, 4, none⟩ = some (.slice A0_4 l0_4.length c0_4) := (blk_cell BK265.out 4).trans rfl; have hfz12_0 := blk_frozen BK265.out 0; have hfz12_1 := blk_frozen BK265.out 1; have hfz12_2 := blk_frozen BK265.out 2; have hfz12_3 := blk_frozen BK265.out 3; have hfz12_4 := blk_frozen BK265.out 4) | ((with_reducible refine gate_callee (f := 20) rfl ?_); refine goesL_ (some 11) rfl rfl Tryd.func20 (by kernel_rfl) rfl #[.agg #[.int .i64 a0_0, .slice A0_1 l0_1.length c0_1, .int .i64 a0_2]] rfl (by (try simp only [List.map_toArray, List.map_cons, List.map_nil]); first | done | rfl | (simp only [List.length_drop, List.length_take]; rfl)) ?_; (with_reducible refine (code_Check.calls k a0_0 _ _ l0_1 a0_2 t266 _ ?side1 ?side2 ?side3 A2.out).mono ?_); (case side1 => exact HG.below HGw.out (by repeat (first | (with_reducible first | exact HB.out | apply below_alloc | apply pw_below_drewN | apply below_drew1 | refine below_set ?_ GE265.out) | exact HB.out))); (case side2 => repeat (first | exact (Kd.C_below HR0_1.out HB.out) | (with_reducible refine Kd.C_alloc ?_ _) | (with_reducible refine Kd.C_drewN ?_ _) | (with_reducible refine Kd.C_drew ?_))); (case side3 => exact HC0_1.out); rintro e w13 ⟨rfl, hb⟩; refine ⟨_, rfl, ?_⟩; have n0_ := Aside0.mk (blk_below (g := gb265) (o := .cells #[.int .i64 a0_0, .slice A0_1 l0_1.length c0_1, .int .i64 a0_2, .slice A0_3 l0_3.length c0_3, .slice A0_4 l0_4.length c0_4] 64 (0, 0)) (by (with_reducible repeat (first | refine blk_drewN ?_ _ | refine blk_drew ?_ | refine blk_alloc ?_ _)); exact BK265.out) hb); have n1_ := Aside0.mk (below_step (by repeat (first | (with_reducible first | exact HB.out | apply below_alloc | apply pw_below_drewN | apply below_drew1 | refine below_set ?_ GE265.out) | exact HB.out)) hb); clear BK265; clear HB; have BK265 := n0_; have HB := n1_; clear n0_ n1_; (try clear hb); (try clear hb2); (try clear hk); (try clear hi); have hcz14_0 : w13.cell? ⟨gb265, 0, none⟩ = some (.int .i64 a0_0) := (blk_cell BK265.out 0).trans rfl; have hcz14_1 : w13.cell? ⟨gb265, 1, none⟩ = some (.slice A0_1 l0_1.length c0_1) := (blk_cell BK265.out 1).trans rfl; have hcz14_2 : w13.cell? ⟨gb265, 2, none⟩ = some (.int .i64 a0_2) := (blk_cell BK265.out 2).trans rfl; have hcz14_3 : w13.cell? ⟨gb265, 3, none⟩ = some (.slice A0_3 l0_3.length c0_3) := (blk_cell BK265.out 3).trans rfl; have hcz14_4 : w13.cell? ⟨gb265, 4, none⟩ = some (.slice A0_4 l0_4.length c0_4) := (blk_cell BK265.out 4).trans rfl; have hfz14_0 := blk_frozen BK265.out 0; have hfz14_1 := blk_frozen BK265.out 1; have hfz14_2 := blk_frozen BK265.out 2; have hfz14_3 := blk_frozen BK265.out 3; have hfz14_4 := blk_frozen BK265.out 4))
    have n0_ := Aside0.mk (blk_drew BK265.out)
    have n1_ := Aside0.mk (below_drew1 HB.out)
    clear BK265
    clear HB
    have BK265 := n0_
    have HB := n1_
    clear n0_ n1_
    refine start_ (n := 7) (S := fun w' => w'.cell? ⟨gb265, 0, none⟩ = some (.int .i64 a0_0) ∧ w'.cell? ⟨gb265, 1, none⟩ = some (.slice A0_1 l0_1.length c0_1) ∧ w'.cell? ⟨gb265, 2, none⟩ = some (.int .i64 a0_2) ∧ w'.cell? ⟨gb265, 3, none⟩ = some (.slice A0_3 l0_3.length c0_3) ∧ w'.cell? ⟨gb265, 4, none⟩ = some (.slice A0_4 l0_4.length c0_4)) (ds := []) #[false, false, false, false, false, false, false] (by kernel_rfl) rfl rfl ⟨(blk_cell BK265.out 0).trans rfl, (blk_cell BK265.out 1).trans rfl, (blk_cell BK265.out 2).trans rfl, (blk_cell BK265.out 3).trans rfl, (blk_cell BK265.out 4).trans rfl⟩ (fun hHeld => ?_)
    generalize w13.drew = w15 at BK265 HB hHeld ⊢
    refine pure_ (i := 0) (N := some 20) (v := ?_) (a' := ?_) #[true, false, false, false, false, false, false] rfl rfl (by kernel_rfl) (fun _ _ _ h => h) (Or.inl ⟨by rfl, ?_⟩) ?_ ?_
    rotate_left
    ·intro w'
     go_simp
     with_reducible rfl
    rotate_left
    ·simp only [Act.put, List.setIfInBounds_toArray, List.set_cons_zero, List.set_cons_succ, i64_w, i32_w]
     rfl
    refine pure_ (i := 3) (N := some 23) (v := ?_) (a' := ?_) #[true, false, false, true, false, false, false] rfl rfl (by kernel_rfl) (fun _ _ _ h => h) (Or.inl ⟨by rfl, ?_⟩) ?_ ?_
    rotate_left
    ·intro w'
     go_simp
     with_reducible rfl
    rotate_left
    ·simp only [Act.put, List.setIfInBounds_toArray, List.set_cons_zero, List.set_cons_succ, i64_w, i32_w]
     rfl
    refine take_ (i := 1) (N := some 21) (v := ?_) (a' := ?_) #[true, true, false, true, false, false, false] rfl rfl (by kernel_rfl) (fun _ _ _ h => h) (Or.inl ⟨by rfl, ?_⟩) hHeld ?_ ?_
    rotate_left
    ·rintro w' ⟨s0, s1, s2, s3, s4⟩
     go_simp
     with_reducible rfl
    rotate_left
    ·simp only [Act.put, List.setIfInBounds_toArray, List.set_cons_zero, List.set_cons_succ, i64_w, i32_w]
     rfl
    refine pure_ (i := 2) (N := some 22) (v := ?_) (a' := ?_) #[true, true, true, true, false, false, false] rfl rfl (by kernel_rfl) (fun _ _ _ h => h) (Or.inl ⟨by rfl, ?_⟩) ?_ ?_
    rotate_left
    ·intro w'
     go_simp
     with_reducible rfl
    rotate_left
    ·simp only [Act.put, List.setIfInBounds_toArray, List.set_cons_zero, List.set_cons_succ, i64_w, i32_w]
     rfl
    refine take_ (i := 4) (N := some 24) (v := ?_) (a' := ?_) #[true, true, true, true, true, false, false] rfl rfl (by kernel_rfl) (fun _ _ _ h => h) (Or.inl ⟨by rfl, ?_⟩) hHeld ?_ ?_
    rotate_left
    ·rintro w' ⟨s0, s1, s2, s3, s4⟩
     go_simp
     with_reducible rfl
    rotate_left
    ·simp only [Act.put, List.setIfInBounds_toArray, List.set_cons_zero, List.set_cons_succ, i64_w, i32_w]
     rfl
    refine one_ (i := 5) (N := some 25) #[true, true, true, true, true, true, false] rfl rfl (by kernel_rfl) (by decide) (fun K hK => ?_)
    refine goes_ Tryd.func21 (by kernel_rfl) rfl #[.agg #[.int .i64 a0_0, .slice A0_1 l0_1.length c0_1, .int .i64 a0_2]] (by rfl) rfl rfl (by (try simp only [List.map_toArray, List.map_cons, List.map_nil]); first | done | rfl | (simp only [List.length_drop, List.length_take]; rfl)) ?_
    with_reducible refine (code_Pieces.calls k a0_0 _ _ l0_1 a0_2 t267 _ ?side1 ?side2 ?side3 A9.out).mono ?_
    (case side1 => exact HG.below HGw.out (by repeat (first | (with_reducible first | exact HB.out | apply below_alloc | apply pw_below_drewN | apply below_drew1 | refine below_set ?_ GE265.out) | exact HB.out)))
    (case side2 => repeat (first | exact (Kd.C_below HR0_1.out HB.out) | (with_reducible refine Kd.C_alloc ?_ _) | (with_reducible refine Kd.C_drewN ?_ _) | (with_reducible refine Kd.C_drew ?_)))
    (case side3 => exact HC0_1.out)
    rintro e w16 ⟨rfl, hb⟩
    refine ⟨_, rfl, ?_⟩
    have n0_ := Aside0.mk (blk_below (g := gb265) (o := .cells #[.int .i64 a0_0, .slice A0_1 l0_1.length c0_1, .int .i64 a0_2, .slice A0_3 l0_3.length c0_3, .slice A0_4 l0_4.length c0_4] 64 (0, 0)) (by (with_reducible repeat (first | refine blk_drewN ?_ _ | refine blk_drew ?_ | refine blk_alloc ?_ _)); exact BK265.out) hb)
    have n1_ := Aside0.mk (below_step (by repeat (first | (with_reducible first | exact HB.out | apply below_alloc | apply pw_below_drewN | apply below_drew1 | refine below_set ?_ GE265.out) | exact HB.out)) hb)
    clear BK265
    clear HB
    have BK265 := n0_
    have HB := n1_
    clear n0_ n1_
    (try clear hb)
    (try clear hb2)
    (try clear hk)
    (try clear hi)
    refine hK.out _ _ ⟨(blk_cell BK265.out 0).trans rfl, (blk_cell BK265.out 1).trans rfl, (blk_cell BK265.out 2).trans rfl, (blk_cell BK265.out 3).trans rfl, (blk_cell BK265.out 4).trans rfl⟩ (fun hHeld => ?_)
    clear hK K
    refine norm_ (a' := ?_) ?_ ?_
    rotate_left
    ·show Act.put _ (some 25) _ = _
     simp only [Act.put, List.setIfInBounds_toArray, List.set_cons_zero, List.set_cons_succ, i64_w, i32_w]
     rfl
    refine pure_ (i := 6) (N := some 26) (v := ?_) (a' := ?_) #[true, true, true, true, true, true, true] rfl rfl (by kernel_rfl) (fun _ _ _ h => h) (Or.inl ⟨by rfl, ?_⟩) ?_ ?_
    rotate_left
    ·intro w'
     go_simp
     with_reducible rfl
    rotate_left
    ·simp only [Act.put, List.setIfInBounds_toArray, List.set_cons_zero, List.set_cons_succ, i64_w, i32_w]
     rfl
    refine done_ (by kernel_rfl) ?_
    have hcz17_0 : w16.cell? ⟨gb265, 0, none⟩ = some (.int .i64 a0_0) := (blk_cell BK265.out 0).trans rfl
    have hcz17_1 : w16.cell? ⟨gb265, 1, none⟩ = some (.slice A0_1 l0_1.length c0_1) := (blk_cell BK265.out 1).trans rfl
    have hcz17_2 : w16.cell? ⟨gb265, 2, none⟩ = some (.int .i64 a0_2) := (blk_cell BK265.out 2).trans rfl
    have hcz17_3 : w16.cell? ⟨gb265, 3, none⟩ = some (.slice A0_3 l0_3.length c0_3) := (blk_cell BK265.out 3).trans rfl
    have hcz17_4 : w16.cell? ⟨gb265, 4, none⟩ = some (.slice A0_4 l0_4.length c0_4) := (blk_cell BK265.out 4).trans rfl
    have hfz17_0 := blk_frozen BK265.out 0
    have hfz17_1 := blk_frozen BK265.out 1
    have hfz17_2 := blk_frozen BK265.out 2
    have hfz17_3 := blk_frozen BK265.out 3
    have hfz17_4 := blk_frozen BK265.out 4
    try go_wp2
    go_loopg [30] k (fun kq v30 w' => ∃ (x30_1 : Int), v30 = .int .i64 x30_1 ∧ Aside0 (risk_Check.l0 kq (l0_4.length : Int) l0_3 (l0_3.length : Int) x30_1 a0_0 l0_1 a0_2 l0_3 l0_4 = some r) ∧ Aside0 (kq ≤ k) ∧ Aside0 (w'.heap[gb265]? = some (.cells #[.int .i64 a0_0, (.slice A0_1 l0_1.length c0_1), .int .i64 a0_2, (.slice A0_3 l0_3.length c0_3), (.slice A0_4 l0_4.length c0_4)] 64 (0, 0))) ∧ Aside0 (Below w.heap.size w w'))
    case atStart => exact ⟨(0), (by first | rfl | (simp; done) | (simp [*]; done)), H', ⟨Nat.le_refl _⟩, ⟨by (with_reducible repeat (first | refine blk_drewN ?_ _ | refine blk_drew ?_ | refine blk_alloc ?_ _)); exact BK265.out⟩, ⟨by repeat (first | (with_reducible first | exact HB.out | apply below_alloc | apply pw_below_drewN | apply below_drew1 | refine below_set ?_ GE265.out) | exact HB.out)⟩⟩
    case round =>
     clear H'
     try clear c1
     try clear c2
     try clear p2
     try clear c3
     try clear c3b0
     try clear c3b1
     try clear c4
     try clear c4b0
     try clear c4b1
     try clear c5
     try clear c10
     try clear c10b0
     try clear c10b1
     try clear hcz12_0
     try clear hcz12_1
     try clear hcz12_2
     try clear hcz12_3
     try clear hcz12_4
     try clear hcz14_0
     try clear hcz14_1
     try clear hcz14_2
     try clear hcz14_3
     try clear hcz14_4
     try clear hcz17_0
     try clear hcz17_1
     try clear hcz17_2
     try clear hcz17_3
     try clear hcz17_4
     try clear hcz6_0
     try clear hcz6_1
     try clear hcz6_2
     try clear hcz6_3
     try clear hcz6_4
     try clear hcz8_0
     try clear hcz8_1
     try clear hcz8_2
     try clear hcz8_3
     try clear hcz8_4
     try clear hfz12_0
     try clear hfz12_1
     try clear hfz12_2
     try clear hfz12_3
     try clear hfz12_4
     try clear hfz14_0
     try clear hfz14_1
     try clear hfz14_2
     try clear hfz14_3
     try clear hfz14_4
     try clear hfz17_0
     try clear hfz17_1
     try clear hfz17_2
     try clear hfz17_3
     try clear hfz17_4
     try clear hfz6_0
     try clear hfz6_1
     try clear hfz6_2
     try clear hfz6_3
     try clear hfz6_4
     try clear hfz8_0
     try clear hfz8_1
     try clear hfz8_2
     try clear hfz8_3
     try clear hfz8_4
     obtain ⟨x30_1, rfl, HA, HK1, BK265, HB⟩ := hrel
     cases gk with
     | zero => exact absurd HA.out (by simp [risk_Check.l0])
     | succ k1 =>
      have H := HA.out
      clear HA
      simp only [risk_Check.l0] at H
      by_cases c18 : x30_1 < (l0_3.length : Int)
      ·rw [if_pos c18] at H
       have c18b0 : decide (x30_1 < (l0_3.length : Int)) = true := decide_eq_true c18
       clear c18
       by_cases c19 : 0 ≤ x30_1
       ·rw [if_pos c19] at H
        have c19b0 : decide (0 ≤ x30_1) = true := decide_eq_true c19
        clear c19
        by_cases c20 : x30_1 < (l0_3.length : Int)
        ·rw [if_pos c20] at H
         have c20b0 : decide (x30_1 < (l0_3.length : Int)) = true := decide_eq_true c20
         clear c20
         by_cases c21 : (rd l0_3 x30_1) < (-1)
         ·rw [if_pos c21] at H
          have c21b0 : decide ((rd l0_3 x30_1) < (-1)) = true := decide_eq_true c21
          clear c21
          obtain rfl := Option.some.inj H
          have p268 : 0 ≤ (x30_1 : Int) := of_decide_eq_true (by first | (with_reducible assumption) | assumption)
          have q268 : x30_1 < (l0_3.length : Int) := of_decide_eq_true (by first | (with_reducible assumption) | assumption)
          obtain ⟨ad268, e268, hx268_0⟩ := Kd.at_int HR0_3.out x30_1 p268 q268
          cases e268
          replace hx268_0 := (HB.out.cell (World.block_lt_of_cell? w _ hx268_0)).trans hx268_0
          replace p268 := eq_true p268
          replace q268 := eq_true q268
          go_wp2
          go_ret
          exact ⟨by first | rfl | (simp [errW_none, errW_some] <;> rfl) | (simp [*, errW_none, errW_some] <;> rfl), by repeat (first | (with_reducible first | exact HB.out | apply below_alloc | apply pw_below_drewN | apply below_drew1 | refine below_set ?_ GE265.out) | exact HB.out)⟩
         ·rw [if_neg c21] at H
          have c21b0 : decide ((rd l0_3 x30_1) < (-1)) = false := decide_eq_false c21
          clear c21
          by_cases c22 : (rd l0_3 x30_1) ≥ (l0_4.length : Int)
          ·rw [if_pos c22] at H
           have c22b0 : decide ((l0_4.length : Int) ≤ (rd l0_3 x30_1)) = true := decide_eq_true c22
           clear c22
           obtain rfl := Option.some.inj H
           have p268 : 0 ≤ (x30_1 : Int) := of_decide_eq_true (by first | (with_reducible assumption) | assumption)
           have q268 : x30_1 < (l0_3.length : Int) := of_decide_eq_true (by first | (with_reducible assumption) | assumption)
           obtain ⟨ad268, e268, hx268_0⟩ := Kd.at_int HR0_3.out x30_1 p268 q268
           cases e268
           replace hx268_0 := (HB.out.cell (World.block_lt_of_cell? w _ hx268_0)).trans hx268_0
           replace p268 := eq_true p268
           replace q268 := eq_true q268
           go_wp2
           go_ret
           exact ⟨by first | rfl | (simp [errW_none, errW_some] <;> rfl) | (simp [*, errW_none, errW_some] <;> rfl), by repeat (first | (with_reducible first | exact HB.out | apply below_alloc | apply pw_below_drewN | apply below_drew1 | refine below_set ?_ GE265.out) | exact HB.out)⟩
          ·rw [if_neg c22] at H
           have c22b0 : decide ((l0_4.length : Int) ≤ (rd l0_3 x30_1)) = false := decide_eq_false c22
           clear c22
           have H' := Aside0.mk H
           clear H
           have p268 : 0 ≤ (x30_1 : Int) := of_decide_eq_true (by first | (with_reducible assumption) | assumption)
           have q268 : x30_1 < (l0_3.length : Int) := of_decide_eq_true (by first | (with_reducible assumption) | assumption)
           obtain ⟨ad268, e268, hx268_0⟩ := Kd.at_int HR0_3.out x30_1 p268 q268
           cases e268
           replace hx268_0 := (HB.out.cell (World.block_lt_of_cell? w _ hx268_0)).trans hx268_0
           replace p268 := eq_true p268
           replace q268 := eq_true q268
           go_wp2
           go_roundg k1
           case measure => have := HK1.out; omega
           case rel => exact ⟨(wrap64 (x30_1 + 1)), (by first | rfl | (simp; done) | (simp [*]; done)), H', ⟨by have := HK1.out; omega⟩, ⟨by (with_reducible repeat (first | refine blk_drewN ?_ _ | refine blk_drew ?_ | refine blk_alloc ?_ _)); exact BK265.out⟩, ⟨by repeat (first | (with_reducible first | exact HB.out | apply below_alloc | apply pw_below_drewN | apply below_drew1 | refine below_set ?_ GE265.out) | exact HB.out)⟩⟩
        ·rw [if_neg c20] at H
         exact absurd H (by simp)
       ·rw [if_neg c19] at H
        exact absurd H (by simp)
      ·rw [if_neg c18] at H
       have c18b0 : decide (x30_1 < (l0_3.length : Int)) = false := decide_eq_false c18
       clear c18
       have H' := Aside0.mk H
       clear H
       have hcz23_0 : wr.cell? ⟨gb265, 0, none⟩ = some (.int .i64 a0_0) := (blk_cell BK265.out 0).trans rfl
       have hcz23_1 : wr.cell? ⟨gb265, 1, none⟩ = some (.slice A0_1 l0_1.length c0_1) := (blk_cell BK265.out 1).trans rfl
       have hcz23_2 : wr.cell? ⟨gb265, 2, none⟩ = some (.int .i64 a0_2) := (blk_cell BK265.out 2).trans rfl
       have hcz23_3 : wr.cell? ⟨gb265, 3, none⟩ = some (.slice A0_3 l0_3.length c0_3) := (blk_cell BK265.out 3).trans rfl
       have hcz23_4 : wr.cell? ⟨gb265, 4, none⟩ = some (.slice A0_4 l0_4.length c0_4) := (blk_cell BK265.out 4).trans rfl
       have hfz23_0 := blk_frozen BK265.out 0
       have hfz23_1 := blk_frozen BK265.out 1
       have hfz23_2 := blk_frozen BK265.out 2
       have hfz23_3 := blk_frozen BK265.out 3
       have hfz23_4 := blk_frozen BK265.out 4
       go_wp2
       go_loopg [45] k1 (fun kq v45 w' => ∃ (x45_2 : Int), v45 = .int .i64 x45_2 ∧ Aside0 (risk_Check.l1 kq l0_4 (l0_4.length : Int) x45_2 = some r) ∧ Aside0 (kq ≤ k1) ∧ Aside0 (w'.heap[gb265]? = some (.cells #[.int .i64 a0_0, (.slice A0_1 l0_1.length c0_1), .int .i64 a0_2, (.slice A0_3 l0_3.length c0_3), (.slice A0_4 l0_4.length c0_4)] 64 (0, 0))) ∧ Aside0 (Below w.heap.size w w'))
       case atStart => exact ⟨(0), (by first | rfl | (simp; done) | (simp [*]; done)), H', ⟨Nat.le_refl _⟩, ⟨by (with_reducible repeat (first | refine blk_drewN ?_ _ | refine blk_drew ?_ | refine blk_alloc ?_ _)); exact BK265.out⟩, ⟨by repeat (first | (with_reducible first | exact HB.out | apply below_alloc | apply pw_below_drewN | apply below_drew1 | refine below_set ?_ GE265.out) | exact HB.out)⟩⟩
       case round =>
        clear H'
        try clear c1
        try clear c2
        try clear p2
        try clear q2
        try clear hx2
        try clear c3
        try clear c3b0
        try clear c3b1
        try clear c4
        try clear c4b0
        try clear c4b1
        try clear c5
        try clear p6
        try clear c10
        try clear c10b0
        try clear c10b1
        try clear c18
        try clear c18b0
        try clear c19
        try clear c19b0
        try clear c20
        try clear c20b0
        try clear c21
        try clear c21b0
        try clear c22
        try clear c22b0
        try clear hcz12_0
        try clear hcz12_1
        try clear hcz12_2
        try clear hcz12_3
        try clear hcz12_4
        try clear hcz14_0
        try clear hcz14_1
        try clear hcz14_2
        try clear hcz14_3
        try clear hcz14_4
        try clear hcz17_0
        try clear hcz17_1
        try clear hcz17_2
        try clear hcz17_3
        try clear hcz17_4
        try clear hcz23_0
        try clear hcz23_1
        try clear hcz23_2
        try clear hcz23_3
        try clear hcz23_4
        try clear hcz6_0
        try clear hcz6_1
        try clear hcz6_2
        try clear hcz6_3
        try clear hcz6_4
        try clear hcz8_0
        try clear hcz8_1
        try clear hcz8_2
        try clear hcz8_3
        try clear hcz8_4
        try clear hfz12_0
        try clear hfz12_1
        try clear hfz12_2
        try clear hfz12_3
        try clear hfz12_4
        try clear hfz14_0
        try clear hfz14_1
        try clear hfz14_2
        try clear hfz14_3
        try clear hfz14_4
        try clear hfz17_0
        try clear hfz17_1
        try clear hfz17_2
        try clear hfz17_3
        try clear hfz17_4
        try clear hfz23_0
        try clear hfz23_1
        try clear hfz23_2
        try clear hfz23_3
        try clear hfz23_4
        try clear hfz6_0
        try clear hfz6_1
        try clear hfz6_2
        try clear hfz6_3
        try clear hfz6_4
        try clear hfz8_0
        try clear hfz8_1
        try clear hfz8_2
        try clear hfz8_3
        try clear hfz8_4
        try clear hx268_0
        try clear p2
        try clear p268
        try clear q268
        obtain ⟨x45_2, rfl, HA, HK2, BK265, HB⟩ := hrel
        cases gk with
        | zero => exact absurd HA.out (by simp [risk_Check.l1])
        | succ k2 =>
         have H := HA.out
         clear HA
         simp only [risk_Check.l1] at H
         by_cases c24 : x45_2 < (l0_4.length : Int)
         ·rw [if_pos c24] at H
          have c24b0 : decide (x45_2 < (l0_4.length : Int)) = true := decide_eq_true c24
          clear c24
          by_cases c25 : 0 ≤ x45_2
          ·rw [if_pos c25] at H
           have c25b0 : decide (0 ≤ x45_2) = true := decide_eq_true c25
           clear c25
           by_cases c26 : x45_2 < (l0_4.length : Int)
           ·rw [if_pos c26] at H
            have c26b0 : decide (x45_2 < (l0_4.length : Int)) = true := decide_eq_true c26
            clear c26
            by_cases c27 : (rd l0_4 x45_2) < 0
            ·rw [if_pos c27] at H
             have c27b0 : decide ((rd l0_4 x45_2) < 0) = true := decide_eq_true c27
             clear c27
             obtain rfl := Option.some.inj H
             have p269 : 0 ≤ (x45_2 : Int) := of_decide_eq_true (by first | (with_reducible assumption) | assumption)
             have q269 : x45_2 < (l0_4.length : Int) := of_decide_eq_true (by first | (with_reducible assumption) | assumption)
             obtain ⟨ad269, e269, hx269_0⟩ := Kd.at_int HR0_4.out x45_2 p269 q269
             cases e269
             replace hx269_0 := (HB.out.cell (World.block_lt_of_cell? w _ hx269_0)).trans hx269_0
             replace p269 := eq_true p269
             replace q269 := eq_true q269
             go_wp2
             go_ret
             exact ⟨by first | rfl | (simp [errW_none, errW_some] <;> rfl) | (simp [*, errW_none, errW_some] <;> rfl), by repeat (first | (with_reducible first | exact HB.out | apply below_alloc | apply pw_below_drewN | apply below_drew1 | refine below_set ?_ GE265.out) | exact HB.out)⟩
            ·rw [if_neg c27] at H
             have c27b0 : decide ((rd l0_4 x45_2) < 0) = false := decide_eq_false c27
             clear c27
             by_cases c28 : (rd l0_4 x45_2) > 16
             ·rw [if_pos c28] at H
              have c28b0 : decide (16 < (rd l0_4 x45_2)) = true := decide_eq_true c28
              clear c28
              obtain rfl := Option.some.inj H
              have p269 : 0 ≤ (x45_2 : Int) := of_decide_eq_true (by first | (with_reducible assumption) | assumption)
              have q269 : x45_2 < (l0_4.length : Int) := of_decide_eq_true (by first | (with_reducible assumption) | assumption)
              obtain ⟨ad269, e269, hx269_0⟩ := Kd.at_int HR0_4.out x45_2 p269 q269
              cases e269
              replace hx269_0 := (HB.out.cell (World.block_lt_of_cell? w _ hx269_0)).trans hx269_0
              replace p269 := eq_true p269
              replace q269 := eq_true q269
              go_wp2
              go_ret
              exact ⟨by first | rfl | (simp [errW_none, errW_some] <;> rfl) | (simp [*, errW_none, errW_some] <;> rfl), by repeat (first | (with_reducible first | exact HB.out | apply below_alloc | apply pw_below_drewN | apply below_drew1 | refine below_set ?_ GE265.out) | exact HB.out)⟩
             ·rw [if_neg c28] at H
              have c28b0 : decide (16 < (rd l0_4 x45_2)) = false := decide_eq_false c28
              clear c28
              have H' := Aside0.mk H
              clear H
              have p269 : 0 ≤ (x45_2 : Int) := of_decide_eq_true (by first | (with_reducible assumption) | assumption)
              have q269 : x45_2 < (l0_4.length : Int) := of_decide_eq_true (by first | (with_reducible assumption) | assumption)
              obtain ⟨ad269, e269, hx269_0⟩ := Kd.at_int HR0_4.out x45_2 p269 q269
              cases e269
              replace hx269_0 := (HB.out.cell (World.block_lt_of_cell? w _ hx269_0)).trans hx269_0
              replace p269 := eq_true p269
              replace q269 := eq_true q269
              go_wp2
              go_roundg k2
              case measure => have := HK1.out; have := HK2.out; omega
              case rel => exact ⟨(wrap64 (x45_2 + 1)), (by first | rfl | (simp; done) | (simp [*]; done)), H', ⟨by have := HK1.out; have := HK2.out; omega⟩, ⟨by (with_reducible repeat (first | refine blk_drewN ?_ _ | refine blk_drew ?_ | refine blk_alloc ?_ _)); exact BK265.out⟩, ⟨by repeat (first | (with_reducible first | exact HB.out | apply below_alloc | apply pw_below_drewN | apply below_drew1 | refine below_set ?_ GE265.out) | exact HB.out)⟩⟩
           ·rw [if_neg c26] at H
            exact absurd H (by simp)
          ·rw [if_neg c25] at H
           exact absurd H (by simp)
         ·rw [if_neg c24] at H
          have c24b0 : decide (x45_2 < (l0_4.length : Int)) = false := decide_eq_false c24
          clear c24
          obtain rfl := Option.some.inj H
          go_wp2
          go_ret
          exact ⟨by first | rfl | (simp [errW_none, errW_some] <;> rfl) | (simp [*, errW_none, errW_some] <;> rfl), by repeat (first | (with_reducible first | exact HB.out | apply below_alloc | apply pw_below_drewN | apply below_drew1 | refine below_set ?_ GE265.out) | exact HB.out)⟩
   ·rw [if_neg c10] at H
    have c10b0 : ((l0_3.length : Int) == t267) = false := beq_eq_false_iff_ne.mpr c10
    have c10b1 : ((l0_3.length : Int) != t267) = true := bne_iff_ne.mpr c10
    obtain rfl := Option.some.inj H
    go_enter Tryd.func50, Tryd.ntmps50
    try go_wp2_with (first | ((with_reducible refine gate_dst (N := 1) rfl ?_); refine box_event ?hg (N := 1) ?hd (cs := #[.int .i64 a0_0, .slice A0_1 l0_1.length c0_1, .int .i64 a0_2, .slice A0_3 l0_3.length c0_3, .slice A0_4 l0_4.length c0_4]) (t := 64) ?hr ?_; (case hd => rfl); (case hg => rfl); (case hr => first | (go_simp; done) | (go_simp; rfl)); intro gb265 hg w29 hbox hb; have n0_ := Aside0.mk (below_step (by repeat (first | (with_reducible first | exact HB.out | apply below_alloc | apply pw_below_drewN | apply below_drew1) | exact HB.out)) hb); have n1_ := Aside0.mk (hbox); have n2_ := Aside0.mk ((by rw [hg]; exact (below_size (by repeat (first | (with_reducible first | exact HB.out | apply below_alloc | apply pw_below_drewN | apply below_drew1) | exact HB.out))) : w.heap.size ≤ gb265)); have n3_ := Aside0.mk ((by rw [hg]; exact (below_size (by repeat (first | (with_reducible first | exact HB.out | apply below_alloc | apply pw_below_drewN | apply below_drew1) | exact HB.out))) : w.heap.size ≤ gb265)); clear HB; have HB := n0_; have BK265 := n1_; have GW265 := n2_; have GE265 := n3_; clear n0_ n1_ n2_ n3_; clear hb hbox hg; have hcz30_0 : w29.cell? ⟨gb265, 0, none⟩ = some (.int .i64 a0_0) := (blk_cell BK265.out 0).trans rfl; have hcz30_1 : w29.cell? ⟨gb265, 1, none⟩ = some (.slice A0_1 l0_1.length c0_1) := (blk_cell BK265.out 1).trans rfl; have hcz30_2 : w29.cell? ⟨gb265, 2, none⟩ = some (.int .i64 a0_2) := (blk_cell BK265.out 2).trans rfl; have hcz30_3 : w29.cell? ⟨gb265, 3, none⟩ = some (.slice A0_3 l0_3.length c0_3) := (blk_cell BK265.out 3).trans rfl; have hcz30_4 : w29.cell? ⟨gb265, 4, none⟩ = some (.slice A0_4 l0_4.length c0_4) := (blk_cell BK265.out 4).trans rfl; have hfz30_0 := blk_frozen BK265.out 0; have hfz30_1 := blk_frozen BK265.out 1; have hfz30_2 := blk_frozen BK265.out 2; have hfz30_3 := blk_frozen BK265.out 3; have hfz30_4 := blk_frozen BK265.out 4) | ((with_reducible refine gate_callee (f := 20) rfl ?_); refine goesL_ (some 11) rfl rfl Tryd.func20 (by kernel_rfl) rfl #[.agg #[.int .i64 a0_0, .slice A0_1 l0_1.length c0_1, .int .i64 a0_2]] rfl (by (try simp only [List.map_toArray, List.map_cons, List.map_nil]); first | done | rfl | (simp only [List.length_drop, List.length_take]; rfl)) ?_; (with_reducible refine (code_Check.calls k a0_0 _ _ l0_1 a0_2 t266 _ ?side1 ?side2 ?side3 A2.out).mono ?_); (case side1 => exact HG.below HGw.out (by repeat (first | (with_reducible first | exact HB.out | apply below_alloc | apply pw_below_drewN | apply below_drew1 | refine below_set ?_ GE265.out) | exact HB.out))); (case side2 => repeat (first | exact (Kd.C_below HR0_1.out HB.out) | (with_reducible refine Kd.C_alloc ?_ _) | (with_reducible refine Kd.C_drewN ?_ _) | (with_reducible refine Kd.C_drew ?_))); (case side3 => exact HC0_1.out); rintro e w31 ⟨rfl, hb⟩; refine ⟨_, rfl, ?_⟩; have n0_ := Aside0.mk (blk_below (g := gb265) (o := .cells #[.int .i64 a0_0, .slice A0_1 l0_1.length c0_1, .int .i64 a0_2, .slice A0_3 l0_3.length c0_3, .slice A0_4 l0_4.length c0_4] 64 (0, 0)) (by (with_reducible repeat (first | refine blk_drewN ?_ _ | refine blk_drew ?_ | refine blk_alloc ?_ _)); exact BK265.out) hb); have n1_ := Aside0.mk (below_step (by repeat (first | (with_reducible first | exact HB.out | apply below_alloc | apply pw_below_drewN | apply below_drew1 | refine below_set ?_ GE265.out) | exact HB.out)) hb); clear BK265; clear HB; have BK265 := n0_; have HB := n1_; clear n0_ n1_; (try clear hb); (try clear hb2); (try clear hk); (try clear hi); have hcz32_0 : w31.cell? ⟨gb265, 0, none⟩ = some (.int .i64 a0_0) := (blk_cell BK265.out 0).trans rfl; have hcz32_1 : w31.cell? ⟨gb265, 1, none⟩ = some (.slice A0_1 l0_1.length c0_1) := (blk_cell BK265.out 1).trans rfl; have hcz32_2 : w31.cell? ⟨gb265, 2, none⟩ = some (.int .i64 a0_2) := (blk_cell BK265.out 2).trans rfl; have hcz32_3 : w31.cell? ⟨gb265, 3, none⟩ = some (.slice A0_3 l0_3.length c0_3) := (blk_cell BK265.out 3).trans rfl; have hcz32_4 : w31.cell? ⟨gb265, 4, none⟩ = some (.slice A0_4 l0_4.length c0_4) := (blk_cell BK265.out 4).trans rfl; have hfz32_0 := blk_frozen BK265.out 0; have hfz32_1 := blk_frozen BK265.out 1; have hfz32_2 := blk_frozen BK265.out 2; have hfz32_3 := blk_frozen BK265.out 3; have hfz32_4 := blk_frozen BK265.out 4))
    have n0_ := Aside0.mk (blk_drew BK265.out)
    have n1_ := Aside0.mk (below_drew1 HB.out)
    clear BK265
    clear HB
    have BK265 := n0_
    have HB := n1_
    clear n0_ n1_
    refine start_ (n := 7) (S := fun w' => w'.cell? ⟨gb265, 0, none⟩ = some (.int .i64 a0_0) ∧ w'.cell? ⟨gb265, 1, none⟩ = some (.slice A0_1 l0_1.length c0_1) ∧ w'.cell? ⟨gb265, 2, none⟩ = some (.int .i64 a0_2) ∧ w'.cell? ⟨gb265, 3, none⟩ = some (.slice A0_3 l0_3.length c0_3) ∧ w'.cell? ⟨gb265, 4, none⟩ = some (.slice A0_4 l0_4.length c0_4)) (ds := []) #[false, false, false, false, false, false, false] (by kernel_rfl) rfl rfl ⟨(blk_cell BK265.out 0).trans rfl, (blk_cell BK265.out 1).trans rfl, (blk_cell BK265.out 2).trans rfl, (blk_cell BK265.out 3).trans rfl, (blk_cell BK265.out 4).trans rfl⟩ (fun hHeld => ?_)
    generalize w31.drew = w33 at BK265 HB hHeld ⊢
    refine pure_ (i := 0) (N := some 20) (v := ?_) (a' := ?_) #[true, false, false, false, false, false, false] rfl rfl (by kernel_rfl) (fun _ _ _ h => h) (Or.inl ⟨by rfl, ?_⟩) ?_ ?_
    rotate_left
    ·intro w'
     go_simp
     with_reducible rfl
    rotate_left
    ·simp only [Act.put, List.setIfInBounds_toArray, List.set_cons_zero, List.set_cons_succ, i64_w, i32_w]
     rfl
    refine pure_ (i := 3) (N := some 23) (v := ?_) (a' := ?_) #[true, false, false, true, false, false, false] rfl rfl (by kernel_rfl) (fun _ _ _ h => h) (Or.inl ⟨by rfl, ?_⟩) ?_ ?_
    rotate_left
    ·intro w'
     go_simp
     with_reducible rfl
    rotate_left
    ·simp only [Act.put, List.setIfInBounds_toArray, List.set_cons_zero, List.set_cons_succ, i64_w, i32_w]
     rfl
    refine take_ (i := 1) (N := some 21) (v := ?_) (a' := ?_) #[true, true, false, true, false, false, false] rfl rfl (by kernel_rfl) (fun _ _ _ h => h) (Or.inl ⟨by rfl, ?_⟩) hHeld ?_ ?_
    rotate_left
    ·rintro w' ⟨s0, s1, s2, s3, s4⟩
     go_simp
     with_reducible rfl
    rotate_left
    ·simp only [Act.put, List.setIfInBounds_toArray, List.set_cons_zero, List.set_cons_succ, i64_w, i32_w]
     rfl
    refine pure_ (i := 2) (N := some 22) (v := ?_) (a' := ?_) #[true, true, true, true, false, false, false] rfl rfl (by kernel_rfl) (fun _ _ _ h => h) (Or.inl ⟨by rfl, ?_⟩) ?_ ?_
    rotate_left
    ·intro w'
     go_simp
     with_reducible rfl
    rotate_left
    ·simp only [Act.put, List.setIfInBounds_toArray, List.set_cons_zero, List.set_cons_succ, i64_w, i32_w]
     rfl
    refine take_ (i := 4) (N := some 24) (v := ?_) (a' := ?_) #[true, true, true, true, true, false, false] rfl rfl (by kernel_rfl) (fun _ _ _ h => h) (Or.inl ⟨by rfl, ?_⟩) hHeld ?_ ?_
    rotate_left
    ·rintro w' ⟨s0, s1, s2, s3, s4⟩
     go_simp
     with_reducible rfl
    rotate_left
    ·simp only [Act.put, List.setIfInBounds_toArray, List.set_cons_zero, List.set_cons_succ, i64_w, i32_w]
     rfl
    refine one_ (i := 5) (N := some 25) #[true, true, true, true, true, true, false] rfl rfl (by kernel_rfl) (by decide) (fun K hK => ?_)
    refine goes_ Tryd.func21 (by kernel_rfl) rfl #[.agg #[.int .i64 a0_0, .slice A0_1 l0_1.length c0_1, .int .i64 a0_2]] (by rfl) rfl rfl (by (try simp only [List.map_toArray, List.map_cons, List.map_nil]); first | done | rfl | (simp only [List.length_drop, List.length_take]; rfl)) ?_
    with_reducible refine (code_Pieces.calls k a0_0 _ _ l0_1 a0_2 t267 _ ?side1 ?side2 ?side3 A9.out).mono ?_
    (case side1 => exact HG.below HGw.out (by repeat (first | (with_reducible first | exact HB.out | apply below_alloc | apply pw_below_drewN | apply below_drew1 | refine below_set ?_ GE265.out) | exact HB.out)))
    (case side2 => repeat (first | exact (Kd.C_below HR0_1.out HB.out) | (with_reducible refine Kd.C_alloc ?_ _) | (with_reducible refine Kd.C_drewN ?_ _) | (with_reducible refine Kd.C_drew ?_)))
    (case side3 => exact HC0_1.out)
    rintro e w34 ⟨rfl, hb⟩
    refine ⟨_, rfl, ?_⟩
    have n0_ := Aside0.mk (blk_below (g := gb265) (o := .cells #[.int .i64 a0_0, .slice A0_1 l0_1.length c0_1, .int .i64 a0_2, .slice A0_3 l0_3.length c0_3, .slice A0_4 l0_4.length c0_4] 64 (0, 0)) (by (with_reducible repeat (first | refine blk_drewN ?_ _ | refine blk_drew ?_ | refine blk_alloc ?_ _)); exact BK265.out) hb)
    have n1_ := Aside0.mk (below_step (by repeat (first | (with_reducible first | exact HB.out | apply below_alloc | apply pw_below_drewN | apply below_drew1 | refine below_set ?_ GE265.out) | exact HB.out)) hb)
    clear BK265
    clear HB
    have BK265 := n0_
    have HB := n1_
    clear n0_ n1_
    (try clear hb)
    (try clear hb2)
    (try clear hk)
    (try clear hi)
    refine hK.out _ _ ⟨(blk_cell BK265.out 0).trans rfl, (blk_cell BK265.out 1).trans rfl, (blk_cell BK265.out 2).trans rfl, (blk_cell BK265.out 3).trans rfl, (blk_cell BK265.out 4).trans rfl⟩ (fun hHeld => ?_)
    clear hK K
    refine norm_ (a' := ?_) ?_ ?_
    rotate_left
    ·show Act.put _ (some 25) _ = _
     simp only [Act.put, List.setIfInBounds_toArray, List.set_cons_zero, List.set_cons_succ, i64_w, i32_w]
     rfl
    refine pure_ (i := 6) (N := some 26) (v := ?_) (a' := ?_) #[true, true, true, true, true, true, true] rfl rfl (by kernel_rfl) (fun _ _ _ h => h) (Or.inl ⟨by rfl, ?_⟩) ?_ ?_
    rotate_left
    ·intro w'
     go_simp
     with_reducible rfl
    rotate_left
    ·simp only [Act.put, List.setIfInBounds_toArray, List.set_cons_zero, List.set_cons_succ, i64_w, i32_w]
     rfl
    refine done_ (by kernel_rfl) ?_
    try go_wp2
    go_ret
    exact ⟨by first | rfl | (simp [errW_none, errW_some] <;> rfl) | (simp [*, errW_none, errW_some] <;> rfl), by repeat (first | (with_reducible first | exact HB.out | apply below_alloc | apply pw_below_drewN | apply below_drew1 | refine below_set ?_ GE265.out) | exact HB.out)⟩
 ·rw [if_neg c3] at H
  have c3b0 : (t266 == 0) = false := beq_eq_false_iff_ne.mpr c3
  have c3b1 : (t266 != 0) = true := bne_iff_ne.mpr c3
  obtain rfl := Option.some.inj H
  go_enter Tryd.func50, Tryd.ntmps50
  go_wp2_with (first | ((with_reducible refine gate_dst (N := 1) rfl ?_); refine box_event ?hg (N := 1) ?hd (cs := #[.int .i64 a0_0, .slice A0_1 l0_1.length c0_1, .int .i64 a0_2, .slice A0_3 l0_3.length c0_3, .slice A0_4 l0_4.length c0_4]) (t := 64) ?hr ?_; (case hd => rfl); (case hg => rfl); (case hr => first | (go_simp; done) | (go_simp; rfl)); intro gb265 hg w35 hbox hb; have n0_ := Aside0.mk (below_step (by repeat (first | (with_reducible first | exact HB.out | apply below_alloc | apply pw_below_drewN | apply below_drew1) | exact HB.out)) hb); have n1_ := Aside0.mk (hbox); have n2_ := Aside0.mk ((by rw [hg]; exact (below_size (by repeat (first | (with_reducible first | exact HB.out | apply below_alloc | apply pw_below_drewN | apply below_drew1) | exact HB.out))) : w.heap.size ≤ gb265)); have n3_ := Aside0.mk ((by rw [hg]; exact (below_size (by repeat (first | (with_reducible first | exact HB.out | apply below_alloc | apply pw_below_drewN | apply below_drew1) | exact HB.out))) : w.heap.size ≤ gb265)); clear HB; have HB := n0_; have BK265 := n1_; have GW265 := n2_; have GE265 := n3_; clear n0_ n1_ n2_ n3_; clear hb hbox hg; have hcz36_0 : w35.cell? ⟨gb265, 0, none⟩ = some (.int .i64 a0_0) := (blk_cell BK265.out 0).trans rfl; have hcz36_1 : w35.cell? ⟨gb265, 1, none⟩ = some (.slice A0_1 l0_1.length c0_1) := (blk_cell BK265.out 1).trans rfl; have hcz36_2 : w35.cell? ⟨gb265, 2, none⟩ = some (.int .i64 a0_2) := (blk_cell BK265.out 2).trans rfl; have hcz36_3 : w35.cell? ⟨gb265, 3, none⟩ = some (.slice A0_3 l0_3.length c0_3) := (blk_cell BK265.out 3).trans rfl; have hcz36_4 : w35.cell? ⟨gb265, 4, none⟩ = some (.slice A0_4 l0_4.length c0_4) := (blk_cell BK265.out 4).trans rfl; have hfz36_0 := blk_frozen BK265.out 0; have hfz36_1 := blk_frozen BK265.out 1; have hfz36_2 := blk_frozen BK265.out 2; have hfz36_3 := blk_frozen BK265.out 3; have hfz36_4 := blk_frozen BK265.out 4) | ((with_reducible refine gate_callee (f := 20) rfl ?_); refine goesL_ (some 11) rfl rfl Tryd.func20 (by kernel_rfl) rfl #[.agg #[.int .i64 a0_0, .slice A0_1 l0_1.length c0_1, .int .i64 a0_2]] rfl (by (try simp only [List.map_toArray, List.map_cons, List.map_nil]); first | done | rfl | (simp only [List.length_drop, List.length_take]; rfl)) ?_; (with_reducible refine (code_Check.calls k a0_0 _ _ l0_1 a0_2 t266 _ ?side1 ?side2 ?side3 A2.out).mono ?_); (case side1 => exact HG.below HGw.out (by repeat (first | (with_reducible first | exact HB.out | apply below_alloc | apply pw_below_drewN | apply below_drew1 | refine below_set ?_ GE265.out) | exact HB.out))); (case side2 => repeat (first | exact (Kd.C_below HR0_1.out HB.out) | (with_reducible refine Kd.C_alloc ?_ _) | (with_reducible refine Kd.C_drewN ?_ _) | (with_reducible refine Kd.C_drew ?_))); (case side3 => exact HC0_1.out); rintro e w37 ⟨rfl, hb⟩; refine ⟨_, rfl, ?_⟩; have n0_ := Aside0.mk (blk_below (g := gb265) (o := .cells #[.int .i64 a0_0, .slice A0_1 l0_1.length c0_1, .int .i64 a0_2, .slice A0_3 l0_3.length c0_3, .slice A0_4 l0_4.length c0_4] 64 (0, 0)) (by (with_reducible repeat (first | refine blk_drewN ?_ _ | refine blk_drew ?_ | refine blk_alloc ?_ _)); exact BK265.out) hb); have n1_ := Aside0.mk (below_step (by repeat (first | (with_reducible first | exact HB.out | apply below_alloc | apply pw_below_drewN | apply below_drew1 | refine below_set ?_ GE265.out) | exact HB.out)) hb); clear BK265; clear HB; have BK265 := n0_; have HB := n1_; clear n0_ n1_; (try clear hb); (try clear hb2); (try clear hk); (try clear hi)))
  go_ret
  exact ⟨by first | rfl | (simp [errW_none, errW_some] <;> rfl) | (simp [*, errW_none, errW_some] <;> rfl), by repeat (first | (with_reducible first | exact HB.out | apply below_alloc | apply pw_below_drewN | apply below_drew1 | refine below_set ?_ GE265.out) | exact HB.out)⟩


/-! ### code_Rows_1: function 58 -/
/-- What a closure adds: a row of so many elements, appended to the rows in a variable. -/
def addPost (po : Nat) (base : Nat) (w0 : World) (xs : List (List Int)) (v : Value) (w : World) (e : Ending) (w' : World) : Prop :=
 e = .returned (.tuple #[]) ∧ ∃ v1, w'.heap[po]? = some (.cells #[v1] 29 (0, 0)) ∧ Kd.S (Kd.slice 5 (Kd.int .u8)) 57 w' base (fun _ => True) v1 xs ∧ Below base w0 w' ∧ KeepBut w w' po v.ownBlock
set_option maxHeartbeats 1000000 in
set_option maxRecDepth 100000 in
theorem code_Rows_1.calls (data : Nat) (F : FuncId) (caps : Array Value) (g : Nat → Int) (pc po base : Nat) (u1 u2 : Value) (xs : List (List Int)) (v : Value) (w0 w : World) (hd : data ≤ 16)
  (he : ∀ args W, (callFunc F args).run Tryd.prog W = .ok (.enter F args) W)
  (hF : ∀ k, k < data → ∀ W, Below w.heap.size w W → Calls Tryd.prog F (#[.int .i64 (k : Int)] ++ caps) W fun e W' => e = .returned (.int .u8 (g k)) ∧ Drawn0 W W')
  (hc : w.heap[pc]? = some (.cells #[.int .i64 (data : Int), u1, u2] 24 (0, 0))) (ho : w.heap[po]? = some (.cells #[v] 29 (0, 0)))
  (hS : Kd.S (Kd.slice 5 (Kd.int .u8)) 57 w base (fun _ => True) v xs) (hB : Below base w0 w) (hbp : base ≤ po) (hbs : base ≤ w.heap.size) (hl : xs.length < 1000) :
  Calls Tryd.prog 58 #[.func (.func F) #[] caps, .pointer (some ⟨pc, 0, none⟩), .pointer (some ⟨po, 0, none⟩)] w (addPost po base w0 (xs ++ [(List.range data).map g]) v w) := by
 have hmk := print_make_int (P := Tryd.prog) 57 5 (.int .u8 0) 1 Tryd.underlying57 info5 rfl (by decide) (data : Int) (by omega) (by simp; omega)
 have hcc : w.cell? ⟨pc, 0, none⟩ = some (.int .i64 (data : Int)) := blk_cell hc 0
 have HC := Aside0.mk hc
 have HO := Aside0.mk ho
 have HS := Aside0.mk hS
 have HBw := Aside0.mk hB
 clear hc ho hS hB
 go_enter Tryd.func58, Tryd.ntmps58
 go_wp2
 go_loopw [11] (fun x W => ∃ k : Nat, k ≤ data ∧ x = .int .i64 (k : Int) ∧ Aside0 (W.heap[w.heap.size]? = some (.cells (arr .u8 (upto data g k)) 5 (0, 0))) ∧ Aside0 (Below w.heap.size w W)) (fun x _ => data - (intOf x).toNat)
 case atStart =>
  exact ⟨0, Nat.zero_le _, rfl, ⟨by rw [blk_new, made_arr, upto_zero]⟩, ⟨below_alloc (Below.refl _ _) _⟩⟩
 case round =>
  obtain ⟨k, hk, rfl, HR, HB⟩ := hrel
  have HM := Aside0.mk hmk
  clear hmk
  by_cases hlt : k < data
  ·have hkl : k < (upto data g k).length := by rw [upto_length]; exact hlt
   go_wp2_with ((with_reducible refine (hF k hlt _ HB.out).mono ?_); rintro e w' ⟨rfl, ⟨nd, rfl⟩⟩; have hcz := arr_cell (blk_drewN HR.out nd) k hkl; have hfz := blk_frozen (blk_drewN HR.out nd) k)
   go_roundw
   case rel => exact ⟨k + 1, by omega, by go_num, ⟨by rw [← upto_set, ← arr_set]; exact blk_set (blk_drewN HR.out _) _ _⟩, ⟨below_set (pw_below_drewN HB.out _) (Nat.le_refl _)⟩⟩
   case measure => simp [intOf]; omega
  ·obtain rfl : data = k := by omega
   have hlt1 := blk_lt HO.out
   have hco : wr.cell? ⟨po, 0, none⟩ = some v := (blk_cell (blk_below HO.out HB.out) 0)
   have hr := HR.out
   rw [upto_all] at hr
   have HR2 := Aside0.mk hr
   have hrl : ((List.range data).map g).length = data := by simp
   have HL := Aside0.mk hrl
   have hv : ∀ k_, v.ownBlock = some k_ → k_ < w.heap.size := Kd.S_lt HS.out
   have HV := Aside0.mk hv
   have hne : some po ≠ v.ownBlock := Kd.S_ne HS.out HO.out (by decide)
   have HNE := Aside0.mk hne
   clear HM hcc hr hrl hv hne
   go_wp2_with (at_builtin; refine Kd.S_append (Kd.slice 5 (Kd.int .u8)) (w0 := w0) base rfl (.tmp 21) (.tmp 23) 29 57 (.slice none 0 0) 24 rfl Tryd.underlying29 info57 rfl (by decide) (by omega) v xs ((List.range data).map g) [.slice (some ⟨w.heap.size, 0, none⟩) data data] (fun _ => True) (fun k_ => k_ = w.heap.size) rfl rfl ?aP ?aK ?aF ?aO ?aB ?aS ?aL ?_; (case aP => exact Kd.M_row (arr_own HR2.out hbs (by rw [HL.out]; omega) data HL.out)); (case aK => exact fun k_ hk_ => ⟨trivial, fun e_ => absurd (HV.out k_ e_.symm) (by omega)⟩); (case aF => exact fun _ _ => trivial); (case aO => exact Kd.S_below (Kd.S_mono (Kd.S_elderB HS.out w.heap.size (Nat.le_refl _)) (fun _ h_ => h_)) HB.out); (case aB => exact HBw.out.trans ⟨HB.out.os, HB.out.tape, HB.out.output, HB.out.size, fun i_ hi_ => HB.out.block i_ (by omega)⟩); (case aS => exact Nat.le_trans hbs HB.out.size); (case aL => omega); intro v1 w1 ho hb hg hat; obtain ⟨A1, c1, hv1⟩ := Kd.S_slice ho; rw [List.length_append, List.length_singleton] at hv1; subst hv1; have hbo := blk_grown (blk_below HO.out HB.out) hg HNE.out; have HBO := Aside0.mk hbo; have HO1 := Aside0.mk ho; have HB1 := Aside0.mk hb; have HG1 := Aside0.mk hg; have hcz : w1.cell? ⟨po, 0, none⟩ = some v := blk_cell hbo 0; have hfz := blk_frozen hbo 0; clear hbo ho hb hg hat)
   go_end0
   refine ⟨rfl, _, blk_set HBO.out 0 _, Kd.S_set HO1.out HBO.out (by decide) 0 _, HB1.out.setCell (p := ⟨po, 0, none⟩) hbp _, ?_⟩
   have hsz := HG1.out.size
   have hsz2 := HB.out.size
   refine ⟨by rw [World.size_setCell]; omega, fun i_ hi_ hp_ hr_ => ?_⟩
   rw [Below.heap_setCell _ _ _ _ hp_, HG1.out.block i_ (by omega) hr_]
   exact HB.out.block i_ hi_


/-! ### code_Rows: function 17 -/
def setOf (g : List Int) : Nat := g.foldl (fun s i => s ||| 2 ^ i.toNat) 0
def unitRow (d k : Nat) : List Int := (List.range d).map (unitAt k)
def groupRow (d : Nat) (g : List Int) : List Int := (List.range d).map (setAt (setOf g))
def expRow (d j : Nat) : List Int := (List.range d).map (expAt j)
def unitRows (d n : Nat) : List (List Int) := (List.range n).map (unitRow d)
def groupRows (d : Nat) (l : List (List Int)) (n : Nat) : List (List Int) := (l.take n).map (groupRow d)
def expRows (d n : Nat) : List (List Int) := (List.range n).map (expRow d)
def rowsOf (d : Nat) (l : List (List Int)) (gl : Nat) : List (List Int) := unitRows d d ++ groupRows d l l.length ++ expRows d gl
def okCode (d : Int) (l : List (List Int)) (gl : Int) : Bool := decide (1 ≤ d) && decide (d ≤ 16) && decide (0 ≤ gl) && decide (gl ≤ 4) && decide (l.length ≤ 24) && l.all fun g => g.all fun x => decide (0 ≤ x) && decide (x < 16)
def code_Rows.f (k : Nat) (a0_0 : Int) (l0_1 : List (List Int)) (a0_2 : Int) : Option (List (List Int) × Int) :=
 (code_Check.f k a0_0 l0_1 a0_2).bind fun e => if e = 0 then (if okCode a0_0 l0_1 a0_2 = true then some (rowsOf a0_0.toNat l0_1 a0_2.toNat, 0) else none) else some ([], e)
theorem unitRows_succ (d n : Nat) : unitRows d (n + 1) = unitRows d n ++ [unitRow d n] := by simp [unitRows, List.range_succ]
theorem expRows_succ (d n : Nat) : expRows d (n + 1) = expRows d n ++ [expRow d n] := by simp [expRows, List.range_succ]
theorem groupRows_succ (d : Nat) (l : List (List Int)) (n : Nat) (h : n < l.length) : groupRows d l (n + 1) = groupRows d l n ++ [groupRow d (rd_L1 l (n : Int))] := by
 unfold groupRows
 rw [List.take_succ_eq_append_getElem h, List.map_append]
 simp [rd_L1, List.getD_eq_getElem?_getD, List.getElem?_eq_getElem h]
/-- What Rows has between two rounds: the code and the rows in their variables. -/
def RowsInv (gc go : Nat) (d : Int) (u1 u2 : Value) (w0 W : World) (xs : List (List Int)) : Prop :=
 W.heap[gc]? = some (.cells #[.int .i64 d, u1, u2] 24 (0, 0)) ∧ gc ≠ go ∧ w0.heap.size ≤ go ∧ (∃ v, W.heap[go]? = some (.cells #[v] 29 (0, 0)) ∧ Kd.S (Kd.slice 5 (Kd.int .u8)) 57 W w0.heap.size (fun _ => True) v xs) ∧ Below w0.heap.size w0 W
theorem RowsInv.below {gc go : Nat} {d : Int} {u1 u2 : Value} {w0 W W1 : World} {xs : List (List Int)} (h : RowsInv gc go d u1 u2 w0 W xs) (hb : Below W.heap.size W W1) : RowsInv gc go d u1 u2 w0 W1 xs := by
 obtain ⟨h1, h2, h3, ⟨v, h4, h5⟩, h6⟩ := h
 exact ⟨blk_below h1 hb, h2, h3, ⟨v, blk_below h4 hb, Kd.S_below h5 hb⟩, below_step h6 hb⟩
theorem RowsInv.alloc {gc go : Nat} {d : Int} {u1 u2 : Value} {w0 W : World} {xs : List (List Int)} (h : RowsInv gc go d u1 u2 w0 W xs) (o : Obj) : RowsInv gc go d u1 u2 w0 (W.alloc o) xs := h.below (below_alloc (Below.refl _ _) o)
theorem RowsInv.add {gc go : Nat} {d : Nat} {u1 u2 : Value} {w0 W : World} {xs : List (List Int)} (h : RowsInv gc go (d : Int) u1 u2 w0 W xs) (F : FuncId) (caps : Array Value) (g : Nat → Int) (hd : d ≤ 16)
  (he : ∀ args W, (callFunc F args).run Tryd.prog W = .ok (.enter F args) W)
  (hF : ∀ k, k < d → ∀ W', Below W.heap.size W W' → Calls Tryd.prog F (#[.int .i64 (k : Int)] ++ caps) W' fun e W2 => e = .returned (.int .u8 (g k)) ∧ Drawn0 W' W2) (hl : xs.length < 1000) :
  Calls Tryd.prog 58 #[.func (.func F) #[] caps, .pointer (some ⟨gc, 0, none⟩), .pointer (some ⟨go, 0, none⟩)] W fun e W' => e = .returned (.tuple #[]) ∧ RowsInv gc go (d : Int) u1 u2 w0 W' (xs ++ [(List.range d).map g]) ∧ W.heap.size ≤ W'.heap.size := by
 obtain ⟨h1, h2, h3, ⟨v, h4, h5⟩, h6⟩ := h
 refine (code_Rows_1.calls d F caps g gc go w0.heap.size u1 u2 xs v w0 W hd he hF h1 h4 h5 h6 h3 h6.size hl).mono ?_
 rintro e W' ⟨he, v1, h7, h8, h9, h10⟩
 exact ⟨he, ⟨h10.blk h1 h2 (Kd.S_ne h5 h1 (by decide)), h2, h3, ⟨v1, h7, h8⟩, h9⟩, h10.1⟩
theorem enters59 : ∀ args W, (callFunc 59 args).run Tryd.prog W = .ok (.enter 59 args) W := enters_of Tryd.func59 (by kernel_rfl) rfl
theorem enters60 : ∀ args W, (callFunc 60 args).run Tryd.prog W = .ok (.enter 60 args) W := enters_of Tryd.func60 (by kernel_rfl) rfl
theorem enters61 : ∀ args W, (callFunc 61 args).run Tryd.prog W = .ok (.enter 61 args) W := enters_of Tryd.func61 (by kernel_rfl) rfl
theorem RowsInv.unit {gc go : Nat} {d : Nat} {u1 u2 : Value} {w0 W : World} {xs : List (List Int)} (h : RowsInv gc go (d : Int) u1 u2 w0 W xs) (k p : Nat) (hd : d ≤ 16) (hc : W.cell? ⟨p, 0, none⟩ = some (.int .i64 (k : Int))) (hl : xs.length < 1000) :
  Calls Tryd.prog 58 #[.func (.func 59) #[] #[.pointer (some ⟨p, 0, none⟩)], .pointer (some ⟨gc, 0, none⟩), .pointer (some ⟨go, 0, none⟩)] W fun e W' => e = .returned (.tuple #[]) ∧ RowsInv gc go (d : Int) u1 u2 w0 W' (xs ++ [unitRow d k]) ∧ W.heap.size ≤ W'.heap.size :=
 h.add _ _ (unitAt k) hd enters59 (fun i _ W' hb => code_Rows_2.calls k i p W' (pw_cell_below hb hc)) hl
theorem RowsInv.group {gc go : Nat} {d : Nat} {u1 u2 : Value} {w0 W : World} {xs : List (List Int)} (h : RowsInv gc go (d : Int) u1 u2 w0 W xs) (g : List Int) (p : Nat) (hd : d ≤ 16) (hs : setOf g < 2 ^ 62) (hc : W.cell? ⟨p, 0, none⟩ = some (.int .i64 (setOf g : Int))) (hl : xs.length < 1000) :
  Calls Tryd.prog 58 #[.func (.func 60) #[] #[.pointer (some ⟨p, 0, none⟩)], .pointer (some ⟨gc, 0, none⟩), .pointer (some ⟨go, 0, none⟩)] W fun e W' => e = .returned (.tuple #[]) ∧ RowsInv gc go (d : Int) u1 u2 w0 W' (xs ++ [groupRow d g]) ∧ W.heap.size ≤ W'.heap.size :=
 h.add _ _ (setAt (setOf g)) hd enters60 (fun i hi W' hb => code_Rows_3.calls (setOf g) i p W' hs (by omega) (pw_cell_below hb hc)) hl
theorem RowsInv.exp {gc go : Nat} {d : Nat} {u1 u2 : Value} {w0 W : World} {xs : List (List Int)} (h : RowsInv gc go (d : Int) u1 u2 w0 W xs) (hG : HG W) (j p : Nat) (hd : d ≤ 16) (hj : j ≤ 4) (hc : W.cell? ⟨p, 0, none⟩ = some (.int .i64 (j : Int))) (hl : xs.length < 1000) :
  Calls Tryd.prog 58 #[.func (.func 61) #[] #[.pointer (some ⟨p, 0, none⟩)], .pointer (some ⟨gc, 0, none⟩), .pointer (some ⟨go, 0, none⟩)] W fun e W' => e = .returned (.tuple #[]) ∧ RowsInv gc go (d : Int) u1 u2 w0 W' (xs ++ [expRow d j]) ∧ W.heap.size ≤ W'.heap.size :=
 h.add _ _ (expAt j) hd enters61 (fun i hi W' hb => code_Rows_4.calls j i p W' (hG.below hb) hj (by omega) (pw_cell_below hb hc)) hl
theorem okCode_iff {d gl : Int} {l : List (List Int)} (h : okCode d l gl = true) : (1 ≤ d ∧ d ≤ 16) ∧ (0 ≤ gl ∧ gl ≤ 4) ∧ l.length ≤ 24 ∧ ∀ g ∈ l, ∀ x ∈ g, 0 ≤ x ∧ x < 16 := by
 simp only [okCode, Bool.and_eq_true, decide_eq_true_eq, List.all_eq_true] at h
 obtain ⟨⟨⟨⟨⟨h1, h2⟩, h3⟩, h4⟩, h5⟩, h6⟩ := h
 exact ⟨⟨h1, h2⟩, ⟨h3, h4⟩, h5, fun g hg x hx => h6 g hg x hx⟩
theorem setOf_take_succ (g : List Int) (n : Nat) (h : n < g.length) : setOf (g.take (n + 1)) = setOf (g.take n) ||| 2 ^ (rd g (n : Int)).toNat := by
 unfold setOf
 rw [List.take_succ_eq_append_getElem h, List.foldl_append]
 simp [rd, List.getD_eq_getElem?_getD, List.getElem?_eq_getElem h]
theorem setOf_lt (g : List Int) (h : ∀ x ∈ g, 0 ≤ x ∧ x < 16) : setOf g < 2 ^ 16 := by
 unfold setOf
 have : ∀ (l : List Int) (s : Nat), s < 2 ^ 16 → (∀ x ∈ l, 0 ≤ x ∧ x < 16) → l.foldl (fun s i => s ||| 2 ^ i.toNat) s < 2 ^ 16 := by
  intro l
  induction l with
  | nil => intro s hs _; exact hs
  | cons a l ih =>
   intro s hs hl
   have ha := hl a (List.mem_cons_self)
   have hp : 2 ^ a.toNat < 2 ^ 16 := Nat.pow_lt_pow_right (by decide) (by omega)
   exact ih _ (Nat.or_lt_two_pow hs hp) (fun x hx => hl x (List.mem_cons_of_mem _ hx))
 exact this g 0 (by decide) h
theorem rd_mem {g : List Int} {n : Nat} (h : n < g.length) : rd g (n : Int) ∈ g := by
 have : rd g (n : Int) = g[n] := by simp [rd, List.getD_eq_getElem?_getD, List.getElem?_eq_getElem h]
 rw [this]; exact List.getElem_mem h
theorem rdL_mem {l : List (List Int)} {n : Nat} (h : n < l.length) : rd_L1 l (n : Int) ∈ l := by
 have : rd_L1 l (n : Int) = l[n] := by simp [rd_L1, List.getD_eq_getElem?_getD, List.getElem?_eq_getElem h]
 rw [this]; exact List.getElem_mem h
theorem at_list_nat {w : World} {A : Option Addr} {n : Nat} {xs : List (List Int)} (h : Kd.C (Kd.slice 3 (Kd.int .i64)) w A n xs) (k : Nat) (hk : k < n) : ∃ ad A0 c0, A = some ad ∧ w.cell? (ad.add k) = some (.slice A0 (rd_L1 xs (k : Int)).length c0) ∧ (rd_L1 xs (k : Int)).length ≤ c0 ∧ (Kd.int .i64).C w A0 (rd_L1 xs (k : Int)).length (rd_L1 xs (k : Int)) := by
 obtain ⟨ad, A0, c0, e, h1, h2, h3⟩ := at_L1 h (k : Int) (by omega) (by omega)
 exact ⟨ad, A0, c0, e, by rwa [Int.toNat_natCast] at h1, h2, h3⟩
set_option maxHeartbeats 4000000 in
set_option maxRecDepth 100000 in
theorem code_Rows.calls (k : Nat) (a0_0 : Int) (A0_1 : Option Addr) (c0_1 : Nat) (l0_1 : List (List Int)) (a0_2 : Int) (r1 : List (List Int)) (r2 : Int) (w : World) (hG : HG w) (hr0_1 : Kd.C (Kd.slice 3 (Kd.int .i64)) w A0_1 l0_1.length l0_1) (hc0_1 : l0_1.length ≤ c0_1) (h : code_Rows.f k a0_0 l0_1 a0_2 = some (r1, r2)) :
  Calls Tryd.prog 17 #[.agg #[.int .i64 a0_0, .slice A0_1 l0_1.length c0_1, .int .i64 a0_2]] w fun e w' => ∃ v0_ : Value, e = .returned (.tuple #[v0_, .int .i64 r2]) ∧ Kd.S (Kd.slice 5 (Kd.int .u8)) 57 w' w.heap.size (fun _ => True) v0_ r1 ∧ Below w.heap.size w w' := by
 have hm := Kd.C_max hr0_1
 obtain ⟨e0, hchk, h2⟩ := Option.bind_eq_some_iff.1 h
 have HCK := Aside0.mk (fun W (hb : Below w.heap.size w W) => code_Check.calls k a0_0 A0_1 c0_1 l0_1 a0_2 e0 W (hG.below hb) (Kd.C_below hr0_1 hb) hc0_1 hchk)
 have HR := Aside0.mk hr0_1
 have HGw := Aside0.mk hG
 have hmf := run_mf Tryd.prog
 have hu24 := Tryd.underlying24
 clear hr0_1 hG hchk h
 by_cases he0 : e0 = 0
 ·subst he0
  rw [if_pos rfl] at h2
  by_cases hok : okCode a0_0 l0_1 a0_2 = true
  ·rw [if_pos hok] at h2
   obtain ⟨rfl, rfl⟩ := Prod.mk.inj (Option.some.inj h2)
   obtain ⟨hd, hg, hn, hel⟩ := okCode_iff hok
   have HE := Aside0.mk hel
   obtain ⟨d, rfl⟩ := Int.eq_ofNat_of_zero_le (show 0 ≤ a0_0 by omega)
   obtain ⟨gl, rfl⟩ := Int.eq_ofNat_of_zero_le hg.1
   rw [Int.toNat_natCast, Int.toNat_natCast]
   have HD := Aside0.mk (show d ≤ 16 by omega)
   clear h2 hok hel
   go_enter Tryd.func17, Tryd.ntmps17
   go_wp2_with (go_at_call 20; (with_reducible refine (HCK.out _ (by repeat (first | exact Below.refl _ _ | apply below_alloc))).mono ?_); rintro e w1 ⟨rfl, hb1⟩; have hbc : w1.heap[w.heap.size]? = some (.cells #[.int .i64 (d : Int), .slice A0_1 l0_1.length c0_1, .int .i64 (gl : Int)] 24 (0, 0)) := blk_below (blk_new w _) hb1; have hlt1 : w.heap.size < w1.heap.size := blk_lt hbc; have HBC := Aside0.mk hbc; have HB1 := Aside0.mk (below_step (below_alloc (Below.refl w.heap.size w) _) hb1); have hcz0 : w1.cell? ⟨w.heap.size, 0, none⟩ = some (.int .i64 (d : Int)) := blk_cell hbc 0; have hcz1 : w1.cell? ⟨w.heap.size, 1, none⟩ = some (.slice A0_1 l0_1.length c0_1) := blk_cell hbc 1; have hcz2 : w1.cell? ⟨w.heap.size, 2, none⟩ = some (.int .i64 (gl : Int)) := blk_cell hbc 2; clear hbc hb1)
   have hI0 : RowsInv w.heap.size w1.heap.size (d : Int) (.slice A0_1 l0_1.length c0_1) (.int .i64 (gl : Int)) w (w1.alloc (.cells #[.slice none 0 0] 29)) (unitRows d 0) :=
    ⟨blk_alloc HBC.out _, by omega, by omega, ⟨_, blk_new _ _, Kd.S_nil _ _ _ _ _⟩, below_alloc HB1.out _⟩
   have HI0 := Aside0.mk hI0
   clear hI0 hcz0 hcz1 hcz2
   go_loopw [22] (fun x W => ∃ n : Nat, n ≤ d ∧ x = .int .i64 (n : Int) ∧ Aside0 (RowsInv w.heap.size w1.heap.size (d : Int) (.slice A0_1 l0_1.length c0_1) (.int .i64 (gl : Int)) w W (unitRows d n))) (fun x _ => d - (intOf x).toNat)
   case atStart => exact ⟨0, Nat.zero_le _, rfl, HI0⟩
   case round =>
    clear HI0
    obtain ⟨n, hn', rfl, HI⟩ := hrel
    have HLU := Aside0.mk (show (unitRows d n).length < 1000 by simp [unitRows]; omega)
    by_cases hlt : n < d
    ·go_wp2_with (go_at_call 58; (with_reducible refine (RowsInv.unit (HI.out.alloc (.cells #[.int .i64 (n : Int)] 3)) n wr.heap.size HD.out ?uA2 HLU.out).mono ?_); (case uA2 => (go_simp; done)); rintro e w' ⟨rfl, hI, hsz⟩; have HI' := Aside0.mk hI; clear hI hsz)
     go_roundw
     case rel => exact ⟨n + 1, by omega, by go_num, ⟨by rw [unitRows_succ]; exact HI'.out⟩⟩
     case measure => simp [intOf]; omega
    ·obtain rfl : d = n := by omega
     have hbc := HI.out.1
     have hcz1 : wr.cell? ⟨w.heap.size, 1, none⟩ = some (.slice A0_1 l0_1.length c0_1) := blk_cell hbc 1
     clear hbc
     go_wp2
     go_loopw [32] (fun x W => ∃ n : Nat, n ≤ l0_1.length ∧ x = .int .i64 (n : Int) ∧ Aside0 (RowsInv w.heap.size w1.heap.size (d : Int) (.slice A0_1 l0_1.length c0_1) (.int .i64 (gl : Int)) w W (unitRows d d ++ groupRows d l0_1 n))) (fun x _ => l0_1.length - (intOf x).toNat)
     case atStart => exact ⟨0, Nat.zero_le _, rfl, ⟨by rw [show groupRows d l0_1 0 = [] from rfl, List.append_nil]; exact HI.out⟩⟩
     case round =>
      clear HI hcz1
      obtain ⟨wo, rfl⟩ : ∃ wo : World, wo = wr := ⟨_, rfl⟩
      obtain ⟨n, hn', rfl, HI⟩ := hrel
      by_cases hlt : n < l0_1.length
      ·obtain ⟨ad0, A0, c0, rfl, hx0, hx1, hx2⟩ := at_list_nat HR.out n hlt
       have hx0 := pw_cell_below HI.out.2.2.2.2 hx0
       have hmem := HE.out _ (rdL_mem hlt)
       have hqm := Kd.C_max hx2
       generalize hq : rd_L1 l0_1 (n : Int) = q at hx0 hx1 hx2 hmem hqm
       go_wp2
       go_loopw [38] (fun x W => ∃ m : Nat, m ≤ q.length ∧ x = .int .i64 (m : Int) ∧ Aside0 (W.heap[wo.heap.size]? = some (.cells #[.int .i64 (setOf (q.take m) : Int)] 3 (0, 0))) ∧ Aside0 (Below wo.heap.size wo W)) (fun x _ => q.length - (intOf x).toNat)
       case atStart => exact ⟨0, Nat.zero_le _, rfl, ⟨blk_new _ _⟩, ⟨below_alloc (Below.refl _ _) _⟩⟩
       case round =>
        obtain ⟨m, hm', rfl, HS, HBo⟩ := hrel
        by_cases hlt2 : m < q.length
        ·obtain ⟨ad1, rfl, hx3⟩ := at_int_nat hx2 m hlt2
         have hx3 := pw_cell_below HBo.out (pw_cell_below HI.out.2.2.2.2 hx3)
         obtain ⟨hy0, hy1⟩ := hmem _ (rd_mem hlt2)
         have hcz := blk_cell HS.out 0
         have hfz := blk_frozen HS.out 0
         have HT := Aside0.mk (setOf_take_succ q m hlt2)
         generalize hy : rd q (m : Int) = y at hx3 hy0 hy1
         have HV := Aside0.mk (show Go.bits .or .i64 ((setOf (q.take m) : Nat) : Int) (wrap64 (2 ^ y.toNat)) = ((setOf (q.take (m + 1)) : Nat) : Int) by
          have hy2 : 2 ^ y.toNat < 2 ^ 16 := Nat.pow_lt_pow_right (by decide) (by omega)
          have hs := setOf_lt (q.take m) (fun x hx => hmem x (List.mem_of_mem_take hx))
          have e : (2 : Int) ^ y.toNat = ((2 ^ y.toNat : Nat) : Int) := by simp
          rw [e, show wrap64 ((2 ^ y.toNat : Nat) : Int) = ((2 ^ y.toNat : Nat) : Int) by generalize 2 ^ y.toNat = z at hy2; unfold wrap64; omega, i64_or _ _ (by omega) (by omega), HT.out, hy])
         go_wp2
         go_region
         go_wp2
         go_roundw
         case rel => exact ⟨m + 1, by omega, by go_num, ⟨by rw [← HV.out]; exact blk_drew (blk_set HS.out 0 _)⟩, ⟨below_drew (HBo.out.setCell (p := ⟨wo.heap.size, 0, none⟩) (Nat.le_refl _) _)⟩⟩
         case measure => simp [intOf]; omega
        ·obtain rfl : m = q.length := by omega
         have hs := HS.out
         rw [List.take_length] at hs
         have hc3 : wr.cell? ⟨wo.heap.size, 0, none⟩ = some (.int .i64 (setOf q : Int)) := blk_cell hs 0
         have HI3 := Aside0.mk (HI.out.below HBo.out)
         have HC3 := Aside0.mk hc3
         have HS3 := Aside0.mk (show setOf q < 2 ^ 62 from Nat.lt_trans (setOf_lt q hmem) (by decide))
         have HLU2 := Aside0.mk (show (unitRows d d ++ groupRows d l0_1 n).length < 1000 by have := HD.out; simp [unitRows, groupRows]; omega)
         have HQ := Aside0.mk hq
         clear hs hc3 hq
         go_wp2_with (go_at_call 58; (with_reducible refine (RowsInv.group HI3.out q wo.heap.size HD.out HS3.out HC3.out HLU2.out).mono ?_); rintro e w' ⟨rfl, hI, hsz⟩; have HI' := Aside0.mk hI; clear hI hsz)
         go_roundw
         case rel => exact ⟨n + 1, by omega, by go_num, ⟨by rw [groupRows_succ d l0_1 n hlt, HQ.out, ← List.append_assoc]; exact HI'.out⟩⟩
         case measure => simp [intOf]; omega
      ·obtain rfl : n = l0_1.length := by omega
       have hbc := HI.out.1
       have hcz2 : wo.cell? ⟨w.heap.size, 2, none⟩ = some (.int .i64 (gl : Int)) := blk_cell hbc 2
       clear hbc
       go_wp2
       go_loopw [53] (fun x W => ∃ n : Nat, n ≤ gl ∧ x = .int .i64 (n : Int) ∧ Aside0 (RowsInv w.heap.size w1.heap.size (d : Int) (.slice A0_1 l0_1.length c0_1) (.int .i64 (gl : Int)) w W (unitRows d d ++ groupRows d l0_1 l0_1.length ++ expRows d n))) (fun x _ => gl - (intOf x).toNat)
       case atStart => exact ⟨0, Nat.zero_le _, rfl, ⟨by rw [show expRows d 0 = [] from rfl, List.append_nil]; exact HI.out⟩⟩
       case round =>
        clear HI hcz2
        obtain ⟨n, hn', rfl, HI⟩ := hrel
        have HLU3 := Aside0.mk (show (unitRows d d ++ groupRows d l0_1 l0_1.length ++ expRows d n).length < 1000 by have := HD.out; simp [unitRows, groupRows, expRows]; omega)
        by_cases hlt : n < gl
        ·have HJ := Aside0.mk (show n ≤ 4 by omega)
         have HG3 := Aside0.mk ((HGw.out.below HI.out.2.2.2.2).alloc (.cells #[.int .i64 (n : Int)] 3))
         go_wp2_with (go_at_call 58; (with_reducible refine (RowsInv.exp (HI.out.alloc (.cells #[.int .i64 (n : Int)] 3)) HG3.out n wr.heap.size HD.out HJ.out ?uA3 HLU3.out).mono ?_); (case uA3 => (go_simp; done)); rintro e w' ⟨rfl, hI, hsz⟩; have HI' := Aside0.mk hI; clear hI hsz)
         go_roundw
         case rel => exact ⟨n + 1, by omega, by go_num, ⟨by rw [expRows_succ, ← List.append_assoc]; exact HI'.out⟩⟩
         case measure => simp [intOf]; omega
        ·obtain rfl : n = gl := by omega
         obtain ⟨_, _, _, ⟨v, hv, hS⟩, hB⟩ := HI.out
         have hcv := blk_cell hv 0
         have HS := Aside0.mk hS
         have HB := Aside0.mk hB
         clear hv hS hB HI
         go_wp2
         go_ret2
         exact ⟨_, rfl, HS.out, HB.out⟩
  ·rw [if_neg hok] at h2
   cases h2
 ·rw [if_neg he0] at h2
  obtain ⟨rfl, rfl⟩ := Prod.mk.inj (Option.some.inj h2)
  have he1 : (e0 == 0) = false := beq_eq_false_iff_ne.2 he0
  clear h2
  go_enter Tryd.func17, Tryd.ntmps17
  go_wp2_with (go_at_call 20; (with_reducible refine (HCK.out _ (by repeat (first | exact Below.refl _ _ | apply below_alloc))).mono ?_); rintro e w1 ⟨rfl, hb1⟩; have HB1 := Aside0.mk hb1; clear hb1)
  go_ret2
  exact ⟨_, rfl, Kd.S_nil _ _ _ _ _, below_step (below_alloc (Below.refl _ _) _) HB1.out⟩


/-! ### code_collect: function 67 -/
/-- The stairs of the first n rows that a set names. -/
def collectUpto (width mask : Nat) (rows : List (List Int)) (pieces : List ByteArray) : Nat → St
 | 0 => []
 | n + 1 => if (mask >>> n) % 2 = 1 ∧ (collectUpto width mask rows pieces n).length < width then collectUpto width mask rows pieces n ++ (addSt (collectUpto width mask rows pieces n) (rd_L4 rows (n : Int)) (rdOf ByteArray.empty pieces (n : Int))).toList else collectUpto width mask rows pieces n
def rowWidth (rows : List (List Int)) : Nat := (rd_L4 rows ((0 : Nat) : Int)).length
def collectSt (rows : List (List Int)) (mask : Nat) (pieces : List ByteArray) : St := collectUpto (rowWidth rows) mask rows pieces rows.length
def collectOk (rows : List (List Int)) (mask : Int) (pieces : List ByteArray) : Option St :=
 if rows.length = 0 ∨ mask < 0 ∨ (2 : Int) ^ rows.length ≤ mask then none else if (collectSt rows mask.toNat pieces).length < rowWidth rows then none else some (collectSt rows mask.toNat pieces)
theorem collectUpto_length (width mask : Nat) (rows : List (List Int)) (pieces : List ByteArray) : ∀ n, (collectUpto width mask rows pieces n).length ≤ width
 | 0 => Nat.zero_le _
 | n + 1 => by
  have ih := collectUpto_length width mask rows pieces n
  unfold collectUpto
  split
  ·next h =>
   rw [List.length_append]
   have : ∀ o : Option (List Int × ByteArray), o.toList.length ≤ 1 := fun o => by cases o <;> simp
   have := this (addSt (collectUpto width mask rows pieces n) (rd_L4 rows (n : Int)) (rdOf ByteArray.empty pieces (n : Int)))
   omega
  ·exact ih
theorem imul_ne {a b : Int} (ha : isB a = true) (hb : isB b = true) (h1 : a ≠ 0) (h2 : b ≠ 0) : imul a b ≠ 0 := by
 rw [isB_iff] at ha hb
 obtain ⟨m, rfl⟩ := Int.eq_ofNat_of_zero_le ha.1
 obtain ⟨n, rfl⟩ := Int.eq_ofNat_of_zero_le hb.1
 intro h
 have h' : QGF.mulN m n = 0 := by
  have : ((QGF.mulN m n : Nat) : Int) = 0 := h
  omega
 rcases QGF.mul_eq_zero (by omega) (by omega) h' with e | e <;> omega
theorem iinv_ne {a : Int} (ha : isB a = true) (h1 : a ≠ 0) : iinv a ≠ 0 := by
 rw [isB_iff] at ha
 obtain ⟨m, rfl⟩ := Int.eq_ofNat_of_zero_le ha.1
 intro h
 have h' : QGF.invN m = 0 := by
  have : ((QGF.invN m : Nat) : Int) = 0 := h
  omega
 exact QGF.inv_ne (a := m) (by omega) (by omega) h'
theorem fstIdx_lt {r : List Int} {i : Nat} (h : i < r.length) (h0 : rd r (i : Int) ≠ 0) : fstIdx r < r.length := by
 rw [rdi h] at h0
 exact List.findIdx_lt_length.2 ⟨r[i], List.getElem_mem h, bne_iff_ne.2 h0⟩
theorem rd_fst {r : List Int} (h : fstIdx r < r.length) : rd r ((fstIdx r : Nat) : Int) ≠ 0 := by
 rw [rdi h]
 exact bne_iff_ne.1 (List.findIdx_getElem (xs := r) (p := fun x => x != 0) (w := h))
theorem addSt_wf {width M : Nat} {st : St} (h : WfSt width M st) {row : List Int} {part : ByteArray} (hr : WfRow width M (row, part)) {x : List Int × ByteArray} (hx : addSt st row part = some x) : WfRow width M x ∧ fstIdx x.1 < width := by
 have hw := redRow_wf h hr
 unfold addSt at hx
 by_cases hz : fstIdx (redRow st (row, part)).1 = (redRow st (row, part)).1.length
 ·rw [if_pos hz] at hx; cases hx
 ·rw [if_neg hz] at hx
  obtain rfl := Option.some.inj hx
  have hlt : fstIdx (redRow st (row, part)).1 < (redRow st (row, part)).1.length := Nat.lt_of_le_of_ne (fstIdx_le _) hz
  have hne := rd_fst hlt
  have hB := isB_rd hw.1 _ hlt
  refine ⟨⟨all_isB_mul (isB_inv _), by rw [mulRow_length]; exact hw.2.1, by rw [scaleBytes_size]; exact hw.2.2⟩, ?_⟩
  have := fstIdx_lt (r := mulRow (iinv (rd (redRow st (row, part)).1 ((fstIdx (redRow st (row, part)).1 : Nat) : Int))) (redRow st (row, part)).1) (i := fstIdx (redRow st (row, part)).1) (by rw [mulRow_length]; exact hlt) (by
   rw [rdi (by rw [mulRow_length]; exact hlt)]
   simp only [mulRow, List.getElem_map, List.getElem_range]
   exact imul_ne (isB_inv _) hB (iinv_ne hB hne) hne)
  rw [mulRow_length, hw.2.1] at this
  exact this
theorem WfSt.snoc {width M : Nat} {st : St} (h : WfSt width M st) {row : List Int} {part : ByteArray} (hr : WfRow width M (row, part)) : WfSt width M (st ++ (addSt st row part).toList) := by
 intro x hx
 rcases List.mem_append.1 hx with hx | hx
 ·exact h x hx
 ·cases he : addSt st row part with
  | none => rw [he] at hx; cases hx
  | some y =>
   rw [he] at hx
   obtain rfl : x = y := by simpa using hx
   exact addSt_wf h hr he
theorem collectUpto_wf {width M mask : Nat} {rows : List (List Int)} {pieces : List ByteArray} (hr : ∀ k, k < rows.length → WfRow width M (rd_L4 rows (k : Int), rdOf ByteArray.empty pieces (k : Int))) : ∀ n, n ≤ rows.length → WfSt width M (collectUpto width mask rows pieces n)
 | 0, _ => fun x hx => by cases hx
 | n + 1, h => by
  have ih := collectUpto_wf (mask := mask) hr n (by omega)
  unfold collectUpto
  split
  ·exact ih.snoc (hr n (by omega))
  ·exact ih
theorem StairsAt.nil (width : Nat) (W : World) (base : Nat) (hb : base ≤ W.heap.size) : StairsAt W.heap.size base width (W.alloc (.cells #[.slice none 0 0, .slice none 0 0, .int .i64 (width : Int)] 117)) [] :=
 ⟨hb, _, _, blk_new _ _, Kd.S_nil _ _ _ _ _, Kd.R_nil _ _ _ _ _⟩
theorem equalIn_nil (P : Program) (t e : TypeId) (h : P.underlying t = some (.slice e)) (d : Nat) (a : Option Addr) (l c : Nat) (w : World) : (Op.equalIn (d + 1) t (.slice a l c) (.slice none 0 0)).run P w = .ok a.isNone w := by
 cases a <;> simp [Op.equalIn, run_underlying h]
theorem neq_nil (P : Program) (t e : TypeId) (h : P.underlying t = some (.slice e)) : ∀ (a : Option Addr) (l c : Nat) (w : World), (binOp .neq t (.slice a l c) (.slice none 0 0)).run P w = .ok (.bool (!a.isNone)) w := by
 intro a l c w
 have h1 : (Op.equal t (.slice a l c) (.slice none 0 0)).run P w = .ok a.isNone w := equalIn_nil P t e h 9999 a l c w
 simp only [binOp, Sem.run_bind, h1, Result.andThen_ok, Sem.run_pure]
theorem enters91 : ∀ args W, (callFunc 91 args).run Tryd.prog W = .ok (.enter 91 args) W := enters_of Tryd.func91 (by kernel_rfl) rfl
set_option maxHeartbeats 4000000 in
set_option maxRecDepth 100000 in
theorem code_collect.calls (M : Nat) (w : World) (Ar : Option Addr) (cr : Nat) (rows : List (List Int)) (mask : Int) (Ap : Option Addr) (cp : Nat) (pieces : List ByteArray) (hG : HG w)
  (hr : Kd.C (Kd.slice 5 (Kd.int .u8)) w Ar rows.length rows) (hcr : rows.length ≤ cr) (hrl : rows.length ≤ 24) (hw : 0 < rows.length → 1 ≤ rowWidth rows) (hw2 : rowWidth rows ≤ 16) (hM : M ≤ 140737488351232)
  (hp : Kd.C Kd.string w Ap pieces.length pieces) (hcp : pieces.length ≤ cp) (hnil : (Ap = none ∧ pieces = [] ∧ cp = 0) ∨ (Ap.isSome = true ∧ rows.length ≤ pieces.length))
  (hwf : ∀ k, k < rows.length → WfRow (rowWidth rows) M (rd_L4 rows (k : Int), rdOf ByteArray.empty pieces (k : Int))) :
  Calls Tryd.prog 67 #[.slice Ar rows.length cr, .int .i64 mask, .slice Ap pieces.length cp] w fun e w' =>
   Below w.heap.size w w' ∧ ((collectOk rows mask pieces = none ∧ e = .returned (.pointer none)) ∨ ∃ gs st, collectOk rows mask pieces = some st ∧ e = .returned (.pointer (some ⟨gs, 0, none⟩)) ∧ StairsAt gs w.heap.size (rowWidth rows) w' st) := by
 have hmf := run_mf Tryd.prog
 have hu117 := Tryd.underlying117
 have hnn := neq_nil Tryd.prog 32 9 Tryd.underlying32
 by_cases h0 : rows.length = 0
 ·have hok : collectOk rows mask pieces = none := if_pos (.inl h0)
  have h0b : ((rows.length : Int) == 0) = true := beq_iff_eq.2 (by omega)
  clear hr hp hwf hG
  go_enter Tryd.func67, Tryd.ntmps67
  go_wp2
  go_ret
  exact ⟨Below.refl _ _, .inl ⟨hok, rfl⟩⟩
 ·have h0b : ((rows.length : Int) == 0) = false := beq_eq_false_iff_ne.2 (by omega)
  have h0c : (rows.length == 0) = false := beq_eq_false_iff_ne.2 h0
  by_cases hneg : mask < 0
  ·have hok : collectOk rows mask pieces = none := if_pos (.inr (.inl hneg))
   clear hr hp hwf hG
   go_enter Tryd.func67, Tryd.ntmps67
   go_wp2
   go_ret
   exact ⟨Below.refl _ _, .inl ⟨hok, rfl⟩⟩
  ·have hw1 : wrap64 ((2 : Int) ^ rows.length) = 2 ^ rows.length := by
    have h1 : 2 ^ rows.length ≤ 2 ^ 24 := Nat.pow_le_pow_right (by decide) hrl
    have h2 : ((2 : Int) ^ rows.length) = ((2 ^ rows.length : Nat) : Int) := by simp
    rw [h2]
    generalize 2 ^ rows.length = z at h1
    unfold wrap64; omega
   by_cases hbig : (2 : Int) ^ rows.length ≤ mask
   ·have hok : collectOk rows mask pieces = none := if_pos (.inr (.inr hbig))
    have hb1 : decide (wrap64 ((2 : Int) ^ rows.length) ≤ mask) = true := decide_eq_true (by rw [hw1]; exact hbig)
    have HOK := Aside0.mk hok
    clear hr hp hwf hG hw1 hok
    go_enter Tryd.func67, Tryd.ntmps67
    go_wp2
    go_ret
    exact ⟨Below.refl _ _, .inl ⟨HOK.out, rfl⟩⟩
   ·have hb1 : decide (wrap64 ((2 : Int) ^ rows.length) ≤ mask) = false := decide_eq_false (by rw [hw1]; exact hbig)
    clear hw1
    have hok : collectOk rows mask pieces = if (collectSt rows mask.toNat pieces).length < rowWidth rows then none else some (collectSt rows mask.toNat pieces) := if_neg (by omega)
    obtain ⟨mk, rfl⟩ := Int.eq_ofNat_of_zero_le (show 0 ≤ mask by omega)
    rw [Int.toNat_natCast] at hok
    unfold collectSt at hok
    have hmk : mk < 2 ^ 24 := by
     have h1 : 2 ^ rows.length ≤ 2 ^ 24 := Nat.pow_le_pow_right (by decide) hrl
     have h2 : ((2 : Int) ^ rows.length) = ((2 ^ rows.length : Nat) : Int) := by simp
     rw [h2] at hbig
     omega
    obtain ⟨ad0, A0, c0, rfl, hx0, hx1, hx2⟩ := at_bytes_nat' hr 0 (by omega)
    have hwd : (rd_L4 rows ((0 : Nat) : Int)).length = rowWidth rows := rfl
    rw [hwd] at hx0 hx1 hx2
    rw [show ad0.add 0 = ad0 by unfold Addr.add; rfl] at hx0
    have HOK := Aside0.mk hok
    have HWF := Aside0.mk hwf
    have HG0 := Aside0.mk hG
    have HR := Aside0.mk hr
    have HP := Aside0.mk hp
    have HE := Aside0.mk enters91
    have hw' := hw (by omega)
    clear hok hwf hG hr hp hbig hw hwd hx2
    generalize hwd : rowWidth rows = width at *
    generalize hRN : rows.length = N at *
    generalize hpl : pieces.length = np at *
    have HPL := Aside0.mk hpl
    clear hpl
    go_enter Tryd.func67, Tryd.ntmps67
    go_wp2
    have hI0 := StairsAt.nil width w w.heap.size (Nat.le_refl _)
    have HI0 := Aside0.mk hI0
    clear hI0
    go_loopw [36] (fun v W => ∃ j : Nat, j ≤ N ∧ v = .int .i64 (j : Int) ∧ Aside0 (StairsAt w.heap.size w.heap.size width W (collectUpto width mk rows pieces j)) ∧ Aside0 (Below w.heap.size w W)) (fun v _ => N - (intOf v).toNat)
    case atStart => exact ⟨0, Nat.zero_le _, rfl, HI0, ⟨below_alloc (Below.refl _ _) _⟩⟩
    case round =>
     clear HI0
     obtain ⟨j, hj, rfl, HS, HB⟩ := hrel
     have hsl := collectUpto_length width mk rows pieces j
     obtain ⟨_, vr, vp, hbk, hvr, hvp⟩ := HS.out
     obtain ⟨As, cs, rfl⟩ := Kd.S_slice hvr
     rw [List.length_map] at hbk
     have hcy0 : wr.cell? ⟨w.heap.size, 0, none⟩ = some (.slice As (collectUpto width mk rows pieces j).length cs) := blk_cell hbk 0
     have hcy2 : wr.cell? ⟨w.heap.size, 2, none⟩ = some (.int .i64 (width : Int)) := blk_cell hbk 2
     clear hbk hvr hvp
     by_cases hlt : j < N
     ·obtain ⟨ad1, A1, c1, e1, hy0, hy1, hy2⟩ := at_bytes_nat' HR.out j hlt
      obtain rfl : ad0 = ad1 := by injection e1
      have hwf1 := HWF.out j hlt
      rw [hwf1.2.1] at hy0 hy1 hy2
      have hy0 := pw_cell_below HB.out hy0
      have hB1 : Go.bits .and .i64 ((mk : Int) / 2 ^ j) 1 = ((mk >>> j % 2 : Nat) : Int) := by
       rw [show ((mk : Int) / 2 ^ j) = ((mk >>> j : Nat) : Int) by rw [Nat.shiftRight_eq_div_pow]; simp, i64_and1 _ (by have := Nat.shiftRight_le mk j; omega)]
      have HCU := Aside0.mk (show collectUpto width mk rows pieces (j + 1) = if (mk >>> j) % 2 = 1 ∧ (collectUpto width mk rows pieces j).length < width then collectUpto width mk rows pieces j ++ (addSt (collectUpto width mk rows pieces j) (rd_L4 rows (j : Int)) (rdOf ByteArray.empty pieces (j : Int))).toList else collectUpto width mk rows pieces j from rfl)
      have HWS := Aside0.mk (collectUpto_wf (mask := mk) (fun k hk => HWF.out k (by omega)) j (by omega))
      have HWF1 := Aside0.mk hwf1
      clear hwf1
      generalize collectUpto width mk rows pieces j = st at HS hsl hcy0 HCU HWS
      have hm2 : (mk >>> j) % 2 < 2 := Nat.mod_lt _ (by decide)
      generalize (mk >>> j) % 2 = bit at hB1 HCU hm2
      by_cases hbit : bit = 1
      ·subst hbit
       by_cases hsw : st.length < width
       ·have hcu := HCU.out
        rw [if_pos ⟨rfl, hsw⟩] at hcu
        have HCU' := Aside0.mk hcu
        clear hcu
        have HADD := Aside0.mk (show ∀ W, Below wr.heap.size wr W → Calls Tryd.prog 91 #[.pointer (some ⟨w.heap.size, 0, none⟩), .slice A1 width c1, .string (rdOf ByteArray.empty pieces (j : Int))] W fun e w' => e = .returned (.bool (addSt st (rd_L4 rows (j : Int)) (rdOf ByteArray.empty pieces (j : Int))).isSome) ∧ StairsAt w.heap.size w.heap.size width w' (st ++ (addSt st (rd_L4 rows (j : Int)) (rdOf ByteArray.empty pieces (j : Int))).toList) ∧ Below w.heap.size w w' ∧ W.heap.size ≤ w'.heap.size from by
         intro W hb
         have h2 := code_stairs_add.calls w.heap.size w.heap.size width M w W st A1 c1 (rd_L4 rows (j : Int)) (rdOf ByteArray.empty pieces (j : Int)) HG0.out rfl (HS.out.below hb) HWS.out (by omega) (below_step HB.out hb) (below_step HB.out hb).size hw' (by omega) hM (by rw [HWF1.out.2.1]; exact Kd.C_below hy2 (below_step HB.out hb)) (by rw [HWF1.out.2.1]; exact hy1) HWF1.out
         rw [HWF1.out.2.1] at h2
         exact h2)
        clear hy2
        rcases hnil with ⟨rfl, rfl, rfl⟩ | ⟨hsome, hle⟩
        ·have hpe : rdOf ByteArray.empty ([] : List ByteArray) (j : Int) = ⟨#[]⟩ := by simp [rdOf]; rfl
         rw [hpe] at HADD HCU'
         go_wp2
         go_quiet (fail)
         go_wp2_with ((with_reducible refine (HADD.out _ (by repeat (first | exact Below.refl _ _ | apply pw_below_drewN | apply below_drew))).mono ?_); rintro e w' ⟨rfl, hS2, hB2, hZ2⟩; have HS2 := Aside0.mk hS2; have HB2 := Aside0.mk hB2; clear hS2 hB2 hZ2)
         go_roundw
         case rel => exact ⟨j + 1, by omega, by go_num, ⟨by rw [HCU'.out]; exact HS2.out⟩, HB2⟩
         case measure => simp [intOf]; omega
        ·obtain ⟨adp, rfl, hp0⟩ := at_string_nat HP.out j (by omega)
         have hp0 := pw_cell_below HB.out hp0
         generalize rdOf ByteArray.empty pieces (j : Int) = pt at hp0 HADD HCU'
         go_wp2
         go_quiet (fail)
         go_wp2_with ((with_reducible refine (HADD.out _ (by repeat (first | exact Below.refl _ _ | apply pw_below_drewN | apply below_drew))).mono ?_); rintro e w' ⟨rfl, hS2, hB2, hZ2⟩; have HS2 := Aside0.mk hS2; have HB2 := Aside0.mk hB2; clear hS2 hB2 hZ2)
         go_roundw
         case rel => exact ⟨j + 1, by omega, by go_num, ⟨by rw [HCU'.out]; exact HS2.out⟩, HB2⟩
         case measure => simp [intOf]; omega
       ·have hcu := HCU.out
        rw [if_neg (fun h => hsw h.2)] at hcu
        have HCU' := Aside0.mk hcu
        clear hcu
        go_wp2
        go_quiet (fail)
        go_wp2
        go_roundw
        case rel => exact ⟨j + 1, by omega, by go_num, ⟨by rw [HCU'.out]; exact HS.out.below (by repeat (first | exact Below.refl _ _ | apply pw_below_drewN | apply below_drew))⟩, ⟨by repeat (first | exact HB.out | apply pw_below_drewN | apply below_drew)⟩⟩
        case measure => simp [intOf]; omega
      ·obtain rfl : bit = 0 := by omega
       have hcu := HCU.out
       rw [if_neg (fun h => absurd h.1 (by decide))] at hcu
       have HCU' := Aside0.mk hcu
       clear hcu
       go_wp2
       go_quiet (fail)
       go_wp2
       go_roundw
       case rel => exact ⟨j + 1, by omega, by go_num, ⟨by rw [HCU'.out]; exact HS.out.below (by repeat (first | exact Below.refl _ _ | apply pw_below_drewN | apply below_drew))⟩, ⟨by repeat (first | exact HB.out | apply pw_below_drewN | apply below_drew)⟩⟩
       case measure => simp [intOf]; omega
     ·obtain rfl : j = N := by omega
      have hok := HOK.out
      by_cases hsw : (collectUpto width mk rows pieces j).length < width
      ·rw [if_pos hsw] at hok
       have HOK2 := Aside0.mk hok
       clear HOK hok
       go_wp2
       go_quiet (fail)
       go_wp2
       go_ret
       exact ⟨by repeat (first | exact HB.out | apply pw_below_drewN | apply below_drew), .inl ⟨HOK2.out, rfl⟩⟩
      ·rw [if_neg hsw] at hok
       have HOK2 := Aside0.mk hok
       clear HOK hok
       go_wp2
       go_quiet (fail)
       go_wp2
       go_ret
       exact ⟨by repeat (first | exact HB.out | apply pw_below_drewN | apply below_drew), .inr ⟨_, _, HOK2.out, rfl, HS.out.below (by repeat (first | exact Below.refl _ _ | apply pw_below_drewN | apply below_drew))⟩⟩


/-! ### code_Recoverable: function 30 -/
/-- Rows that collect is given: few, of one length, of bytes. -/
def okRows (rows : List (List Int)) : Bool := decide (rows.length ≤ 24) && (decide (1 ≤ rowWidth rows) || decide (rows.length = 0)) && decide (rowWidth rows ≤ 16) && rows.all fun r => r.all isB && decide (r.length = rowWidth rows)
theorem okRows_iff {rows : List (List Int)} (h : okRows rows = true) : rows.length ≤ 24 ∧ (0 < rows.length → 1 ≤ rowWidth rows) ∧ rowWidth rows ≤ 16 ∧ ∀ k, k < rows.length → (rd_L4 rows (k : Int)).all isB = true ∧ (rd_L4 rows (k : Int)).length = rowWidth rows := by
 simp only [okRows, Bool.and_eq_true, Bool.or_eq_true, decide_eq_true_eq, List.all_eq_true] at h
 obtain ⟨⟨⟨h1, h2⟩, h3⟩, h4⟩ := h
 refine ⟨h1, fun hp => by omega, h3, fun k hk => ?_⟩
 have hr : rd_L4 rows (k : Int) = rows[k] := by simp [rd_L4, List.getD_eq_getElem?_getD, List.getElem?_eq_getElem hk]
 rw [hr]
 have := h4 _ (List.getElem_mem hk)
 exact ⟨List.all_eq_true.2 this.1, this.2⟩
def code_Recoverable.f (k : Nat) (a0_0 : Int) (l0_1 : List (List Int)) (a0_2 : Int) (a1 : Int) : Option Bool :=
 (code_Rows.f k a0_0 l0_1 a0_2).bind fun r => if okRows r.1 = true then some (collectOk r.1 a1 []).isSome else none
set_option maxHeartbeats 4000000 in
set_option maxRecDepth 100000 in
theorem code_Recoverable.calls (k : Nat) (a0_0 : Int) (A0_1 : Option Addr) (c0_1 : Nat) (l0_1 : List (List Int)) (a0_2 : Int) (a1 : Int) (r : Bool) (w : World) (hG : HG w) (hr0_1 : Kd.C (Kd.slice 3 (Kd.int .i64)) w A0_1 l0_1.length l0_1) (hc0_1 : l0_1.length ≤ c0_1) (h : code_Recoverable.f k a0_0 l0_1 a0_2 a1 = some r) :
  Calls Tryd.prog 30 #[.agg #[.int .i64 a0_0, .slice A0_1 l0_1.length c0_1, .int .i64 a0_2], .int .i64 a1] w fun e w' => e = .returned (.bool r) ∧ Below w.heap.size w w' := by
 obtain ⟨⟨rows, e0⟩, hrows, h2⟩ := Option.bind_eq_some_iff.1 h
 have HRW := Aside0.mk (fun W (hb : Below w.heap.size w W) => code_Rows.calls k a0_0 A0_1 c0_1 l0_1 a0_2 rows e0 W (hG.below hb) (Kd.C_below hr0_1 hb) hc0_1 hrows)
 have HGw := Aside0.mk hG
 by_cases hok : okRows rows = true
 ·rw [if_pos hok] at h2
  obtain rfl := Option.some.inj h2
  obtain ⟨h3, h4, h5, h6⟩ := okRows_iff hok
  have hu24 := Tryd.underlying24
  have hup := Tryd.underlying96
  have HWF := Aside0.mk (show ∀ k, k < rows.length → WfRow (rowWidth rows) 0 (rd_L4 rows (k : Int), rdOf ByteArray.empty ([] : List ByteArray) (k : Int)) from fun k hk => ⟨(h6 k hk).1, (h6 k hk).2, by simp [rdOf]⟩)
  have HCO := Aside0.mk (show ∀ W Ar cr, Below w.heap.size w W → Kd.C (Kd.slice 5 (Kd.int .u8)) W Ar rows.length rows → rows.length ≤ cr → Calls Tryd.prog 67 #[.slice Ar rows.length cr, .int .i64 a1, .slice none 0 0] W fun e w' => Below W.heap.size W w' ∧ ((collectOk rows a1 [] = none ∧ e = .returned (.pointer none)) ∨ ∃ gs st, collectOk rows a1 [] = some st ∧ e = .returned (.pointer (some ⟨gs, 0, none⟩)) ∧ StairsAt gs W.heap.size (rowWidth rows) w' st) from
   fun W Ar cr hb hC hcr => code_collect.calls 0 W Ar cr rows a1 none 0 [] (hG.below hb) hC hcr h3 h4 h5 (by decide) ⟨rfl, by decide, fun h_ => absurd h_ (by decide)⟩ (Nat.le_refl _) (.inl ⟨rfl, rfl, rfl⟩) HWF.out)
  clear h h2 hok h6 hG hrows hr0_1
  go_enter Tryd.func30, Tryd.ntmps30
  go_wp2_with (first | (go_at_call 17; (with_reducible refine (HRW.out _ (by repeat (first | exact Below.refl _ _ | apply below_alloc))).mono ?_); rintro e w1 ⟨v0, rfl, hS, hb1⟩; obtain ⟨Ar, cr, rfl, hcr, hCr⟩ := Kd.S_reads hS; have HCR := Aside0.mk hCr; have HB1 := Aside0.mk (below_step (below_alloc (Below.refl w.heap.size w) _) hb1); clear hb1 hS hCr) | (go_at_call 67; (with_reducible refine (HCO.out w1 Ar cr HB1.out HCR.out hcr).mono ?_); rintro e w2 ⟨hb2, hor⟩; have HB2 := Aside0.mk hb2; clear hb2; rcases hor with ⟨hn, rfl⟩ | ⟨gs, st, hn, rfl, _⟩ <;> (have HN_ := Aside0.mk hn; clear hn)))
  all_goals
   rw [HN_.out]
   go_ret
   exact ⟨rfl, below_step HB1.out HB2.out⟩
 ·rw [if_neg hok] at h2
  cases h2


/-! ### code_Size: function 23 -/
def code_Size.f (k : Nat) (a0_0 : Int) (l0_1 : List (List Int)) (a0_2 : Int) (a1 : Int) : Option (Int) := if a1 < 0 then (some 0) else (if a1 > 4096 then (some 0) else ((code_Check.f k a0_0 l0_1 a0_2).bind fun t259 => (if t259 = 0 then (if a0_0 = 0 then (none) else (some (wrap64 (Int.tdiv (wrap64 ((wrap64 (a1 + a0_0)) - 1)) a0_0)))) else (some 0))))
set_option maxHeartbeats 8000000 in
set_option maxRecDepth 100000 in
theorem code_Size.calls (k : Nat) (a0_0 : Int) (A0_1 : Option Addr) (c0_1 : Nat) (l0_1 : List (List Int)) (a0_2 : Int) (a1 : Int) (r : Int) (w : World) (hG : HG w) (hr0_1 : Kd.C (Kd.slice 3 (Kd.int .i64)) w A0_1 l0_1.length l0_1) (hc0_1 : l0_1.length ≤ c0_1) (h : code_Size.f k a0_0 l0_1 a0_2 a1 = some r) :
  Calls Tryd.prog 23 #[.agg #[.int .i64 a0_0, .slice A0_1 l0_1.length c0_1, .int .i64 a0_2], .int .i64 a1] w fun e w' => e = .returned (.int .i64 r) ∧ Below w.heap.size w w' := by
 have HGw := Aside0.mk hG
 clear hG
 have hu24 := Tryd.underlying24
 have HR0_1 := Aside0.mk hr0_1
 have HC0_1 := Aside0.mk hc0_1
 clear hr0_1 hc0_1
 have HB := Aside0.mk (Below.refl w.heap.size w)
 have H : (if a1 < 0 then (some 0) else (if a1 > 4096 then (some 0) else ((code_Check.f k a0_0 l0_1 a0_2).bind fun t259 => (if t259 = 0 then (if a0_0 = 0 then (none) else (some (wrap64 (Int.tdiv (wrap64 ((wrap64 (a1 + a0_0)) - 1)) a0_0)))) else (some 0))))) = some r := h
 clear h
 by_cases c3 : a1 < 0
 ·rw [if_pos c3] at H
  have c3b0 : decide (a1 < 0) = true := decide_eq_true c3
  clear c3
  obtain rfl := Option.some.inj H
  go_enter Tryd.func23, Tryd.ntmps23
  go_wp2_with (first | ((with_reducible refine gate_dst (N := 2) rfl ?_); refine box_event ?hg (N := 2) ?hd (cs := #[.int .i64 a0_0, .slice A0_1 l0_1.length c0_1, .int .i64 a0_2]) (t := 24) ?hr ?_; (case hd => rfl); (case hg => rfl); (case hr => first | (go_simp; done) | (go_simp; rfl)); intro gb258 hg w4 hbox hb; have n0_ := Aside0.mk (below_step (by repeat (first | (with_reducible first | exact HB.out | apply below_alloc | apply pw_below_drewN | apply below_drew1) | exact HB.out)) hb); have n1_ := Aside0.mk (hbox); have n2_ := Aside0.mk ((by rw [hg]; exact (below_size (by repeat (first | (with_reducible first | exact HB.out | apply below_alloc | apply pw_below_drewN | apply below_drew1) | exact HB.out))) : w.heap.size ≤ gb258)); have n3_ := Aside0.mk ((by rw [hg]; exact (below_size (by repeat (first | (with_reducible first | exact HB.out | apply below_alloc | apply pw_below_drewN | apply below_drew1) | exact HB.out))) : w.heap.size ≤ gb258)); clear HB; have HB := n0_; have BK258 := n1_; have GW258 := n2_; have GE258 := n3_; clear n0_ n1_ n2_ n3_; clear hb hbox hg))
  go_ret
  exact ⟨by first | rfl | (simp [errW_none, errW_some] <;> rfl) | (simp [*, errW_none, errW_some] <;> rfl), by repeat (first | (with_reducible first | exact HB.out | apply below_alloc | apply pw_below_drewN | apply below_drew1 | refine below_set ?_ GE258.out) | exact HB.out)⟩
 ·rw [if_neg c3] at H
  have c3b0 : decide (a1 < 0) = false := decide_eq_false c3
  clear c3
  by_cases c5 : a1 > 4096
  ·rw [if_pos c5] at H
   have c5b0 : decide (4096 < a1) = true := decide_eq_true c5
   clear c5
   obtain rfl := Option.some.inj H
   go_enter Tryd.func23, Tryd.ntmps23
   go_wp2_with (first | ((with_reducible refine gate_dst (N := 2) rfl ?_); refine box_event ?hg (N := 2) ?hd (cs := #[.int .i64 a0_0, .slice A0_1 l0_1.length c0_1, .int .i64 a0_2]) (t := 24) ?hr ?_; (case hd => rfl); (case hg => rfl); (case hr => first | (go_simp; done) | (go_simp; rfl)); intro gb258 hg w6 hbox hb; have n0_ := Aside0.mk (below_step (by repeat (first | (with_reducible first | exact HB.out | apply below_alloc | apply pw_below_drewN | apply below_drew1) | exact HB.out)) hb); have n1_ := Aside0.mk (hbox); have n2_ := Aside0.mk ((by rw [hg]; exact (below_size (by repeat (first | (with_reducible first | exact HB.out | apply below_alloc | apply pw_below_drewN | apply below_drew1) | exact HB.out))) : w.heap.size ≤ gb258)); have n3_ := Aside0.mk ((by rw [hg]; exact (below_size (by repeat (first | (with_reducible first | exact HB.out | apply below_alloc | apply pw_below_drewN | apply below_drew1) | exact HB.out))) : w.heap.size ≤ gb258)); clear HB; have HB := n0_; have BK258 := n1_; have GW258 := n2_; have GE258 := n3_; clear n0_ n1_ n2_ n3_; clear hb hbox hg))
   go_ret
   exact ⟨by first | rfl | (simp [errW_none, errW_some] <;> rfl) | (simp [*, errW_none, errW_some] <;> rfl), by repeat (first | (with_reducible first | exact HB.out | apply below_alloc | apply pw_below_drewN | apply below_drew1 | refine below_set ?_ GE258.out) | exact HB.out)⟩
  ·rw [if_neg c5] at H
   have c5b0 : decide (4096 < a1) = false := decide_eq_false c5
   clear c5
   replace H := Option.bind_eq_some_iff.mp H
   obtain ⟨t259, A70, H⟩ := H
   replace H : (if t259 = 0 then (if a0_0 = 0 then (none) else (some (wrap64 (Int.tdiv (wrap64 ((wrap64 (a1 + a0_0)) - 1)) a0_0)))) else (some 0)) = some r := H
   have A7 := Aside0.mk A70
   clear A70
   by_cases c8 : t259 = 0
   ·rw [if_pos c8] at H
    have c8b0 : (t259 == 0) = true := beq_iff_eq.mpr c8
    have c8b1 : (t259 != 0) = false := bne_eq_false_iff_eq.mpr c8
    clear c8
    by_cases c9 : a0_0 = 0
    ·rw [if_pos c9] at H
     exact absurd H (by simp)
    ·rw [if_neg c9] at H
     have c9b0 : (a0_0 == 0) = false := beq_eq_false_iff_ne.mpr c9
     have c9b1 : (a0_0 != 0) = true := bne_iff_ne.mpr c9
     obtain rfl := Option.some.inj H
     go_enter Tryd.func23, Tryd.ntmps23
     go_wp2_with (first | ((with_reducible refine gate_dst (N := 2) rfl ?_); refine box_event ?hg (N := 2) ?hd (cs := #[.int .i64 a0_0, .slice A0_1 l0_1.length c0_1, .int .i64 a0_2]) (t := 24) ?hr ?_; (case hd => rfl); (case hg => rfl); (case hr => first | (go_simp; done) | (go_simp; rfl)); intro gb258 hg w10 hbox hb; have n0_ := Aside0.mk (below_step (by repeat (first | (with_reducible first | exact HB.out | apply below_alloc | apply pw_below_drewN | apply below_drew1) | exact HB.out)) hb); have n1_ := Aside0.mk (hbox); have n2_ := Aside0.mk ((by rw [hg]; exact (below_size (by repeat (first | (with_reducible first | exact HB.out | apply below_alloc | apply pw_below_drewN | apply below_drew1) | exact HB.out))) : w.heap.size ≤ gb258)); have n3_ := Aside0.mk ((by rw [hg]; exact (below_size (by repeat (first | (with_reducible first | exact HB.out | apply below_alloc | apply pw_below_drewN | apply below_drew1) | exact HB.out))) : w.heap.size ≤ gb258)); clear HB; have HB := n0_; have BK258 := n1_; have GW258 := n2_; have GE258 := n3_; clear n0_ n1_ n2_ n3_; clear hb hbox hg; have hcz11_0 : w10.cell? ⟨gb258, 0, none⟩ = some (.int .i64 a0_0) := (blk_cell BK258.out 0).trans rfl; have hcz11_1 : w10.cell? ⟨gb258, 1, none⟩ = some (.slice A0_1 l0_1.length c0_1) := (blk_cell BK258.out 1).trans rfl; have hcz11_2 : w10.cell? ⟨gb258, 2, none⟩ = some (.int .i64 a0_2) := (blk_cell BK258.out 2).trans rfl; have hfz11_0 := blk_frozen BK258.out 0; have hfz11_1 := blk_frozen BK258.out 1; have hfz11_2 := blk_frozen BK258.out 2) | (go_at_call 20; (with_reducible refine (code_Check.calls k a0_0 _ _ l0_1 a0_2 t259 _ ?side1 ?side2 ?side3 A7.out).mono ?_); (case side1 => exact HG.below HGw.out (by repeat (first | (with_reducible first | exact HB.out | apply below_alloc | apply pw_below_drewN | apply below_drew1 | refine below_set ?_ GE258.out) | exact HB.out))); (case side2 => repeat (first | exact (Kd.C_below HR0_1.out HB.out) | (with_reducible refine Kd.C_alloc ?_ _) | (with_reducible refine Kd.C_drewN ?_ _) | (with_reducible refine Kd.C_drew ?_))); (case side3 => exact HC0_1.out); rintro e w12 ⟨rfl, hb⟩; have n0_ := Aside0.mk (blk_below (g := gb258) (o := .cells #[.int .i64 a0_0, .slice A0_1 l0_1.length c0_1, .int .i64 a0_2] 24 (0, 0)) (by (with_reducible repeat (first | refine blk_drewN ?_ _ | refine blk_drew ?_ | refine blk_alloc ?_ _)); exact BK258.out) hb); have n1_ := Aside0.mk (below_step (by repeat (first | (with_reducible first | exact HB.out | apply below_alloc | apply pw_below_drewN | apply below_drew1 | refine below_set ?_ GE258.out) | exact HB.out)) hb); clear BK258; clear HB; have BK258 := n0_; have HB := n1_; clear n0_ n1_; (try clear hb); (try clear hb2); (try clear hk); (try clear hi); have hcz13_0 : w12.cell? ⟨gb258, 0, none⟩ = some (.int .i64 a0_0) := (blk_cell BK258.out 0).trans rfl; have hcz13_1 : w12.cell? ⟨gb258, 1, none⟩ = some (.slice A0_1 l0_1.length c0_1) := (blk_cell BK258.out 1).trans rfl; have hcz13_2 : w12.cell? ⟨gb258, 2, none⟩ = some (.int .i64 a0_2) := (blk_cell BK258.out 2).trans rfl; have hfz13_0 := blk_frozen BK258.out 0; have hfz13_1 := blk_frozen BK258.out 1; have hfz13_2 := blk_frozen BK258.out 2))
     go_ret
     exact ⟨by first | rfl | (simp [errW_none, errW_some] <;> rfl) | (simp [*, errW_none, errW_some] <;> rfl), by repeat (first | (with_reducible first | exact HB.out | apply below_alloc | apply pw_below_drewN | apply below_drew1 | refine below_set ?_ GE258.out) | exact HB.out)⟩
   ·rw [if_neg c8] at H
    have c8b0 : (t259 == 0) = false := beq_eq_false_iff_ne.mpr c8
    have c8b1 : (t259 != 0) = true := bne_iff_ne.mpr c8
    obtain rfl := Option.some.inj H
    go_enter Tryd.func23, Tryd.ntmps23
    go_wp2_with (first | ((with_reducible refine gate_dst (N := 2) rfl ?_); refine box_event ?hg (N := 2) ?hd (cs := #[.int .i64 a0_0, .slice A0_1 l0_1.length c0_1, .int .i64 a0_2]) (t := 24) ?hr ?_; (case hd => rfl); (case hg => rfl); (case hr => first | (go_simp; done) | (go_simp; rfl)); intro gb258 hg w14 hbox hb; have n0_ := Aside0.mk (below_step (by repeat (first | (with_reducible first | exact HB.out | apply below_alloc | apply pw_below_drewN | apply below_drew1) | exact HB.out)) hb); have n1_ := Aside0.mk (hbox); have n2_ := Aside0.mk ((by rw [hg]; exact (below_size (by repeat (first | (with_reducible first | exact HB.out | apply below_alloc | apply pw_below_drewN | apply below_drew1) | exact HB.out))) : w.heap.size ≤ gb258)); have n3_ := Aside0.mk ((by rw [hg]; exact (below_size (by repeat (first | (with_reducible first | exact HB.out | apply below_alloc | apply pw_below_drewN | apply below_drew1) | exact HB.out))) : w.heap.size ≤ gb258)); clear HB; have HB := n0_; have BK258 := n1_; have GW258 := n2_; have GE258 := n3_; clear n0_ n1_ n2_ n3_; clear hb hbox hg; have hcz15_0 : w14.cell? ⟨gb258, 0, none⟩ = some (.int .i64 a0_0) := (blk_cell BK258.out 0).trans rfl; have hcz15_1 : w14.cell? ⟨gb258, 1, none⟩ = some (.slice A0_1 l0_1.length c0_1) := (blk_cell BK258.out 1).trans rfl; have hcz15_2 : w14.cell? ⟨gb258, 2, none⟩ = some (.int .i64 a0_2) := (blk_cell BK258.out 2).trans rfl; have hfz15_0 := blk_frozen BK258.out 0; have hfz15_1 := blk_frozen BK258.out 1; have hfz15_2 := blk_frozen BK258.out 2) | (go_at_call 20; (with_reducible refine (code_Check.calls k a0_0 _ _ l0_1 a0_2 t259 _ ?side1 ?side2 ?side3 A7.out).mono ?_); (case side1 => exact HG.below HGw.out (by repeat (first | (with_reducible first | exact HB.out | apply below_alloc | apply pw_below_drewN | apply below_drew1 | refine below_set ?_ GE258.out) | exact HB.out))); (case side2 => repeat (first | exact (Kd.C_below HR0_1.out HB.out) | (with_reducible refine Kd.C_alloc ?_ _) | (with_reducible refine Kd.C_drewN ?_ _) | (with_reducible refine Kd.C_drew ?_))); (case side3 => exact HC0_1.out); rintro e w16 ⟨rfl, hb⟩; have n0_ := Aside0.mk (blk_below (g := gb258) (o := .cells #[.int .i64 a0_0, .slice A0_1 l0_1.length c0_1, .int .i64 a0_2] 24 (0, 0)) (by (with_reducible repeat (first | refine blk_drewN ?_ _ | refine blk_drew ?_ | refine blk_alloc ?_ _)); exact BK258.out) hb); have n1_ := Aside0.mk (below_step (by repeat (first | (with_reducible first | exact HB.out | apply below_alloc | apply pw_below_drewN | apply below_drew1 | refine below_set ?_ GE258.out) | exact HB.out)) hb); clear BK258; clear HB; have BK258 := n0_; have HB := n1_; clear n0_ n1_; (try clear hb); (try clear hb2); (try clear hk); (try clear hi)))
    go_ret
    exact ⟨by first | rfl | (simp [errW_none, errW_some] <;> rfl) | (simp [*, errW_none, errW_some] <;> rfl), by repeat (first | (with_reducible first | exact HB.out | apply below_alloc | apply pw_below_drewN | apply below_drew1 | refine below_set ?_ GE258.out) | exact HB.out)⟩


/-! ### code_stairs_solve: function 93 -/
/-- What the stairs are to a reader. -/
def StairsRd (gs width : Nat) (W : World) (st : St) : Prop :=
 ∃ Ar cr Ap cp, W.heap[gs]? = some (.cells #[.slice Ar st.length cr, .slice Ap st.length cp, .int .i64 (width : Int)] 117 (0, 0)) ∧ st.length ≤ cr ∧ st.length ≤ cp ∧
  (∀ k (h : k < st.length), ∃ ad A0 c0, Ar = some ad ∧ W.cell? (ad.add k) = some (.slice A0 st[k].1.length c0) ∧ st[k].1.length ≤ c0 ∧ (Kd.int .u8).C W A0 st[k].1.length st[k].1) ∧
  (∀ k (h : k < st.length), ∃ ad, Ap = some ad ∧ W.cell? (ad.add k) = some (.string st[k].2))
theorem StairsRd.below {gs width : Nat} {W W1 : World} {st : St} (h : StairsRd gs width W st) (hb : Below W.heap.size W W1) : StairsRd gs width W1 st := by
 obtain ⟨Ar, cr, Ap, cp, h1, h2, h3, h4, h5⟩ := h
 refine ⟨Ar, cr, Ap, cp, blk_below h1 hb, h2, h3, fun k hk => ?_, fun k hk => ?_⟩
 ·obtain ⟨ad, A0, c0, e, h6, h7, h8⟩ := h4 k hk
  exact ⟨ad, A0, c0, e, pw_cell_below hb h6, h7, Kd.C_below h8 hb⟩
 ·obtain ⟨ad, e, h6⟩ := h5 k hk
  exact ⟨ad, e, pw_cell_below hb h6⟩

/-! ### code_stairs_sorted: function 68 -/
/-- A slice's header. -/
abbrev Hd := Option Addr × Nat × Nat
def encH (h : Hd) : Value := .slice h.1 h.2.1 h.2.2
/-- Stairs whose rows lie elsewhere. -/
def StairsUp (gt base width : Nat) (w W : World) (st : St) : Prop :=
 ∃ vr vp, ∃ hs : List Hd, W.heap[gt]? = some (.cells #[vr, vp, .int .i64 (width : Int)] 117 (0, 0)) ∧ (Kd.scalar encH (fun _ => rfl)).R 57 W base (fun _ => True) vr hs ∧ Kd.R Kd.string 9 W base (fun _ => True) vp (st.map Prod.snd) ∧
  hs.length = st.length ∧ ∀ k (h : k < st.length) (h2 : k < hs.length), hs[k].2.1 = st[k].1.length ∧ st[k].1.length ≤ hs[k].2.2 ∧ (Kd.int .u8).C w hs[k].1 st[k].1.length st[k].1
theorem StairsUp.below {gt base width : Nat} {w W W1 : World} {st : St} (h : StairsUp gt base width w W st) (hb : Below W.heap.size W W1) : StairsUp gt base width w W1 st := by
 obtain ⟨vr, vp, hs, h1, h2, h3, h4⟩ := h
 exact ⟨vr, vp, hs, blk_below h1 hb, Kd.R_below h2 hb, Kd.R_below h3 hb, h4⟩
section
variable {P : Program} {ops : Array Oper} {o : Oper} {a : Act} {Q : Exit → Act → World → Prop} {Kc : Act → World → Prop}
end

/-! ### code_Decode: function 28 -/
theorem bit_eq (mask j : Nat) (hm : mask < 2 ^ 24) : Go.bits .and .i64 ((mask : Int) / 2 ^ j) 1 = ((mask >>> j % 2 : Nat) : Int) := by
 rw [show ((mask : Int) / 2 ^ j) = ((mask >>> j : Nat) : Int) by rw [Nat.shiftRight_eq_div_pow]; simp, i64_and1 _ (by have := Nat.shiftRight_le mask j; omega)]

/-! ### risk_looser_1: function 98 -/
/-- The pieces that stay, of the first ones. -/
def leftUpto (pl : List Int) (f : Nat) : Nat → Nat
 | 0 => 0
 | j + 1 => if 0 ≤ rd pl (j : Int) ∧ (f >>> (rd pl (j : Int)).toNat) % 2 = 0 then leftUpto pl f j ||| 2 ^ j else leftUpto pl f j
theorem leftUpto_lt (pl : List Int) (f : Nat) : ∀ j, leftUpto pl f j < 2 ^ j
 | 0 => (by decide : (0 : Nat) < 2 ^ 0)
 | j + 1 => by
  have h := leftUpto_lt pl f j
  have h2 : (2 : Nat) ^ j < 2 ^ (j + 1) := Nat.pow_lt_pow_right (by decide) (by omega)
  show (if 0 ≤ rd pl (j : Int) ∧ (f >>> (rd pl (j : Int)).toNat) % 2 = 0 then leftUpto pl f j ||| 2 ^ j else leftUpto pl f j) < 2 ^ (j + 1)
  split
  ·exact Nat.or_lt_two_pow (by omega) h2
  ·omega
theorem plainElem_bool_inv {H : Type} {P : Program} {e : TypeId} (he : P.underlying e = some .bool) {v : Value} {z : DataW H × List MemPlace} (h : plainElem P e v = some z) : ∃ x, v = .bool x ∧ z = (.lit (.bool x), []) := by
 unfold plainElem at h
 rw [he] at h
 cases v <;> simp at h
 exact ⟨_, rfl, h.symm⟩
/-- What the function that looser returns has: a peril, and the sets that were looked at. -/
structure Looser (w0 : World) (g bk bm : Nat) (d : Int) (A : Option Addr) (c : Nat) (l : List (List Int)) (m : Int) (Aa : Option Addr) (ca : Nat) (pl : List Int) (Ac : Option Addr) (cc : Nat) (ch : List Int) (can : Nat → Bool) (N : Nat) (W : World) : Prop where
 bg : w0.heap.size ≤ g
 bb : w0.heap.size ≤ bk
 bn : w0.heap.size ≤ bm
 per : W.heap[g]? = some (.cells #[.int .i64 d, .slice A l.length c, .int .i64 m, .slice Aa pl.length ca, .slice Ac ch.length cc] 64 (0, 0))
 kn : W.heap[bk]? = some (.cells #[.map (some bm)] 123 (0, 0))
 own : ∃ D : DataW Unit, W.ownsMap Tryd.prog 3 (plainElem Tryd.prog 4) bm N D ∧ Maps.IsMap D ∧ ∀ y : Nat, y < 2 ^ 24 → Maps.has D (.int .i64 (y : Int)) = true → ∀ z, D.atKey (.int .i64 (y : Int)) z = .lit (.bool (!can y))
 bel : Below w0.heap.size w0 W
theorem map_ne {W : World} {b i : Nat} {cs : Array Value} {t : TypeId} {x : Nat × Nat} {P : Program} {k : TypeId} {R : Value → Option (DataW Unit × List MemPlace)} {n : Nat} {D : DataW Unit} (h : W.heap[i]? = some (.cells cs t x)) (ho : W.ownsMap P k R b n D) : i ≠ b := by
 obtain ⟨es, cl, hb, _⟩ := ho
 rintro rfl
 rw [h] at hb; cases hb
theorem blk_grownBy {W W' : World} {b i : Nat} {o : Obj} (h : W.heap[i]? = some o) (hg : W.grownBy W' (some b)) (hne : i ≠ b) : W'.heap[i]? = some o := by
 rw [hg.block i (Array.getElem?_eq_some_iff.1 h).1 (fun e => hne (Option.some.inj e)), h]
theorem grown_of_below {w w' : World} (h : Below w.heap.size w w') (b : Option Nat) : w.grownBy w' b := ⟨h.os, h.tape, h.output, h.size, fun k hk _ => h.block k hk⟩
section
variable {w0 : World} {g bk bm : Nat} {d : Int} {A : Option Addr} {c : Nat} {l : List (List Int)} {m : Int} {Aa : Option Addr} {ca : Nat} {pl : List Int} {Ac : Option Addr} {cc : Nat} {ch : List Int} {can : Nat → Bool} {N : Nat} {W W' : World}
theorem Looser.below (h : Looser w0 g bk bm d A c l m Aa ca pl Ac cc ch can N W) (hb : Below W.heap.size W W') : Looser w0 g bk bm d A c l m Aa ca pl Ac cc ch can N W' := by
 obtain ⟨D, h1, h2, h3⟩ := h.own
 exact ⟨h.bg, h.bb, h.bn, blk_below h.per hb, blk_below h.kn hb, ⟨D, h1.kept (grown_of_below hb none) (by simp), h2, h3⟩, below_step h.bel hb⟩
theorem Looser.mono (h : Looser w0 g bk bm d A c l m Aa ca pl Ac cc ch can N W) {M : Nat} (hM : N ≤ M) : Looser w0 g bk bm d A c l m Aa ca pl Ac cc ch can M W := by
 obtain ⟨D, h1, h2, h3⟩ := h.own
 exact ⟨h.bg, h.bb, h.bn, h.per, h.kn, ⟨D, h1.mono hM, h2, h3⟩, h.bel⟩
end
theorem or_pow (x k : Nat) (hx : x < 2 ^ 24) (hk : k < 24) : Go.bits .or .i64 (x : Int) (wrap64 (2 ^ k)) = ((x ||| 2 ^ k : Nat) : Int) := by
 have hy2 : 2 ^ k < 2 ^ 24 := Nat.pow_lt_pow_right (by decide) hk
 have e : (2 : Int) ^ k = ((2 ^ k : Nat) : Int) := by simp
 rw [e, show wrap64 ((2 ^ k : Nat) : Int) = ((2 ^ k : Nat) : Int) by generalize 2 ^ k = z at hy2; unfold wrap64; omega, i64_or _ _ (by omega) (by omega)]
set_option maxHeartbeats 4000000 in
set_option maxRecDepth 100000 in
theorem risk_looser_1.calls (k : Nat) (w0 : World) (g bk bm : Nat) (d : Int) (A : Option Addr) (c : Nat) (l : List (List Int)) (m : Int) (Aa : Option Addr) (ca : Nat) (pl : List Int) (Ac : Option Addr) (cc : Nat) (ch : List Int) (can : Nat → Bool) (N f : Nat) (w : World)
  (hG : HG w0) (hC : Kd.C (Kd.slice 3 (Kd.int .i64)) w0 A l.length l) (hc : l.length ≤ c) (hP : (Kd.int .i64).C w0 Aa pl.length pl) (hca : pl.length ≤ ca) (hpl : pl.length ≤ 24) (hpx : ∀ x ∈ pl, x < 12) (hf : f < 2 ^ 12)
  (hrec : ∀ y : Nat, y < 2 ^ pl.length → code_Recoverable.f k d l m (y : Int) = some (can y)) (hN : N < 1000000) (h : Looser w0 g bk bm d A c l m Aa ca pl Ac cc ch can N w) :
  Calls Tryd.prog 98 #[.int .i64 (f : Int), .pointer (some ⟨g, 0, none⟩), .pointer (some ⟨bk, 0, none⟩)] w fun e w' => e = .returned (.bool (!can (leftUpto pl f pl.length))) ∧ w.grownBy w' (some bm) ∧ Looser w0 g bk bm d A c l m Aa ca pl Ac cc ch can (N + 1) w' := by
 have hz0 : w.cell? ⟨g, 0, none⟩ = some (.int .i64 d) := blk_cell h.per 0
 have hz1 : w.cell? ⟨g, 1, none⟩ = some (.slice A l.length c) := blk_cell h.per 1
 have hz2 : w.cell? ⟨g, 2, none⟩ = some (.int .i64 m) := blk_cell h.per 2
 have hz3 : w.cell? ⟨g, 3, none⟩ = some (.slice Aa pl.length ca) := blk_cell h.per 3
 have hk0 : w.cell? ⟨bk, 0, none⟩ = some (.map (some bm)) := blk_cell h.kn 0
 have hu64 := Tryd.underlying64
 have hu24 := Tryd.underlying24
 have HREC := Aside0.mk hrec
 have HL := Aside0.mk h
 have HG0 := Aside0.mk hG
 have HC := Aside0.mk hC
 have HCC := Aside0.mk hc
 have HP := Aside0.mk (Kd.C_below hP h.bel)
 have HPX := Aside0.mk hpx
 clear hG hC hc hP hrec h hpx
 go_enter Tryd.func98, Tryd.ntmps98
 go_wp2
 go_loop [5, 13] (fun y v => ∃ j : Nat, j ≤ pl.length ∧ v = .int .i64 (j : Int) ∧ y = .int .i64 ((leftUpto pl f j : Nat) : Int)) (fun _ v => pl.length - (intOf v).toNat)
 case atStart => exact ⟨0, Nat.zero_le _, rfl, rfl⟩
 case round =>
  obtain ⟨j, hj, rfl, rfl⟩ := hrel
  by_cases hlt : j < pl.length
  ·obtain ⟨ad, rfl, hx⟩ := at_int_nat HP.out j hlt
   have HLS := Aside0.mk (show leftUpto pl f (j + 1) = if 0 ≤ rd pl (j : Int) ∧ (f >>> (rd pl (j : Int)).toNat) % 2 = 0 then leftUpto pl f j ||| 2 ^ j else leftUpto pl f j from rfl)
   have hxm := HPX.out _ (rd_mem hlt)
   have hle := Nat.lt_of_lt_of_le (leftUpto_lt pl f j) (Nat.pow_le_pow_right (n := 2) (by decide) (show j ≤ 24 by omega))
   have hor := or_pow (leftUpto pl f j) j hle (by omega)
   have HOR := Aside0.mk hor
   generalize leftUpto pl f j = lf at hle HLS HOR hor ⊢
   generalize rd pl (j : Int) = x at hx HLS hxm
   by_cases h0 : 0 ≤ x
   ·obtain ⟨t, rfl⟩ := Int.eq_ofNat_of_zero_le h0
    have hls := HLS.out
    rw [Int.toNat_natCast] at hls
    have hbt := bit_eq f t (Nat.lt_trans hf (by decide))
    have hbl : (f >>> t) % 2 < 2 := Nat.mod_lt _ (by decide)
    have ht64 : (t : Int) < 64 := by omega
    generalize (f >>> t) % 2 = bt1 at hbt hbl hls
    have hd0 : decide ((0 : Int) ≤ (t : Int)) = true := decide_eq_true h0
    by_cases hb : bt1 = 0
    ·subst hb
     rw [if_pos ⟨h0, rfl⟩] at hls
     have HLS2 := Aside0.mk hls
     clear hls h0
     have hbt0 : Go.bits .and .i64 ((f : Int) / 2 ^ t) 1 = 0 := hbt
     clear hbt
     go_wp2
     go_round
     case rel => exact ⟨j + 1, by omega, by go_num, by rw [HLS2.out]⟩
     case measure => simp [intOf]; omega
    ·obtain rfl : bt1 = 1 := by omega
     rw [if_neg (by omega)] at hls
     have HLS2 := Aside0.mk hls
     clear hls h0
     have hbt0 : Go.bits .and .i64 ((f : Int) / 2 ^ t) 1 = 1 := hbt
     clear hbt hor
     go_wp2
     go_round
     case rel => exact ⟨j + 1, by omega, by go_num, by rw [HLS2.out]⟩
     case measure => simp [intOf]; omega
   ·have hls := HLS.out
    rw [if_neg (fun hh => h0 hh.1)] at hls
    have HLS2 := Aside0.mk hls
    have hd0 : decide ((0 : Int) ≤ x) = false := decide_eq_false h0
    clear hls hor
    go_wp2
    go_round
    case rel => exact ⟨j + 1, by omega, by go_num, by rw [HLS2.out]⟩
    case measure => simp [intOf]; omega
  ·obtain rfl : j = pl.length := by omega
   have hly := leftUpto_lt pl f pl.length
   have HR := Aside0.mk (HREC.out _ hly)
   have hly24 := Nat.lt_of_lt_of_le hly (Nat.pow_le_pow_right (n := 2) (by decide) hpl)
   obtain ⟨y, hy⟩ : ∃ y, y = leftUpto pl f pl.length := ⟨_, rfl⟩
   rw [← hy] at hly hly24 HR ⊢
   have HY := Aside0.mk hy
   clear hy
   obtain ⟨D, hown, hism, hval⟩ := HL.out.own
   have hkey : keyOf Tryd.prog 3 (.int .i64 (y : Int)) = some (.int .i64 (y : Int)) := Maps.keyOf_int_mk Tryd.underlying3 (by simp [Lit.wf, IntKind.min, IntKind.max, IntKind.signed, IntKind.bits]; omega)
   have hz : ∀ W, (zeroValue 4).run Tryd.prog W = .ok (.bool false) W := fun W => by kernel_rfl
   obtain ⟨v0, ps0, hl1, hv0⟩ := hown.look_ok (Maps.int_keyed Tryd.underlying3) Tryd.underlying123 (hz w) (plainElem_bool Tryd.underlying4 false) hkey
   obtain ⟨x0, rfl, hx0⟩ := plainElem_bool_inv Tryd.underlying4 hv0
   cases hhas : Maps.has D (.int .i64 (y : Int)) with
   | true =>
    obtain ⟨v1, ps1, hl2, hv1⟩ := hown.lookup (Maps.int_keyed Tryd.underlying3) Tryd.underlying123 (hz w) (plainElem_bool Tryd.underlying4 false) hkey
    rw [hval y hly24 hhas] at hv1
    obtain ⟨x1, rfl, hx1⟩ := plainElem_bool_inv Tryd.underlying4 hv1
    simp only [Prod.mk.injEq, DataW.lit.injEq, Lit.bool.injEq] at hx1
    obtain ⟨rfl, rfl⟩ := hx1
    rw [hhas] at hl1
    clear hx0 hv0 hv1 hkey hval hism
    have HGR := Aside0.mk (World.grownBy.refl w (some bm))
    have HL2 := Aside0.mk (HL.out.mono (Nat.le_succ N))
    clear hown hhas
    go_wp2
    go_ret
    exact ⟨by rw [← HY.out]; rfl, HGR.out, HL2.out⟩
   | false =>
    rw [hhas] at hl1
    have HKEY := Aside0.mk hkey
    have HZ := Aside0.mk hz
    clear hx0 hv0 hkey hval hism hown hhas hz
    go_upto_region 10 with fail
    have HLd := Aside0.mk (show Looser w0 g bk bm d A c l m Aa ca pl Ac cc ch can N w.drew from HL.out.below (below_drew (Below.refl _ _)))
    have HBd := Aside0.mk (show Below w.heap.size w w.drew from below_drew (Below.refl _ _))
    clear hl1 HP
    refine start_ (n := 8) (S := fun w' => w'.cell? ⟨bk, 0, none⟩ = some (.map (some bm)) ∧ w'.cell? ⟨g, 0, none⟩ = some (.int .i64 d) ∧ w'.cell? ⟨g, 1, none⟩ = some (.slice A l.length c) ∧ w'.cell? ⟨g, 2, none⟩ = some (.int .i64 m)) (ds := [7]) #[false, false, false, false, false, false, false, false] (by kernel_rfl) rfl rfl ⟨hk0, hz0, hz1, hz2⟩ (fun hHeld => ?_)
    clear HL hk0 hz0 hz1 hz2 hz3
    generalize w.drew = wd at *
    refine pure_ (i := 1) (N := some 41) (v := ?_) (a' := ?_) #[false, true, false, false, false, false, false, false] rfl rfl (by kernel_rfl) (fun _ _ _ h => h) (Or.inl ⟨by rfl, ?_⟩) ?_ ?_
    rotate_left
    ·intro w'
     go_simp
     with_reducible rfl
    rotate_left
    ·simp only [Act.put, List.setIfInBounds_toArray, List.set_cons_zero, List.set_cons_succ, i64_w, i32_w]
     rfl
    refine pure_ (i := 2) (N := some 42) (v := ?_) (a' := ?_) #[false, true, true, false, false, false, false, false] rfl rfl (by kernel_rfl) (fun _ _ _ h => h) (Or.inl ⟨by rfl, ?_⟩) ?_ ?_
    rotate_left
    ·intro w'
     go_simp
     with_reducible rfl
    rotate_left
    ·simp only [Act.put, List.setIfInBounds_toArray, List.set_cons_zero, List.set_cons_succ, i64_w, i32_w]
     rfl
    refine pure_ (i := 4) (N := some 44) (v := ?_) (a' := ?_) #[false, true, true, false, true, false, false, false] rfl rfl (by kernel_rfl) (fun _ _ _ h => h) (Or.inl ⟨by rfl, ?_⟩) ?_ ?_
    rotate_left
    ·intro w'
     go_simp
     with_reducible rfl
    rotate_left
    ·simp only [Act.put, List.setIfInBounds_toArray, List.set_cons_zero, List.set_cons_succ, i64_w, i32_w]
     rfl
    refine take_ (i := 0) (N := some 40) (v := ?_) (a' := ?_) #[true, true, true, false, true, false, false, false] rfl rfl (by kernel_rfl) (fun _ _ _ h => h) (Or.inl ⟨by rfl, ?_⟩) hHeld ?_ ?_
    rotate_left
    ·rintro w' ⟨s0, s1, s2, s3⟩
     go_simp
     with_reducible rfl
    rotate_left
    ·simp only [Act.put, List.setIfInBounds_toArray, List.set_cons_zero, List.set_cons_succ, i64_w, i32_w]
     rfl
    refine take_ (i := 3) (N := some 43) (v := ?_) (a' := ?_) #[true, true, true, true, true, false, false, false] rfl rfl (by kernel_rfl) (fun _ _ _ h => h) (Or.inl ⟨by rfl, ?_⟩) hHeld ?_ ?_
    rotate_left
    ·rintro w' ⟨s0, s1, s2, s3⟩
     go_simp
     with_reducible rfl
    rotate_left
    ·simp only [Act.put, List.setIfInBounds_toArray, List.set_cons_zero, List.set_cons_succ, i64_w, i32_w]
     rfl
    refine one_ (i := 5) (N := some 45) #[true, true, true, true, true, true, false, false] rfl rfl (by kernel_rfl) (by decide) (fun K hK => ?_)
    refine goes_ Tryd.func30 (by kernel_rfl) rfl #[.agg #[.int .i64 d, .slice A l.length c, .int .i64 m], .int .i64 (y : Int)] (by rfl) rfl rfl (by simp only [List.map_toArray, List.map_cons, List.map_nil]; rfl) ?_
    with_reducible refine (code_Recoverable.calls k d A c l m (y : Int) (can y) _ (HG0.out.below HLd.out.bel) (Kd.C_below HC.out HLd.out.bel) HCC.out HR.out).mono ?_
    rintro e w7 ⟨rfl, hb⟩
    refine ⟨_, rfl, ?_⟩
    have HL7 := Aside0.mk (HLd.out.below hb)
    have HB7 := Aside0.mk (below_step HBd.out hb)
    clear hb
    refine hK.out _ _ ⟨blk_cell HL7.out.kn 0, blk_cell HL7.out.per 0, blk_cell HL7.out.per 1, blk_cell HL7.out.per 2⟩ (fun hHeld => ?_)
    clear hK K
    refine norm_ (a' := ?_) ?_ ?_
    rotate_left
    ·show Act.put _ (some 45) _ = _
     simp only [Act.put, List.setIfInBounds_toArray, List.set_cons_zero, List.set_cons_succ, i64_w, i32_w]
     rfl
    refine pure_ (i := 6) (N := some 46) (v := ?_) (a' := ?_) #[true, true, true, true, true, true, true, false] rfl rfl (by kernel_rfl) (fun _ _ _ h => h) (Or.inl ⟨by rfl, ?_⟩) ?_ ?_
    rotate_left
    ·intro w'
     go_simp
     with_reducible rfl
    rotate_left
    ·simp only [Act.put, List.setIfInBounds_toArray, List.set_cons_zero, List.set_cons_succ, i64_w, i32_w]
     rfl
    refine last_ (i := 7) (N := none) #[true, true, true, true, true, true, true, true] rfl rfl (by kernel_rfl) (by decide) (fun K hK => ?_)
    obtain ⟨D7, hown7, hism7, hval7⟩ := HL7.out.own
    obtain ⟨w8, hrun8, hown8, hgr8⟩ := hown7.update (Maps.int_keyed Tryd.underlying3) Tryd.underlying123 (show N < maxLen by unfold maxLen; omega) HKEY.out (plainElem_bool Tryd.underlying4 (!can y))
    refine skip_ (w1 := w8) (by rfl) rfl ?_ ?_
    ·go_simp
    refine hK.out _ _ ?_
    clear hK K
    refine done_ (by kernel_rfl) ?_
    have hat : ∀ z, (D7.put (.int .i64 (y : Int)) (.lit (.bool (!can y)))).atKey (.int .i64 (y : Int)) z = .lit (.bool (!can y)) := fun z => Maps.atKey_put_same hism7 (by simp [WideAt.IsKeyLit]) _ z
    obtain ⟨v1, ps1, hl2, hv1⟩ := hown8.lookup (Maps.int_keyed Tryd.underlying3) Tryd.underlying123 (HZ.out w8) (plainElem_bool Tryd.underlying4 false) HKEY.out
    rw [hat] at hv1
    obtain ⟨x1, rfl, hx1⟩ := plainElem_bool_inv Tryd.underlying4 hv1
    simp only [Prod.mk.injEq, DataW.lit.injEq, Lit.bool.injEq] at hx1
    obtain ⟨rfl, rfl⟩ := hx1
    have hkn8 := blk_grownBy HL7.out.kn hgr8 (map_ne HL7.out.kn hown7)
    have hpe8 := blk_grownBy HL7.out.per hgr8 (map_ne HL7.out.per hown7)
    have hk8 : w8.cell? ⟨bk, 0, none⟩ = some (.map (some bm)) := blk_cell hkn8 0
    have HGR := Aside0.mk ((grown_of_below HB7.out (some bm)).trans hgr8)
    have HL8 := Aside0.mk (show Looser w0 g bk bm d A c l m Aa ca pl Ac cc ch can (N + 1) w8 from ⟨HL7.out.bg, HL7.out.bb, HL7.out.bn, hpe8, hkn8, ⟨_, hown8, hism7.put _ _, fun z hz24 hhas z2 => by
     by_cases e : z = y
     ·subst e; exact hat z2
     ·have hne : (Lit.int IntKind.i64 (z : Int)) ≠ (Lit.int IntKind.i64 (y : Int)) := by simp; omega
      rw [Maps.atKey_put_other hne]
      rw [Maps.has_put_other hne] at hhas
      exact hval7 z hz24 hhas z2⟩, HL7.out.bel.grown hgr8 HL7.out.bel.size (fun k hk => by obtain rfl := Option.some.inj hk; exact HL7.out.bn)⟩)
    clear hat hv1 hkn8 hpe8 hgr8 hown8 hval7 hism7 hown7 hrun8 HL7 HB7 HBd HLd
    go_wp2
    go_ret
    exact ⟨by rw [← HY.out]; rfl, HGR.out, HL8.out⟩


/-! ### risk_looser: function 77 -/
/-- A peril in a block, with what it speaks of. -/
def PerilAt (g : Nat) (d : Int) (A : Option Addr) (c : Nat) (l : List (List Int)) (m : Int) (Aa : Option Addr) (ca : Nat) (pl : List Int) (Ac : Option Addr) (cc : Nat) (ch : List Int) (W : World) : Prop :=
 W.heap[g]? = some (.cells #[.int .i64 d, .slice A l.length c, .int .i64 m, .slice Aa pl.length ca, .slice Ac ch.length cc] 64 (0, 0)) ∧ l.length ≤ c ∧ Kd.C (Kd.slice 3 (Kd.int .i64)) W A l.length l ∧ pl.length ≤ ca ∧ (Kd.int .i64).C W Aa pl.length pl ∧ ch.length ≤ cc ∧ (Kd.int .i64).C W Ac ch.length ch ∧ HG W
section
variable {g : Nat} {d : Int} {A : Option Addr} {c : Nat} {l : List (List Int)} {m : Int} {Aa : Option Addr} {ca : Nat} {pl : List Int} {Ac : Option Addr} {cc : Nat} {ch : List Int} {W W' : World}
theorem PerilAt.below (h : PerilAt g d A c l m Aa ca pl Ac cc ch W) (hb : Below W.heap.size W W') : PerilAt g d A c l m Aa ca pl Ac cc ch W' :=
 ⟨blk_below h.1 hb, h.2.1, Kd.C_below h.2.2.1 hb, h.2.2.2.1, Kd.C_below h.2.2.2.2.1 hb, h.2.2.2.2.2.1, Kd.C_below h.2.2.2.2.2.2.1 hb, h.2.2.2.2.2.2.2.below hb⟩
theorem PerilAt.hg (h : PerilAt g d A c l m Aa ca pl Ac cc ch W) : HG W := h.2.2.2.2.2.2.2
theorem PerilAt.hch (h : PerilAt g d A c l m Aa ca pl Ac cc ch W) : (Kd.int .i64).C W Ac ch.length ch := h.2.2.2.2.2.2.1
theorem PerilAt.hpl (h : PerilAt g d A c l m Aa ca pl Ac cc ch W) : (Kd.int .i64).C W Aa pl.length pl := h.2.2.2.2.1
theorem PerilAt.hgr (h : PerilAt g d A c l m Aa ca pl Ac cc ch W) : Kd.C (Kd.slice 3 (Kd.int .i64)) W A l.length l := h.2.2.1
theorem PerilAt.hc (h : PerilAt g d A c l m Aa ca pl Ac cc ch W) : l.length ≤ c := h.2.1
theorem PerilAt.hca (h : PerilAt g d A c l m Aa ca pl Ac cc ch W) : pl.length ≤ ca := h.2.2.2.1
theorem PerilAt.hcc (h : PerilAt g d A c l m Aa ca pl Ac cc ch W) : ch.length ≤ cc := h.2.2.2.2.2.1
theorem PerilAt.c0 (h : PerilAt g d A c l m Aa ca pl Ac cc ch W) : W.cell? ⟨g, 0, none⟩ = some (.int .i64 d) := blk_cell h.1 0
theorem PerilAt.c1 (h : PerilAt g d A c l m Aa ca pl Ac cc ch W) : W.cell? ⟨g, 1, none⟩ = some (.slice A l.length c) := blk_cell h.1 1
theorem PerilAt.c2 (h : PerilAt g d A c l m Aa ca pl Ac cc ch W) : W.cell? ⟨g, 2, none⟩ = some (.int .i64 m) := blk_cell h.1 2
theorem PerilAt.c3 (h : PerilAt g d A c l m Aa ca pl Ac cc ch W) : W.cell? ⟨g, 3, none⟩ = some (.slice Aa pl.length ca) := blk_cell h.1 3
theorem PerilAt.c4 (h : PerilAt g d A c l m Aa ca pl Ac cc ch W) : W.cell? ⟨g, 4, none⟩ = some (.slice Ac ch.length cc) := blk_cell h.1 4
theorem PerilAt.check {k : Nat} {r : Int} (h : PerilAt g d A c l m Aa ca pl Ac cc ch W) (hr : risk_Check.f k d l m pl ch = some r) :
  Calls Tryd.prog 50 #[.agg #[.int .i64 d, .slice A l.length c, .int .i64 m, .slice Aa pl.length ca, .slice Ac ch.length cc]] W fun e w' => e = .returned (.int .i64 r) ∧ Below W.heap.size W w' :=
 risk_Check.calls k d A c l m Aa ca pl Ac cc ch r W h.hg h.hgr h.hc h.hpl h.hca h.hch h.hcc hr
end
set_option maxHeartbeats 4000000 in
set_option maxRecDepth 100000 in
/-- looser: a new function, that knows nothing. -/
theorem risk_looser.calls (d : Int) (A : Option Addr) (c : Nat) (l : List (List Int)) (m : Int) (Aa : Option Addr) (ca : Nat) (pl : List Int) (Ac : Option Addr) (cc : Nat) (ch : List Int) (can : Nat → Bool) (w : World) :
  Calls Tryd.prog 77 #[.agg #[.int .i64 d, .slice A l.length c, .int .i64 m, .slice Aa pl.length ca, .slice Ac ch.length cc]] w fun e w' => ∃ g bk bm, e = .returned (.func (.func 98) #[] #[.pointer (some ⟨g, 0, none⟩), .pointer (some ⟨bk, 0, none⟩)]) ∧ Looser w g bk bm d A c l m Aa ca pl Ac cc ch can 0 w' := by
 have hmf := run_mf Tryd.prog
 have hmm := @run_makeMap Tryd.prog
 have hu64 := Tryd.underlying64
 have hum := Tryd.underlying123
 go_enter Tryd.func77, Tryd.ntmps77
 go_wp2
 go_ret
 refine ⟨_, _, w.heap.size + 1, rfl, Nat.le_refl _, by omega, by omega, blk_alloc (blk_alloc (blk_new w _) _) _, ?_, ⟨.map [], ?_, Maps.isMap_empty, fun y _ hh => ?_⟩, below_alloc (below_alloc (below_alloc (Below.refl _ _) _) _) _⟩
 ·have := blk_new ((w.alloc (.cells #[.int .i64 d, .slice A l.length c, .int .i64 m, .slice Aa pl.length ca, .slice Ac ch.length cc] 64)).alloc (.map #[] 0)) (.cells #[.map (some (w.heap.size + 1))] 123)
  simpa using this
 ·have := (World.ownsMap_made (w.alloc (.cells #[.int .i64 d, .slice A l.length c, .int .i64 m, .slice Aa pl.length ca, .slice Ac ch.length cc] 64)) Tryd.prog 3 (plainElem (H := Unit) Tryd.prog 4)).alloc (.cells #[.map (some (w.heap.size + 1))] 123)
  simpa using this
 ·rw [Maps.has_eq] at hh
  simp at hh


/-! ### risk_Lost: function 41 -/
def okPeril (pl ch : List Int) : Bool := decide (pl.length ≤ 24) && (decide (ch.length ≤ 12) && ((pl.all fun x => decide (-1 ≤ x) && decide (x < 12)) && ch.all fun x => decide (0 ≤ x) && decide (x ≤ 16)))
theorem okPeril_iff {pl ch : List Int} : okPeril pl ch = true ↔ pl.length ≤ 24 ∧ ch.length ≤ 12 ∧ (∀ x ∈ pl, -1 ≤ x ∧ x < 12) ∧ ∀ x ∈ ch, 0 ≤ x ∧ x ≤ 16 := by
 simp [okPeril, List.all_eq_true]
/-- Does a set of pieces suffice, by the rows. -/
def canOf (rows : List (List Int)) (y : Nat) : Bool := (collectOk rows (y : Int) []).isSome
def risk_Lost.f (k : Nat) (a0_0 : Int) (l0_1 : List (List Int)) (a0_2 : Int) (l0_3 : List Int) (l0_4 : List Int) (a1 : Int) : Option (Bool × Int) :=
 (risk_Check.f k a0_0 l0_1 a0_2 l0_3 l0_4).bind fun e => if e = 0 then (if okPeril l0_3 l0_4 = true then (if a1 < 0 ∨ ((2 ^ l0_4.length : Nat) : Int) ≤ a1 then some (false, 1) else (code_Rows.f k a0_0 l0_1 a0_2).bind fun r => if okRows r.1 = true then some (!canOf r.1 (leftUpto l0_3 a1.toNat l0_3.length), 0) else none) else none) else some (false, e)
theorem pow_wrap (n : Nat) (h : n ≤ 24) : wrap64 ((2 : Int) ^ n) = ((2 ^ n : Nat) : Int) := by
 have h1 : 2 ^ n ≤ 2 ^ 24 := Nat.pow_le_pow_right (by decide) h
 rw [show (2 : Int) ^ n = ((2 ^ n : Nat) : Int) by simp]
 generalize 2 ^ n = z at h1
 unfold wrap64; omega
theorem pow12 {f n : Nat} (hn : n ≤ 12) (hf : f < 2 ^ n) : f < 2 ^ 12 := Nat.lt_of_lt_of_le hf (Nat.pow_le_pow_right (by decide) hn)
theorem rows_rec {k : Nat} {d : Int} {l : List (List Int)} {m : Int} {rows : List (List Int)} {e : Int} (h1 : code_Rows.f k d l m = some (rows, e)) (h2 : okRows rows = true) (y : Nat) : code_Recoverable.f k d l m (y : Int) = some (canOf rows y) := by
 unfold code_Recoverable.f canOf
 rw [h1]
 simp [h2]
set_option maxHeartbeats 4000000 in
set_option maxRecDepth 100000 in
theorem risk_Lost.calls (k : Nat) (a0_0 : Int) (A0_1 : Option Addr) (c0_1 : Nat) (l0_1 : List (List Int)) (a0_2 : Int) (A0_3 : Option Addr) (c0_3 : Nat) (l0_3 : List Int) (A0_4 : Option Addr) (c0_4 : Nat) (l0_4 : List Int) (a1 : Int) (r1 : Bool) (r2 : Int) (w : World) (hG : HG w) (hr0_1 : Kd.C (Kd.slice 3 (Kd.int .i64)) w A0_1 l0_1.length l0_1) (hc0_1 : l0_1.length ≤ c0_1) (hr0_3 : Kd.C (Kd.int .i64) w A0_3 l0_3.length l0_3) (hc0_3 : l0_3.length ≤ c0_3) (hr0_4 : Kd.C (Kd.int .i64) w A0_4 l0_4.length l0_4) (hc0_4 : l0_4.length ≤ c0_4) (h : risk_Lost.f k a0_0 l0_1 a0_2 l0_3 l0_4 a1 = some (r1, r2)) :
  Calls Tryd.prog 41 #[.agg #[.int .i64 a0_0, .slice A0_1 l0_1.length c0_1, .int .i64 a0_2, .slice A0_3 l0_3.length c0_3, .slice A0_4 l0_4.length c0_4], .int .i64 a1] w fun e w' => e = .returned (.tuple #[.bool r1, .int .i64 r2]) ∧ Below w.heap.size w w' := by
 have HK := Aside0.mk (show PerilAt w.heap.size a0_0 A0_1 c0_1 l0_1 a0_2 A0_3 c0_3 l0_3 A0_4 c0_4 l0_4 (w.alloc (.cells #[.int .i64 a0_0, .slice A0_1 l0_1.length c0_1, .int .i64 a0_2, .slice A0_3 l0_3.length c0_3, .slice A0_4 l0_4.length c0_4] 64)) from
  ⟨blk_new _ _, hc0_1, Kd.C_alloc hr0_1 _, hc0_3, Kd.C_alloc hr0_3 _, hc0_4, Kd.C_alloc hr0_4 _, hG.alloc _⟩)
 have HB := Aside0.mk (below_alloc (Below.refl w.heap.size w) (.cells #[.int .i64 a0_0, .slice A0_1 l0_1.length c0_1, .int .i64 a0_2, .slice A0_3 l0_3.length c0_3, .slice A0_4 l0_4.length c0_4] 64))
 have hu64 := Tryd.underlying64
 have hz0 := HK.out.c0
 have hz1 := HK.out.c1
 have hz2 := HK.out.c2
 have hz3 := HK.out.c3
 have hz4 := HK.out.c4
 clear hG hr0_1 hc0_1 hr0_3 hc0_3 hr0_4 hc0_4
 obtain ⟨e, he, h⟩ := Option.bind_eq_some_iff.1 h
 have HE := Aside0.mk he
 clear he
 by_cases e0 : e = 0
 ·subst e0
  rw [if_pos rfl] at h
  by_cases hok : okPeril l0_3 l0_4 = true
  ·rw [if_pos hok] at h
   obtain ⟨o1, o2, o3, o4⟩ := okPeril_iff.1 hok
   have hpw := pow_wrap l0_4.length (by omega)
   by_cases hneg : a1 < 0
   ·rw [if_pos (.inl hneg)] at h
    simp only [Option.some.injEq, Prod.mk.injEq] at h
    obtain ⟨rfl, rfl⟩ := h
    have b1 : decide (a1 < 0) = true := decide_eq_true hneg
    clear hpw o1 o2 o3 o4 hok
    go_enter Tryd.func41, Tryd.ntmps41
    go_wp2_with (first
     | (go_at_call 50; (with_reducible refine (HK.out.check HE.out).mono ?_); rintro e w1 ⟨rfl, hb⟩; have HKn := Aside0.mk (HK.out.below hb); have HBn := Aside0.mk (below_step HB.out hb); clear HK HB hz0 hz1 hz2 hz3 hz4 hb; have HK := HKn; have HB := HBn; clear HKn HBn; have hz0 := HK.out.c0; have hz1 := HK.out.c1; have hz2 := HK.out.c2; have hz3 := HK.out.c3; have hz4 := HK.out.c4))
    go_ret2
    exact ⟨rfl, HB.out⟩
   ·have b1 : decide (a1 < 0) = false := decide_eq_false hneg
    by_cases hbig : ((2 ^ l0_4.length : Nat) : Int) ≤ a1
    ·rw [if_pos (.inr hbig)] at h
     simp only [Option.some.injEq, Prod.mk.injEq] at h
     obtain ⟨rfl, rfl⟩ := h
     have b2 : decide (wrap64 ((2 : Int) ^ l0_4.length) ≤ a1) = true := decide_eq_true (by rw [hpw]; exact hbig)
     clear hpw o1 o3 o4 hok hbig hneg
     go_enter Tryd.func41, Tryd.ntmps41
     go_wp2_with (first
      | (go_at_call 50; (with_reducible refine (HK.out.check HE.out).mono ?_); rintro e w1 ⟨rfl, hb⟩; have HKn := Aside0.mk (HK.out.below hb); have HBn := Aside0.mk (below_step HB.out hb); clear HK HB hz0 hz1 hz2 hz3 hz4 hb; have HK := HKn; have HB := HBn; clear HKn HBn; have hz0 := HK.out.c0; have hz1 := HK.out.c1; have hz2 := HK.out.c2; have hz3 := HK.out.c3; have hz4 := HK.out.c4))
     go_ret2
     exact ⟨rfl, HB.out⟩
    ·rw [if_neg (fun hh => hh.elim hneg hbig)] at h
     have b2 : decide (wrap64 ((2 : Int) ^ l0_4.length) ≤ a1) = false := decide_eq_false (by rw [hpw]; exact hbig)
     obtain ⟨⟨rows, e1⟩, hrows, h⟩ := Option.bind_eq_some_iff.1 h
     dsimp only at h
     by_cases hokr : okRows rows = true
     ·rw [if_pos hokr] at h
      obtain ⟨f, rfl⟩ := Int.eq_ofNat_of_zero_le (show 0 ≤ a1 by omega)
      rw [Int.toNat_natCast] at h
      simp only [Option.some.injEq, Prod.mk.injEq] at h
      obtain ⟨h3, rfl⟩ := h
      have H3 := Aside0.mk h3
      have HF := Aside0.mk (pow12 o2 (show f < 2 ^ l0_4.length by omega))
      have HREC := Aside0.mk (fun y (_ : y < 2 ^ l0_3.length) => rows_rec hrows hokr y)
      have HPX := Aside0.mk (fun x hx => (o3 x hx).2)
      have HE98 := Aside0.mk (enters_of Tryd.func98 (by kernel_rfl) rfl)
      have HO1 := Aside0.mk o1
      clear hpw o1 o3 o4 hok hbig hneg h3 hrows hokr
      have HE98' := HE98.out
      go_enter Tryd.func41, Tryd.ntmps41
      go_wp2_with (first
       | (go_at_call 50; (with_reducible refine (HK.out.check HE.out).mono ?_); rintro e w1 ⟨rfl, hb⟩; have HKn := Aside0.mk (HK.out.below hb); have HBn := Aside0.mk (below_step HB.out hb); clear HK HB hz0 hz1 hz2 hz3 hz4 hb; have HK := HKn; have HB := HBn; clear HKn HBn; have hz0 := HK.out.c0; have hz1 := HK.out.c1; have hz2 := HK.out.c2; have hz3 := HK.out.c3; have hz4 := HK.out.c4)
       | (go_at_call 77; (with_reducible refine (risk_looser.calls a0_0 A0_1 c0_1 l0_1 a0_2 A0_3 c0_3 l0_3 A0_4 c0_4 l0_4 (canOf rows) _).mono ?_); rintro e w2 ⟨g, bk, bm, rfl, hL⟩; have HL := Aside0.mk hL; clear hL hz0 hz1 hz2 hz3 hz4)
       | ((with_reducible refine (risk_looser_1.calls k _ g bk bm a0_0 A0_1 c0_1 l0_1 a0_2 A0_3 c0_3 l0_3 A0_4 c0_4 l0_4 (canOf rows) 0 f _ HK.out.hg HK.out.hgr HK.out.hc HK.out.hpl HK.out.hca HO1.out HPX.out HF.out HREC.out (by decide) HL.out).mono ?_); rintro e w3 ⟨rfl, hg3, hL3⟩; have HL3 := Aside0.mk hL3; clear hg3 hL3))
      go_ret2
      exact ⟨by rw [← H3.out]; rfl, below_step HB.out HL3.out.bel⟩
     ·rw [if_neg hokr] at h
      cases h
  ·rw [if_neg hok] at h
   cases h
 ·rw [if_neg e0] at h
  simp only [Option.some.injEq, Prod.mk.injEq] at h
  obtain ⟨rfl, rfl⟩ := h
  have b1 : (e == 0) = false := beq_eq_false_iff_ne.2 e0
  have b2 : (e != 0) = true := bne_iff_ne.2 e0
  clear e0
  go_enter Tryd.func41, Tryd.ntmps41
  go_wp2_with (first
   | (go_at_call 50; (with_reducible refine (HK.out.check HE.out).mono ?_); rintro e w1 ⟨rfl, hb⟩; have HKn := Aside0.mk (HK.out.below hb); have HBn := Aside0.mk (below_step HB.out hb); clear HK HB hz0 hz1 hz2 hz3 hz4 hb; have HK := HKn; have HB := HBn; clear HKn HBn; have hz0 := HK.out.c0; have hz1 := HK.out.c1; have hz2 := HK.out.c2; have hz3 := HK.out.c3; have hz4 := HK.out.c4))
  go_ret2
  exact ⟨rfl, HB.out⟩


/-! ### risk_Loss: function 42 -/
/-- The weight of a set of domains, by the first ones. -/
def wUpto (ch : List Int) (f : Nat) : Nat → Int
 | 0 => 1
 | j + 1 => wrap64 (wUpto ch f j * (if (f >>> j) % 2 = 0 then 16 - rd ch (j : Int) else rd ch (j : Int)))
def wOf (ch : List Int) (f : Nat) : Int := wUpto ch f ch.length
def lossUpto (can : Nat → Bool) (pl ch : List Int) : Nat → Int
 | 0 => 0
 | f + 1 => if 0 < wOf ch f ∧ can (leftUpto pl f pl.length) = false then wrap64 (lossUpto can pl ch f + wOf ch f) else lossUpto can pl ch f
def risk_Loss.f (k : Nat) (a0_0 : Int) (l0_1 : List (List Int)) (a0_2 : Int) (l0_3 : List Int) (l0_4 : List Int) : Option (Int × Int) :=
 (risk_Check.f k a0_0 l0_1 a0_2 l0_3 l0_4).bind fun e => if e = 0 then (if okPeril l0_3 l0_4 = true then (code_Rows.f k a0_0 l0_1 a0_2).bind fun r => if okRows r.1 = true then some (lossUpto (canOf r.1) l0_3 l0_4 (2 ^ l0_4.length), 0) else none else none) else some (0, e)
set_option maxHeartbeats 4000000 in
set_option maxRecDepth 100000 in
theorem risk_Loss.calls (k : Nat) (a0_0 : Int) (A0_1 : Option Addr) (c0_1 : Nat) (l0_1 : List (List Int)) (a0_2 : Int) (A0_3 : Option Addr) (c0_3 : Nat) (l0_3 : List Int) (A0_4 : Option Addr) (c0_4 : Nat) (l0_4 : List Int) (r1 : Int) (r2 : Int) (w : World) (hG : HG w) (hr0_1 : Kd.C (Kd.slice 3 (Kd.int .i64)) w A0_1 l0_1.length l0_1) (hc0_1 : l0_1.length ≤ c0_1) (hr0_3 : Kd.C (Kd.int .i64) w A0_3 l0_3.length l0_3) (hc0_3 : l0_3.length ≤ c0_3) (hr0_4 : Kd.C (Kd.int .i64) w A0_4 l0_4.length l0_4) (hc0_4 : l0_4.length ≤ c0_4) (h : risk_Loss.f k a0_0 l0_1 a0_2 l0_3 l0_4 = some (r1, r2)) :
  Calls Tryd.prog 42 #[.agg #[.int .i64 a0_0, .slice A0_1 l0_1.length c0_1, .int .i64 a0_2, .slice A0_3 l0_3.length c0_3, .slice A0_4 l0_4.length c0_4]] w fun e w' => e = .returned (.tuple #[.int .i64 r1, .int .i64 r2]) ∧ Below w.heap.size w w' := by
 have HK := Aside0.mk (show PerilAt w.heap.size a0_0 A0_1 c0_1 l0_1 a0_2 A0_3 c0_3 l0_3 A0_4 c0_4 l0_4 (w.alloc (.cells #[.int .i64 a0_0, .slice A0_1 l0_1.length c0_1, .int .i64 a0_2, .slice A0_3 l0_3.length c0_3, .slice A0_4 l0_4.length c0_4] 64)) from
  ⟨blk_new _ _, hc0_1, Kd.C_alloc hr0_1 _, hc0_3, Kd.C_alloc hr0_3 _, hc0_4, Kd.C_alloc hr0_4 _, hG.alloc _⟩)
 have HB := Aside0.mk (below_alloc (Below.refl w.heap.size w) (.cells #[.int .i64 a0_0, .slice A0_1 l0_1.length c0_1, .int .i64 a0_2, .slice A0_3 l0_3.length c0_3, .slice A0_4 l0_4.length c0_4] 64))
 have hu64 := Tryd.underlying64
 have hz0 := HK.out.c0
 have hz1 := HK.out.c1
 have hz2 := HK.out.c2
 have hz3 := HK.out.c3
 have hz4 := HK.out.c4
 clear hG hr0_1 hc0_1 hr0_3 hc0_3 hr0_4 hc0_4
 obtain ⟨e, he, h⟩ := Option.bind_eq_some_iff.1 h
 have HE := Aside0.mk he
 clear he
 by_cases e0 : e = 0
 ·subst e0
  rw [if_pos rfl] at h
  by_cases hok : okPeril l0_3 l0_4 = true
  ·rw [if_pos hok] at h
   obtain ⟨o1, o2, o3, o4⟩ := okPeril_iff.1 hok
   have hpw := pow_wrap l0_4.length (by omega)
   have hpl := Nat.pow_le_pow_right (n := 2) (by decide) o2
   obtain ⟨⟨rows, e1⟩, hrows, h⟩ := Option.bind_eq_some_iff.1 h
   dsimp only at h
   by_cases hokr : okRows rows = true
   ·rw [if_pos hokr] at h
    simp only [Option.some.injEq, Prod.mk.injEq] at h
    obtain ⟨h3, rfl⟩ := h
    have H3 := Aside0.mk h3
    have HREC := Aside0.mk (fun y (_ : y < 2 ^ l0_3.length) => rows_rec hrows hokr y)
    have HPX := Aside0.mk (fun x hx => (o3 x hx).2)
    have HCX := Aside0.mk o4
    have HE98 := (enters_of Tryd.func98 (by kernel_rfl) rfl)
    have HO1 := Aside0.mk o1
    have HPW := Aside0.mk hpw
    have HPL := Aside0.mk hpl
    clear hpw o1 o3 o4 hok h3 hrows hokr hpl
    go_enter Tryd.func42, Tryd.ntmps42
    go_upto_block 0 with (first
     | (go_at_call 50; (with_reducible refine (HK.out.check HE.out).mono ?_); rintro e w1 ⟨rfl, hb⟩; have HKn := Aside0.mk (HK.out.below hb); have HBn := Aside0.mk (below_step HB.out hb); clear HK HB hz0 hz1 hz2 hz3 hz4 hb; have HK := HKn; have HB := HBn; clear HKn HBn; have hz0 := HK.out.c0; have hz1 := HK.out.c1; have hz2 := HK.out.c2; have hz3 := HK.out.c3; have hz4 := HK.out.c4)
     | (go_at_call 77; (with_reducible refine (risk_looser.calls a0_0 A0_1 c0_1 l0_1 a0_2 A0_3 c0_3 l0_3 A0_4 c0_4 l0_4 (canOf rows) _).mono ?_); rintro e w2 ⟨g, bk, bm, rfl, hL⟩; have HL := Aside0.mk hL; clear hL hz0 hz1 hz2 hz3 hz4; have hz4 := (HK.out.below HL.out.bel).c4))
    rw [HPW.out]
    obtain ⟨T, hT⟩ : ∃ T : Nat, T = 2 ^ l0_4.length := ⟨_, rfl⟩
    rw [← hT]
    have HT := Aside0.mk hT
    have hT12 : T ≤ 4096 := by rw [hT]; exact HPL.out
    clear hT HPL
    go_wp2
    go_loopw [6, 22] (fun y v W => ∃ f : Nat, f ≤ T ∧ v = .int .i64 (f : Int) ∧ y = .int .i64 (lossUpto (canOf rows) l0_3 l0_4 f) ∧ Aside0 (Looser w1 g bk bm a0_0 A0_1 c0_1 l0_1 a0_2 A0_3 c0_3 l0_3 A0_4 c0_4 l0_4 (canOf rows) f W)) (fun _ v _ => T - (intOf v).toNat)
    case atStart => exact ⟨0, Nat.zero_le _, rfl, rfl, HL⟩
    case round =>
     clear hz4 HL
     obtain ⟨wo, rfl⟩ : ∃ wo : World, wo = wr := ⟨_, rfl⟩
     obtain ⟨f, hf, rfl, rfl, HLf⟩ := hrel
     by_cases hlt : f < T
     ·have hz4 := (HK.out.below HLf.out.bel).c4
      have HLS := Aside0.mk (show lossUpto (canOf rows) l0_3 l0_4 (f + 1) = if 0 < wOf l0_4 f ∧ canOf rows (leftUpto l0_3 f l0_3.length) = false then wrap64 (lossUpto (canOf rows) l0_3 l0_4 f + wOf l0_4 f) else lossUpto (canOf rows) l0_3 l0_4 f from rfl)
      have HF12 := Aside0.mk (show f < 2 ^ 12 by have : (2 : Nat) ^ 12 = 4096 := rfl; omega)
      have HF6 := Aside0.mk (show f < 1000000 by omega)
      have HCH := Aside0.mk (Kd.C_below HK.out.hch HLf.out.bel)
      generalize lossUpto (canOf rows) l0_3 l0_4 f = lu at HLS ⊢
      go_wp2
      go_loop [8, 28] (fun y v => ∃ j : Nat, j ≤ l0_4.length ∧ v = .int .i64 (j : Int) ∧ y = .int .i64 (wUpto l0_4 f j)) (fun _ v => l0_4.length - (intOf v).toNat)
      case atStart => exact ⟨0, Nat.zero_le _, rfl, rfl⟩
      case round =>
       obtain ⟨j, hj, rfl, rfl⟩ := hrel
       by_cases hlt2 : j < l0_4.length
       ·obtain ⟨ad, e4, hx⟩ := at_int_nat HCH.out j hlt2
        have hcx := HCX.out _ (rd_mem hlt2)
        have HWS := Aside0.mk (show wUpto l0_4 f (j + 1) = wrap64 (wUpto l0_4 f j * (if (f >>> j) % 2 = 0 then 16 - rd l0_4 (j : Int) else rd l0_4 (j : Int))) from rfl)
        have hbt := bit_eq f j (Nat.lt_trans HF12.out (by decide))
        have hbl : (f >>> j) % 2 < 2 := Nat.mod_lt _ (by decide)
        generalize wUpto l0_4 f j = wu at HWS ⊢
        generalize rd l0_4 (j : Int) = x at hx hcx HWS
        obtain ⟨hc0, hc1⟩ := hcx
        generalize (f >>> j) % 2 = bt at hbt hbl HWS
        subst e4
        have hj64 : (j : Int) < 64 := by omega
        by_cases hb : bt = 0
        ·subst hb
         have hws := HWS.out
         rw [if_pos rfl] at hws
         have HWS2 := Aside0.mk hws
         have hbt0 : Go.bits .and .i64 ((f : Int) / 2 ^ j) 1 = 0 := hbt
         clear hws hbt
         go_wp2
         go_round
         case rel => exact ⟨j + 1, by omega, by go_num, by rw [HWS2.out]⟩
         case measure => simp [intOf]; omega
        ·obtain rfl : bt = 1 := by omega
         have hws := HWS.out
         rw [if_neg (by omega)] at hws
         have HWS2 := Aside0.mk hws
         have hbt0 : Go.bits .and .i64 ((f : Int) / 2 ^ j) 1 = 1 := hbt
         clear hws hbt
         go_wp2
         go_round
         case rel => exact ⟨j + 1, by omega, by go_num, by rw [HWS2.out]⟩
         case measure => simp [intOf]; omega
       ·obtain rfl : j = l0_4.length := by omega
        have HWO := Aside0.mk (show wOf l0_4 f = wUpto l0_4 f l0_4.length from rfl)
        generalize wUpto l0_4 f l0_4.length = wt at HWO ⊢
        have hls := HLS.out
        rw [HWO.out] at hls
        have HLN := Aside0.mk (HLf.out.mono (Nat.le_succ f))
        by_cases hw0 : 0 < wt
        ·have hd0 : decide (0 < wt) = true := decide_eq_true hw0
         generalize hcy : canOf rows (leftUpto l0_3 f l0_3.length) = cy at hls
         have HCY := Aside0.mk hcy
         clear hcy
         cases cy with
         | false =>
          rw [if_pos ⟨hw0, rfl⟩] at hls
          have HLS2 := Aside0.mk hls
          clear hls hw0
          go_wp2_with (first | ((with_reducible refine (risk_looser_1.calls k _ g bk bm a0_0 A0_1 c0_1 l0_1 a0_2 A0_3 c0_3 l0_3 A0_4 c0_4 l0_4 (canOf rows) f f _ HK.out.hg HK.out.hgr HK.out.hc HK.out.hpl HK.out.hca HO1.out HPX.out HF12.out HREC.out HF6.out HLf.out).mono ?_); rintro e w3 ⟨rfl, hg3, hL3⟩; have HL3 := Aside0.mk hL3; clear hg3 hL3; rw [HCY.out]; go_simp))
          go_roundw
          case rel => exact ⟨f + 1, by omega, by go_num, by rw [HLS2.out], HL3⟩
          case measure => simp [intOf]; omega
         | true =>
          rw [if_neg (fun hh => by cases hh.2)] at hls
          have HLS2 := Aside0.mk hls
          clear hls hw0
          go_wp2_with (first | ((with_reducible refine (risk_looser_1.calls k _ g bk bm a0_0 A0_1 c0_1 l0_1 a0_2 A0_3 c0_3 l0_3 A0_4 c0_4 l0_4 (canOf rows) f f _ HK.out.hg HK.out.hgr HK.out.hc HK.out.hpl HK.out.hca HO1.out HPX.out HF12.out HREC.out HF6.out HLf.out).mono ?_); rintro e w3 ⟨rfl, hg3, hL3⟩; have HL3 := Aside0.mk hL3; clear hg3 hL3; rw [HCY.out]; go_simp))
          go_roundw
          case rel => exact ⟨f + 1, by omega, by go_num, by rw [HLS2.out], HL3⟩
          case measure => simp [intOf]; omega
        ·have hd0 : decide (0 < wt) = false := decide_eq_false hw0
         rw [if_neg (fun hh => hw0 hh.1)] at hls
         have HLS2 := Aside0.mk hls
         clear hls hw0
         go_wp2
         go_roundw
         case rel => exact ⟨f + 1, by omega, by go_num, by rw [HLS2.out], HLN⟩
         case measure => simp [intOf]; omega
     ·obtain rfl : f = T := by omega
      rw [HT.out, H3.out]
      go_wp2
      go_ret2
      exact ⟨rfl, below_step HB.out HLf.out.bel⟩
   ·rw [if_neg hokr] at h
    cases h
  ·rw [if_neg hok] at h
   cases h
 ·rw [if_neg e0] at h
  simp only [Option.some.injEq, Prod.mk.injEq] at h
  obtain ⟨rfl, rfl⟩ := h
  have b1 : (e == 0) = false := beq_eq_false_iff_ne.2 e0
  have b2 : (e != 0) = true := bne_iff_ne.2 e0
  clear e0
  go_enter Tryd.func42, Tryd.ntmps42
  go_wp2_with (first
   | (go_at_call 50; (with_reducible refine (HK.out.check HE.out).mono ?_); rintro e w1 ⟨rfl, hb⟩; have HKn := Aside0.mk (HK.out.below hb); have HBn := Aside0.mk (below_step HB.out hb); clear HK HB hz0 hz1 hz2 hz3 hz4 hb; have HK := HKn; have HB := HBn; clear HKn HBn; have hz0 := HK.out.c0; have hz1 := HK.out.c1; have hz2 := HK.out.c2; have hz3 := HK.out.c3; have hz4 := HK.out.c4))
  go_ret2
  exact ⟨rfl, HB.out⟩
end Go.Proofs.YtkadfidmfnpohaaDoor.XB
