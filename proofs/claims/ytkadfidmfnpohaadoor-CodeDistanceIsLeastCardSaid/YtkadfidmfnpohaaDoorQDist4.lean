/- Lemmas for the claim Dist: functions of the program as plain Lean functions, each with its contract, and what is proved of them. -/
import Derived.Test.YtkadfidmfnpohaaDoorQDist1
import Derived.Test.YtkadfidmfnpohaaDoorQDist3
import Derived.Test.YtkadfidmfnpohaaDoorQDist2
namespace Go.Proofs.YtkadfidmfnpohaaDoor.XB
open Go.RowKit Go.Proofs.YtkadfidmfnpohaaDoorW.PrintWords Go.Proofs.YtkadfidmfnpohaaDoorW.PrintLast Go.Proofs.YtkadfidmfnpohaaDoorW.PrintMore
set_option linter.unusedVariables false
set_option linter.unusedSimpArgs false

/-! ### quietusref07_Rank: function 71 -/
mutual
def quietusref07_Rank.l0 : Nat → Int → List (List Int) → Int → Int → Option (Int)
 | 0, _, _, _, _ => none
 | k + 1, x1, x5, x6, x7 => if x7 < x1 then (quietusref07_Rank.l1 k x1 x5 x6 x7 (-1) 0) else (some x6)
def quietusref07_Rank.l1 : Nat → Int → List (List Int) → Int → Int → Int → Int → Option (Int)
 | 0, _, _, _, _, _, _ => none
 | k + 1, x1, x5, x6, x7, x8, x9 => if x9 < (x5.length : Int) then (quietusref07_Rank.j2 k x1 x5 x6 x7 x8 x9 (decide (x8 < 0))) else (quietusref07_Rank.j2 k x1 x5 x6 x7 x8 x9 false)
def quietusref07_Rank.j2 : Nat → Int → List (List Int) → Int → Int → Int → Int → Bool → Option (Int)
 | 0, _, _, _, _, _, _, _ => none
 | k + 1, x1, x5, x6, x7, x8, x9, x25 => if x25 = true then (if 0 ≤ x9 then (if x9 < (x5.length : Int) then (if 0 ≤ x7 then (if x7 < ((rd_L4 x5 x9).length : Int) then (if (rd (rd_L4 x5 x9) x7) = 0 then (quietusref07_Rank.l1 k x1 x5 x6 x7 x8 (wrap64 (x9 + 1))) else (quietusref07_Rank.l1 k x1 x5 x6 x7 x9 (wrap64 (x9 + 1)))) else (none)) else (none)) else (none)) else (none)) else (if x8 < 0 then (quietusref07_Rank.l0 k x1 x5 x6 (wrap64 (x7 + 1))) else (quietusref07_Rank.l2 k x1 x5 (wrap64 (x6 + 1)) x7 x8 ([] : List (List Int)) 0))
def quietusref07_Rank.l2 : Nat → Int → List (List Int) → Int → Int → Int → List (List Int) → Int → Option (Int)
 | 0, _, _, _, _, _, _, _ => none
 | k + 1, x1, x5, x6, x7, x8, x10, x11 => if x11 < (x5.length : Int) then (if x11 = x8 then (quietusref07_Rank.l2 k x1 x5 x6 x7 x8 x10 (wrap64 (x11 + 1))) else (if 0 ≤ x11 then (if 0 ≤ x8 then (if x8 < (x5.length : Int) then ((quietusref07_less.f k (rd_L4 x5 x11) (rd_L4 x5 x8) x7).bind fun t209 => (if x10.length < 5864062014805 then (quietusref07_Rank.l2 k x1 x5 x6 x7 x8 (x10 ++ [t209]) (wrap64 (x11 + 1))) else (none))) else (none)) else (none)) else (none))) else (quietusref07_Rank.l0 k x1 x10 x6 (wrap64 (x7 + 1)))
end
def quietusref07_Rank.f (k : Nat) (l0 : List (List Int)) (a1 : Int) : Option (Int) := quietusref07_Rank.l0 k a1 l0 0 0
def quietusref07_Rank.T19 : Bool × List (List Nat × List Nat) := (true, [([], []), ([], []), ([], []), ([1, 2], [1, 2]), ([3], [3]), ([], []), ([], []), ([5, 6], [5, 6]), ([7], [7]), ([], []), ([4, 8, 9], [4, 8, 9]), ([10], [10]), ([0, 11, 10], [0, 11]), ([12, 12, 0, 1, 2, 3, 4, 5, 6, 7, 8, 9, 10, 11, 12], [0, 12])])
def quietusref07_Rank.B19 : List Nat := [0, 0, 0, 6, 14, 0, 0, 96, 224, 0, 1022, 2046, 4095, 8191]
theorem quietusref07_Rank.tab19 : rtab .any (opsOf Tryd.f71 19) = quietusref07_Rank.T19 := by kernel_rfl
theorem quietusref07_Rank.bits19 : waitsOk quietusref07_Rank.T19.2 quietusref07_Rank.B19 = true := by kernel_rfl
set_option maxHeartbeats 8000000 in
set_option maxRecDepth 100000 in
theorem quietusref07_Rank.calls (k : Nat) (P0_ : Nat → Prop) (A0 : Option Addr) (c0 : Nat) (l0 : List (List Int)) (a1 : Int) (r : Int) (w : World) (hG : HG w) (hs0 : Kd.V (Kd.slice 5 (Kd.int .u8)) 57 w w.heap.size (fun k_ => P0_ k_) (.slice A0 l0.length c0) l0) (h : quietusref07_Rank.f k l0 a1 = some r) :
  Calls Tryd.prog 71 #[.slice A0 l0.length c0, .int .i64 a1] w fun e w' => e = .returned (.int .i64 r) ∧ Below w.heap.size w w' := by
 have HGw := Aside0.mk hG
 clear hG
 have HO0 := Aside0.mk (show Kd.V (Kd.slice 5 (Kd.int .u8)) 57 w w.heap.size (fun k_ => (P0_ k_ ∨ w.heap.size ≤ k_)) (.slice A0 l0.length c0) l0 from Kd.V_mono hs0 (fun k_ hk => .inl hk))
 have HB := Aside0.mk (Below.refl w.heap.size w)
 have H : (quietusref07_Rank.l0 k a1 l0 0 0) = some r := h
 clear h
 have H' := Aside0.mk H
 clear H
 go_enter Tryd.func71, Tryd.ntmps71
 go_wp2
 go_loopg [5, 6, 7] k (fun kq v5 v6 v7 w' => ∃ (x5_1 : List (List Int)) (x6_1 : Int) (x7_1 : Int), v6 = .int .i64 x6_1 ∧ v7 = .int .i64 x7_1 ∧ Aside0 (quietusref07_Rank.l0 kq a1 x5_1 x6_1 x7_1 = some r) ∧ Aside0 (kq ≤ k) ∧ Aside0 (Kd.V (Kd.slice 5 (Kd.int .u8)) 57 w' w.heap.size (fun k_ => (P0_ k_ ∨ w.heap.size ≤ k_)) v5 x5_1) ∧ Aside0 (Below w.heap.size w w'))
 case atStart => exact ⟨(l0), (0), (0), (by first | rfl | (simp; done) | (simp [*]; done)), (by first | rfl | (simp; done) | (simp [*]; done)), H', ⟨Nat.le_refl _⟩, ⟨by (with_reducible repeat (first | apply Kd.V_alloc | apply Kd.V_drewN | apply Kd.V_drew)); exact HO0.out⟩, ⟨by repeat (first | (with_reducible first | exact HB.out | apply below_alloc | apply pw_below_drewN | apply below_drew1) | exact HB.out)⟩⟩
 case round =>
  clear H'
  try clear p2
  obtain ⟨x5_1, x6_1, x7_1, rfl, rfl, HA, HK1, HO_5, HB⟩ := hrel
  cases gk with
  | zero => exact absurd HA.out (by simp [quietusref07_Rank.l0])
  | succ k1 =>
   have H := HA.out
   clear HA
   simp only [quietusref07_Rank.l0] at H
   by_cases c3 : x7_1 < a1
   ·rw [if_pos c3] at H
    have c3b0 : decide (x7_1 < a1) = true := decide_eq_true c3
    clear c3
    have H' := Aside0.mk H
    clear H
    go_wp2
    go_loopg [8, 9] k1 (fun kq v8 v9 w' => ∃ (x8_2 : Int) (x9_2 : Int), v8 = .int .i64 x8_2 ∧ v9 = .int .i64 x9_2 ∧ Aside0 (quietusref07_Rank.l1 kq a1 x5_1 x6_1 x7_1 x8_2 x9_2 = some r) ∧ Aside0 (kq ≤ k1) ∧ Aside0 (Kd.V (Kd.slice 5 (Kd.int .u8)) 57 w' w.heap.size (fun k_ => (P0_ k_ ∨ w.heap.size ≤ k_)) u5 x5_1) ∧ Aside0 (Below w.heap.size w w'))
    case atStart => exact ⟨((-1)), (0), (by first | rfl | (simp; done) | (simp [*]; done)), (by first | rfl | (simp; done) | (simp [*]; done)), H', ⟨Nat.le_refl _⟩, ⟨by (with_reducible repeat (first | apply Kd.V_alloc | apply Kd.V_drewN | apply Kd.V_drew)); exact HO_5.out⟩, ⟨by repeat (first | (with_reducible first | exact HB.out | apply below_alloc | apply pw_below_drewN | apply below_drew1) | exact HB.out)⟩⟩
    case round =>
     clear H'
     try clear p2
     try clear c3
     try clear c3b0
     try clear p2
     obtain ⟨x8_2, x9_2, rfl, rfl, HA, HK2, HO_5, HB⟩ := hrel
     cases gk with
     | zero => exact absurd HA.out (by simp [quietusref07_Rank.l1])
     | succ k2 =>
      have H := HA.out
      clear HA
      simp only [quietusref07_Rank.l1] at H
      have HC4 := Aside0.mk H
      clear H
      go_upto_region 8 with (fail)
      go_cut [25] (fun v25 wc => ∃ (kq : Nat) (x25_3 : Bool), v25 = .bool x25_3 ∧ Aside0 (quietusref07_Rank.j2 kq a1 x5_1 x6_1 x7_1 x8_2 x9_2 x25_3 = some r) ∧ Aside0 (kq ≤ k2) ∧ Aside0 (Kd.V (Kd.slice 5 (Kd.int .u8)) 57 wc w.heap.size (fun k_ => (P0_ k_ ∨ w.heap.size ≤ k_)) u5 x5_1) ∧ Aside0 (Below w.heap.size w wc))
      case first =>
       have H := HC4.out
       clear HC4
       by_cases c5 : x9_2 < (x5_1.length : Int)
       ·rw [if_pos c5] at H
        have c5b0 : decide (x9_2 < (x5_1.length : Int)) = true := decide_eq_true c5
        clear c5
        (first | rw [c5b0] | (simp only [i64_w, i32_w]; rw [c5b0]) | skip)
        have H' := Aside0.mk H
        clear H
        obtain ⟨Ao6, co6, eo6⟩ := Kd.V_slice HO_5.out
        subst eo6
        go_wp2
        go_meet
        case rel => exact ⟨_, (decide (x8_2 < 0)), (by first | rfl | (simp; done) | (simp [*]; done)), H', ⟨by have := HK1.out; have := HK2.out; first | omega | exact Nat.le_refl _⟩, ⟨by (with_reducible repeat (first | apply Kd.V_alloc | apply Kd.V_drewN | apply Kd.V_drew)); exact HO_5.out⟩, ⟨by repeat (first | (with_reducible first | exact HB.out | apply below_alloc | apply pw_below_drewN | apply below_drew1) | exact HB.out)⟩⟩
       ·rw [if_neg c5] at H
        have c5b0 : decide (x9_2 < (x5_1.length : Int)) = false := decide_eq_false c5
        clear c5
        (first | rw [c5b0] | (simp only [i64_w, i32_w]; rw [c5b0]) | skip)
        have H' := Aside0.mk H
        clear H
        obtain ⟨Ao7, co7, eo7⟩ := Kd.V_slice HO_5.out
        subst eo7
        go_wp2
        go_meet
        case rel => exact ⟨_, (false), (by first | rfl | (simp; done) | (simp [*]; done)), H', ⟨by have := HK1.out; have := HK2.out; first | omega | exact Nat.le_refl _⟩, ⟨by (with_reducible repeat (first | apply Kd.V_alloc | apply Kd.V_drewN | apply Kd.V_drew)); exact HO_5.out⟩, ⟨by repeat (first | (with_reducible first | exact HB.out | apply below_alloc | apply pw_below_drewN | apply below_drew1) | exact HB.out)⟩⟩
      case rest =>
       clear HC4
       try clear p2
       try clear c3
       try clear c3b0
       try clear c5
       try clear c5b0
       try clear c7
       try clear p2
       obtain ⟨kq, x25_3, rfl, HA, HJ3, HO_5, HB⟩ := hcut
       cases kq with
       | zero => exact absurd HA.out (by simp [quietusref07_Rank.j2])
       | succ kj3 =>
        have H := HA.out
        clear HA
        simp only [quietusref07_Rank.j2] at H
        by_cases c8 : x25_3 = true
        ·subst c8
         have H1 : (if 0 ≤ x9_2 then (if x9_2 < (x5_1.length : Int) then (if 0 ≤ x7_1 then (if x7_1 < ((rd_L4 x5_1 x9_2).length : Int) then (if (rd (rd_L4 x5_1 x9_2) x7_1) = 0 then (quietusref07_Rank.l1 kj3 a1 x5_1 x6_1 x7_1 x8_2 (wrap64 (x9_2 + 1))) else (quietusref07_Rank.l1 kj3 a1 x5_1 x6_1 x7_1 x9_2 (wrap64 (x9_2 + 1)))) else (none)) else (none)) else (none)) else (none)) = some r := by rw [if_pos rfl] at H; exact H
         clear H
         have H := H1
         clear H1
         by_cases c9 : 0 ≤ x9_2
         ·rw [if_pos c9] at H
          have c9b0 : decide (0 ≤ x9_2) = true := decide_eq_true c9
          clear c9
          by_cases c10 : x9_2 < (x5_1.length : Int)
          ·rw [if_pos c10] at H
           have c10b0 : decide (x9_2 < (x5_1.length : Int)) = true := decide_eq_true c10
           clear c10
           by_cases c11 : 0 ≤ x7_1
           ·rw [if_pos c11] at H
            have c11b0 : decide (0 ≤ x7_1) = true := decide_eq_true c11
            clear c11
            by_cases c12 : x7_1 < ((rd_L4 x5_1 x9_2).length : Int)
            ·rw [if_pos c12] at H
             have c12b0 : decide (x7_1 < ((rd_L4 x5_1 x9_2).length : Int)) = true := decide_eq_true c12
             clear c12
             by_cases c13 : (rd (rd_L4 x5_1 x9_2) x7_1) = 0
             ·rw [if_pos c13] at H
              have c13b0 : ((rd (rd_L4 x5_1 x9_2) x7_1) == 0) = true := beq_iff_eq.mpr c13
              have c13b1 : ((rd (rd_L4 x5_1 x9_2) x7_1) != 0) = false := bne_eq_false_iff_eq.mpr c13
              clear c13
              have H' := Aside0.mk H
              clear H
              obtain ⟨Ao14, co14, eo14⟩ := Kd.V_slice HO_5.out
              subst eo14
              have p205 : 0 ≤ (x9_2 : Int) := of_decide_eq_true (by first | (with_reducible assumption) | assumption)
              have q205 : x9_2 < (x5_1.length : Int) := of_decide_eq_true (by first | (with_reducible assumption) | assumption)
              obtain ⟨ad205, A205_0, c205_0, e205, hx205_0, hl205_0, hi205_0⟩ := at_L4 (Kd.V_reads' HO_5.out).2.2 x9_2 p205 q205
              cases e205
              obtain ⟨ce205, hce205, hMe205, hcc205⟩ := Kd.V_get HO_5.out [] x9_2 p205 (by first | exact q205 | exact of_decide_eq_true (by first | (with_reducible assumption) | assumption) | (have e_ := (Kd.V_reads' HO_5.out).1; omega))
              obtain ⟨ua205_0, uc205_0, rfl, ul205_0, ge205_0⟩ := Kd.FK_slice_open hMe205
              have hv205_0 := hcc205 0 _ rfl
              rw [Nat.add_zero, show ((Kd.slice 5 (Kd.int .u8))).sz = 1 from rfl, Nat.mul_one] at hv205_0
              replace hv205_0 := Option.some.inj (hv205_0.symm.trans hx205_0)
              injection hv205_0 with hva_ hvn_ hvc_
              rw [hva_] at ge205_0
              rw [hvc_] at ul205_0
              have HL205_0 := Aside0.mk (show Kd.V (Kd.int .u8) 5 _ w.heap.size _ _ (rd_L4 x5_1 x9_2) from Kd.V_mk ul205_0 ge205_0)
              clear hva_ hvn_ hvc_ ge205_0 ul205_0
              clear hcc205 hce205
              have HR205_0 := Aside0.mk hi205_0
              have HC205_0 := Aside0.mk hl205_0
              clear hi205_0 hl205_0
              replace p205 := eq_true p205
              replace q205 := eq_true q205
              have p206 : 0 ≤ (x7_1 : Int) := of_decide_eq_true (by first | (with_reducible assumption) | assumption)
              have q206 : x7_1 < ((rd_L4 x5_1 x9_2).length : Int) := of_decide_eq_true (by first | (with_reducible assumption) | assumption)
              obtain ⟨ad206, e206, hx206_0⟩ := Kd.at_int (by repeat (first | (with_reducible exact HR205_0.out) | (with_reducible refine Kd.C_alloc ?_ _) | (with_reducible refine Kd.C_drewN ?_ _) | (with_reducible refine Kd.C_drew ?_) | exact HR205_0.out)) x7_1 p206 q206
              cases e206
              replace p206 := eq_true p206
              replace q206 := eq_true q206
              go_wp2
              go_roundg kj3
              case measure => have := HK1.out; have := HK2.out; have := HJ3.out; omega
              case rel => exact ⟨(x8_2), (wrap64 (x9_2 + 1)), (by first | rfl | (simp; done) | (simp [*]; done)), (by first | rfl | (simp; done) | (simp [*]; done)), H', ⟨by have := HK1.out; have := HK2.out; have := HJ3.out; omega⟩, ⟨by (with_reducible repeat (first | apply Kd.V_alloc | apply Kd.V_drewN | apply Kd.V_drew)); exact HO_5.out⟩, ⟨by repeat (first | (with_reducible first | exact HB.out | apply below_alloc | apply pw_below_drewN | apply below_drew1) | exact HB.out)⟩⟩
             ·rw [if_neg c13] at H
              have c13b0 : ((rd (rd_L4 x5_1 x9_2) x7_1) == 0) = false := beq_eq_false_iff_ne.mpr c13
              have c13b1 : ((rd (rd_L4 x5_1 x9_2) x7_1) != 0) = true := bne_iff_ne.mpr c13
              have H' := Aside0.mk H
              clear H
              obtain ⟨Ao15, co15, eo15⟩ := Kd.V_slice HO_5.out
              subst eo15
              have p205 : 0 ≤ (x9_2 : Int) := of_decide_eq_true (by first | (with_reducible assumption) | assumption)
              have q205 : x9_2 < (x5_1.length : Int) := of_decide_eq_true (by first | (with_reducible assumption) | assumption)
              obtain ⟨ad205, A205_0, c205_0, e205, hx205_0, hl205_0, hi205_0⟩ := at_L4 (Kd.V_reads' HO_5.out).2.2 x9_2 p205 q205
              cases e205
              obtain ⟨ce205, hce205, hMe205, hcc205⟩ := Kd.V_get HO_5.out [] x9_2 p205 (by first | exact q205 | exact of_decide_eq_true (by first | (with_reducible assumption) | assumption) | (have e_ := (Kd.V_reads' HO_5.out).1; omega))
              obtain ⟨ua205_0, uc205_0, rfl, ul205_0, ge205_0⟩ := Kd.FK_slice_open hMe205
              have hv205_0 := hcc205 0 _ rfl
              rw [Nat.add_zero, show ((Kd.slice 5 (Kd.int .u8))).sz = 1 from rfl, Nat.mul_one] at hv205_0
              replace hv205_0 := Option.some.inj (hv205_0.symm.trans hx205_0)
              injection hv205_0 with hva_ hvn_ hvc_
              rw [hva_] at ge205_0
              rw [hvc_] at ul205_0
              have HL205_0 := Aside0.mk (show Kd.V (Kd.int .u8) 5 _ w.heap.size _ _ (rd_L4 x5_1 x9_2) from Kd.V_mk ul205_0 ge205_0)
              clear hva_ hvn_ hvc_ ge205_0 ul205_0
              clear hcc205 hce205
              have HR205_0 := Aside0.mk hi205_0
              have HC205_0 := Aside0.mk hl205_0
              clear hi205_0 hl205_0
              replace p205 := eq_true p205
              replace q205 := eq_true q205
              have p206 : 0 ≤ (x7_1 : Int) := of_decide_eq_true (by first | (with_reducible assumption) | assumption)
              have q206 : x7_1 < ((rd_L4 x5_1 x9_2).length : Int) := of_decide_eq_true (by first | (with_reducible assumption) | assumption)
              obtain ⟨ad206, e206, hx206_0⟩ := Kd.at_int (by repeat (first | (with_reducible exact HR205_0.out) | (with_reducible refine Kd.C_alloc ?_ _) | (with_reducible refine Kd.C_drewN ?_ _) | (with_reducible refine Kd.C_drew ?_) | exact HR205_0.out)) x7_1 p206 q206
              cases e206
              replace p206 := eq_true p206
              replace q206 := eq_true q206
              go_wp2
              go_roundg kj3
              case measure => have := HK1.out; have := HK2.out; have := HJ3.out; omega
              case rel => exact ⟨(x9_2), (wrap64 (x9_2 + 1)), (by first | rfl | (simp; done) | (simp [*]; done)), (by first | rfl | (simp; done) | (simp [*]; done)), H', ⟨by have := HK1.out; have := HK2.out; have := HJ3.out; omega⟩, ⟨by (with_reducible repeat (first | apply Kd.V_alloc | apply Kd.V_drewN | apply Kd.V_drew)); exact HO_5.out⟩, ⟨by repeat (first | (with_reducible first | exact HB.out | apply below_alloc | apply pw_below_drewN | apply below_drew1) | exact HB.out)⟩⟩
            ·rw [if_neg c12] at H
             exact absurd H (by simp)
           ·rw [if_neg c11] at H
            exact absurd H (by simp)
          ·rw [if_neg c10] at H
           exact absurd H (by simp)
         ·rw [if_neg c9] at H
          exact absurd H (by simp)
        ·replace c8 := Bool.eq_false_iff.mpr c8
         subst c8
         have H1 : (if x8_2 < 0 then (quietusref07_Rank.l0 kj3 a1 x5_1 x6_1 (wrap64 (x7_1 + 1))) else (quietusref07_Rank.l2 kj3 a1 x5_1 (wrap64 (x6_1 + 1)) x7_1 x8_2 ([] : List (List Int)) 0)) = some r := by rw [if_neg (show ¬ (false = true) by decide)] at H; exact H
         clear H
         have H := H1
         clear H1
         by_cases c16 : x8_2 < 0
         ·rw [if_pos c16] at H
          have c16b0 : decide (x8_2 < 0) = true := decide_eq_true c16
          clear c16
          have H' := Aside0.mk H
          clear H
          go_wp2
          go_roundg kj3
          case measure => have := HK1.out; have := HK2.out; have := HJ3.out; omega
          case rel => exact ⟨(x5_1), (x6_1), (wrap64 (x7_1 + 1)), (by first | rfl | (simp; done) | (simp [*]; done)), (by first | rfl | (simp; done) | (simp [*]; done)), H', ⟨by have := HK1.out; have := HK2.out; have := HJ3.out; omega⟩, ⟨by (with_reducible repeat (first | apply Kd.V_alloc | apply Kd.V_drewN | apply Kd.V_drew)); exact HO_5.out⟩, ⟨by repeat (first | (with_reducible first | exact HB.out | apply below_alloc | apply pw_below_drewN | apply below_drew1) | exact HB.out)⟩⟩
         ·rw [if_neg c16] at H
          have c16b0 : decide (x8_2 < 0) = false := decide_eq_false c16
          clear c16
          have H' := Aside0.mk H
          clear H
          go_wp2
          go_loopg [10, 11] kj3 (fun kq v10 v11 w' => ∃ (x10_4 : List (List Int)) (x11_4 : Int), v11 = .int .i64 x11_4 ∧ Aside0 (quietusref07_Rank.l2 kq a1 x5_1 (wrap64 (x6_1 + 1)) x7_1 x8_2 x10_4 x11_4 = some r) ∧ Aside0 (kq ≤ kj3) ∧ Aside0 (Kd.V (Kd.slice 5 (Kd.int .u8)) 57 w' w.heap.size (fun k_ => (P0_ k_ ∨ w.heap.size ≤ k_) ∧ some k_ ≠ (v10 : Value).ownBlock) u5 x5_1) ∧ Aside0 (Kd.S (Kd.slice 5 (Kd.int .u8)) 57 w' w.heap.size (fun k_ => (w.heap.size ≤ k_)) v10 x10_4) ∧ Aside0 (Below w.heap.size w w'))
          case atStart => exact ⟨(([] : List (List Int))), (0), (by first | rfl | (simp; done) | (simp [*]; done)), H', ⟨Nat.le_refl _⟩, ⟨by (with_reducible repeat (first | apply Kd.V_alloc | apply Kd.V_drewN | apply Kd.V_drew)); exact Kd.V_mono HO_5.out (fun _ hk => ⟨hk, (by simp [Value.ownBlock])⟩)⟩, ⟨by first | exact Kd.S_nil _ _ _ _ _ | exact Kd.N_nil _ _ _ _ _ | exact Kd.V_nil _ _ _ _ _ | exact Kd.Q_nil _ _ _ _ _ | exact Kd.R_nil _ _ _ _ _⟩, ⟨by repeat (first | (with_reducible first | exact HB.out | apply below_alloc | apply pw_below_drewN | apply below_drew1) | exact HB.out)⟩⟩
          case round =>
           clear H'
           try clear c1
           try clear c2
           try clear p2
           try clear q2
           try clear hx2
           try clear c3
           try clear c3b0
           try clear c5
           try clear c5b0
           try clear p6
           try clear c7
           try clear c8
           try clear c9
           try clear c9b0
           try clear c10
           try clear c10b0
           try clear c11
           try clear c11b0
           try clear c12
           try clear c12b0
           try clear c13
           try clear c13b0
           try clear c13b1
           try clear c16
           try clear c16b0
           try clear hx205_0
           try clear hx206_0
           try clear p2
           try clear p205
           try clear p206
           try clear q205
           try clear q206
           obtain ⟨x10_4, x11_4, rfl, HA, HK4, HO_5, HO_10, HB⟩ := hrel
           cases gk with
           | zero => exact absurd HA.out (by simp [quietusref07_Rank.l2])
           | succ k4 =>
            have H := HA.out
            clear HA
            simp only [quietusref07_Rank.l2] at H
            by_cases c17 : x11_4 < (x5_1.length : Int)
            ·rw [if_pos c17] at H
             have c17b0 : decide (x11_4 < (x5_1.length : Int)) = true := decide_eq_true c17
             clear c17
             by_cases c18 : x11_4 = x8_2
             ·rw [if_pos c18] at H
              have c18b0 : (x11_4 == x8_2) = true := beq_iff_eq.mpr c18
              have c18b1 : (x11_4 != x8_2) = false := bne_eq_false_iff_eq.mpr c18
              clear c18
              have H' := Aside0.mk H
              clear H
              obtain ⟨Ao19, co19, eo19⟩ := Kd.V_slice HO_5.out
              subst eo19
              go_wp2
              go_roundg k4
              case measure => have := HK1.out; have := HK2.out; have := HJ3.out; have := HK4.out; omega
              case rel => exact ⟨(x10_4), (wrap64 (x11_4 + 1)), (by first | rfl | (simp; done) | (simp [*]; done)), H', ⟨by have := HK1.out; have := HK2.out; have := HJ3.out; have := HK4.out; omega⟩, ⟨by (with_reducible repeat (first | apply Kd.V_alloc | apply Kd.V_drewN | apply Kd.V_drew)); exact HO_5.out⟩, ⟨by (with_reducible repeat (first | apply Kd.S_alloc | apply Kd.S_drewN | apply Kd.S_drew)); exact HO_10.out⟩, ⟨by repeat (first | (with_reducible first | exact HB.out | apply below_alloc | apply pw_below_drewN | apply below_drew1) | exact HB.out)⟩⟩
             ·rw [if_neg c18] at H
              have c18b0 : (x11_4 == x8_2) = false := beq_eq_false_iff_ne.mpr c18
              have c18b1 : (x11_4 != x8_2) = true := bne_iff_ne.mpr c18
              by_cases c20 : 0 ≤ x11_4
              ·rw [if_pos c20] at H
               have c20b0 : decide (0 ≤ x11_4) = true := decide_eq_true c20
               clear c20
               by_cases c21 : 0 ≤ x8_2
               ·rw [if_pos c21] at H
                have c21b0 : decide (0 ≤ x8_2) = true := decide_eq_true c21
                clear c21
                by_cases c22 : x8_2 < (x5_1.length : Int)
                ·rw [if_pos c22] at H
                 have c22b0 : decide (x8_2 < (x5_1.length : Int)) = true := decide_eq_true c22
                 clear c22
                 replace H := Option.bind_eq_some_iff.mp H
                 obtain ⟨t209, A230, H⟩ := H
                 replace H : (if x10_4.length < 5864062014805 then (quietusref07_Rank.l2 k4 a1 x5_1 (wrap64 (x6_1 + 1)) x7_1 x8_2 (x10_4 ++ [t209]) (wrap64 (x11_4 + 1))) else (none)) = some r := H
                 have A23 := Aside0.mk A230
                 clear A230
                 by_cases c24 : x10_4.length < 5864062014805
                 ·rw [if_pos c24] at H
                  have LMc24 := Aside0.mk c24
                  clear c24
                  obtain ⟨y212, hy212⟩ : ∃ y_ : List (List Int), y_ = (x10_4 ++ [t209]) := ⟨_, rfl⟩
                  replace H : (quietusref07_Rank.l2 k4 a1 x5_1 (wrap64 (x6_1 + 1)) x7_1 x8_2 y212 (wrap64 (x11_4 + 1))) = some r := by first | (rw [hy212]; with_reducible exact H) | (have H2_ := (Option.bind_some _ _).symm.trans H; rw [hy212]; with_reducible exact H2_) | (have H2_ := (Option.bind_some _ _).symm.trans H; with_reducible exact H2_) | with_reducible exact H | (rw [hy212]; exact H) | exact H
                  have Ny212 := Aside0.mk hy212
                  clear hy212
                  have H' := Aside0.mk H
                  clear H
                  obtain ⟨Ao25, co25, eo25⟩ := Kd.V_slice HO_5.out
                  subst eo25
                  try go_wp2
                  have n0_ := Aside0.mk (Kd.V_drew HO_5.out)
                  have n1_ := Aside0.mk (Kd.S_drew HO_10.out)
                  have n2_ := Aside0.mk (below_drew1 HB.out)
                  clear HO_5
                  clear HO_10
                  clear HB
                  have HO_5 := n0_
                  have HO_10 := n1_
                  have HB := n2_
                  clear n0_ n1_ n2_
                  have p207 : 0 ≤ (x11_4 : Int) := of_decide_eq_true (by first | (with_reducible assumption) | assumption)
                  have q207 : x11_4 < (x5_1.length : Int) := of_decide_eq_true (by first | (with_reducible assumption) | assumption)
                  obtain ⟨ad207, A207_0, c207_0, e207, hx207_0, hl207_0, hi207_0⟩ := at_L4 (Kd.V_reads' HO_5.out).2.2 x11_4 p207 q207
                  cases e207
                  obtain ⟨ce207, hce207, hMe207, hcc207⟩ := Kd.V_get HO_5.out [] x11_4 p207 (by first | exact q207 | exact of_decide_eq_true (by first | (with_reducible assumption) | assumption) | (have e_ := (Kd.V_reads' HO_5.out).1; omega))
                  obtain ⟨ua207_0, uc207_0, rfl, ul207_0, ge207_0⟩ := Kd.FK_slice_open hMe207
                  have hv207_0 := hcc207 0 _ rfl
                  rw [Nat.add_zero, show ((Kd.slice 5 (Kd.int .u8))).sz = 1 from rfl, Nat.mul_one] at hv207_0
                  replace hv207_0 := Option.some.inj (hv207_0.symm.trans hx207_0)
                  injection hv207_0 with hva_ hvn_ hvc_
                  rw [hva_] at ge207_0
                  rw [hvc_] at ul207_0
                  have HL207_0 := Aside0.mk (show Kd.V (Kd.int .u8) 5 _ w.heap.size _ _ (rd_L4 x5_1 x11_4) from Kd.V_mk ul207_0 ge207_0)
                  clear hva_ hvn_ hvc_ ge207_0 ul207_0
                  clear hcc207 hce207
                  have HR207_0 := Aside0.mk hi207_0
                  have HC207_0 := Aside0.mk hl207_0
                  clear hi207_0 hl207_0
                  replace p207 := eq_true p207
                  replace q207 := eq_true q207
                  have p208 : 0 ≤ (x8_2 : Int) := of_decide_eq_true (by first | (with_reducible assumption) | assumption)
                  have q208 : x8_2 < (x5_1.length : Int) := of_decide_eq_true (by first | (with_reducible assumption) | assumption)
                  obtain ⟨ad208, A208_0, c208_0, e208, hx208_0, hl208_0, hi208_0⟩ := at_L4 (Kd.V_reads' HO_5.out).2.2 x8_2 p208 q208
                  obtain rfl : ad207 = ad208 := (by injection e208)
                  obtain ⟨ce208, hce208, hMe208, hcc208⟩ := Kd.V_get HO_5.out [] x8_2 p208 (by first | exact q208 | exact of_decide_eq_true (by first | (with_reducible assumption) | assumption) | (have e_ := (Kd.V_reads' HO_5.out).1; omega))
                  obtain ⟨ua208_0, uc208_0, rfl, ul208_0, ge208_0⟩ := Kd.FK_slice_open hMe208
                  have hv208_0 := hcc208 0 _ rfl
                  rw [Nat.add_zero, show ((Kd.slice 5 (Kd.int .u8))).sz = 1 from rfl, Nat.mul_one] at hv208_0
                  replace hv208_0 := Option.some.inj (hv208_0.symm.trans hx208_0)
                  injection hv208_0 with hva_ hvn_ hvc_
                  rw [hva_] at ge208_0
                  rw [hvc_] at ul208_0
                  have HL208_0 := Aside0.mk (show Kd.V (Kd.int .u8) 5 _ w.heap.size _ _ (rd_L4 x5_1 x8_2) from Kd.V_mk ul208_0 ge208_0)
                  clear hva_ hvn_ hvc_ ge208_0 ul208_0
                  clear hcc208 hce208
                  have HR208_0 := Aside0.mk hi208_0
                  have HC208_0 := Aside0.mk hl208_0
                  clear hi208_0 hl208_0
                  replace p208 := eq_true p208
                  replace q208 := eq_true q208
                  refine start_ (n := 14) (S := fun w' => w'.cell? (ad207.add (x11_4).toNat) = some (.slice A207_0 (rd_L4 x5_1 x11_4).length c207_0) ∧ w'.cell? (ad207.add (x8_2).toNat) = some (.slice A208_0 (rd_L4 x5_1 x8_2).length c208_0)) (ds := [11, 12]) #[false, false, false, false, false, false, false, false, false, false, false, false, false, false] (by kernel_rfl) rfl rfl ⟨hx207_0, hx208_0⟩ (fun hHeld => ?_); refine with_tabW quietusref07_Rank.tab19 quietusref07_Rank.bits19 (fun HT_ HW_ => ?_)
                  generalize wr.drew = w26 at HO_5 HO_10 HB HL207_0 HL208_0 HR207_0 HR208_0 hx207_0 hx208_0 hHeld ⊢
                  refine pure_ (i := 0) (N := some 50) (v := ?_) (a' := ?_) #[true, false, false, false, false, false, false, false, false, false, false, false, false, false] rfl rfl (any_of HT_.out (by kernel_rfl)) (fun _ _ _ h => h) (Or.inl ⟨by rfl, ?_⟩) ?_ ?_
                  rotate_left
                  ·intro w'
                   go_simp
                   with_reducible rfl
                  rotate_left
                  ·simp only [Act.put, List.setIfInBounds_toArray, List.set_cons_zero, List.set_cons_succ, i64_w, i32_w]
                   rfl
                  refine pure_ (i := 1) (N := some 51) (v := ?_) (a' := ?_) #[true, true, false, false, false, false, false, false, false, false, false, false, false, false] rfl rfl (any_of HT_.out (by kernel_rfl)) (fun _ _ _ h => h) (Or.inl ⟨by rfl, ?_⟩) ?_ ?_
                  rotate_left
                  ·intro w'
                   go_simp
                   with_reducible rfl
                  rotate_left
                  ·simp only [Act.put, List.setIfInBounds_toArray, List.set_cons_zero, List.set_cons_succ, i64_w, i32_w]
                   rfl
                  refine pure_ (i := 2) (N := some 52) (v := ?_) (a' := ?_) #[true, true, true, false, false, false, false, false, false, false, false, false, false, false] rfl rfl (any_of HT_.out (by kernel_rfl)) (fun _ _ _ h => h) (Or.inl ⟨by rfl, ?_⟩) ?_ ?_
                  rotate_left
                  ·intro w'
                   go_simp
                   with_reducible rfl
                  rotate_left
                  ·simp only [Act.put, List.setIfInBounds_toArray, List.set_cons_zero, List.set_cons_succ, i64_w, i32_w]
                   rfl
                  refine pure_ (i := 3) (N := some 53) (v := ?_) (a' := ?_) #[true, true, true, true, false, false, false, false, false, false, false, false, false, false] rfl rfl (any_of HT_.out (by kernel_rfl)) (fun _ _ _ h => h) (Or.inl ⟨by rfl, ?_⟩) ?_ ?_
                  rotate_left
                  ·intro w'
                   go_simp
                   with_reducible rfl
                  rotate_left
                  ·simp only [Act.put, List.setIfInBounds_toArray, List.set_cons_zero, List.set_cons_succ, i64_w, i32_w]
                   rfl
                  refine pure_ (i := 5) (N := some 55) (v := ?_) (a' := ?_) #[true, true, true, true, false, true, false, false, false, false, false, false, false, false] rfl rfl (any_of HT_.out (by kernel_rfl)) (fun _ _ _ h => h) (Or.inl ⟨by rfl, ?_⟩) ?_ ?_
                  rotate_left
                  ·intro w'
                   go_simp
                   with_reducible rfl
                  rotate_left
                  ·simp only [Act.put, List.setIfInBounds_toArray, List.set_cons_zero, List.set_cons_succ, i64_w, i32_w]
                   rfl
                  refine pure_ (i := 6) (N := some 56) (v := ?_) (a' := ?_) #[true, true, true, true, false, true, true, false, false, false, false, false, false, false] rfl rfl (any_of HT_.out (by kernel_rfl)) (fun _ _ _ h => h) (Or.inl ⟨by rfl, ?_⟩) ?_ ?_
                  rotate_left
                  ·intro w'
                   go_simp
                   with_reducible rfl
                  rotate_left
                  ·simp only [Act.put, List.setIfInBounds_toArray, List.set_cons_zero, List.set_cons_succ, i64_w, i32_w]
                   rfl
                  refine pure_ (i := 7) (N := some 57) (v := ?_) (a' := ?_) #[true, true, true, true, false, true, true, true, false, false, false, false, false, false] rfl rfl (any_of HT_.out (by kernel_rfl)) (fun _ _ _ h => h) (Or.inl ⟨by rfl, ?_⟩) ?_ ?_
                  rotate_left
                  ·intro w'
                   go_simp
                   with_reducible rfl
                  rotate_left
                  ·simp only [Act.put, List.setIfInBounds_toArray, List.set_cons_zero, List.set_cons_succ, i64_w, i32_w]
                   rfl
                  refine pure_ (i := 9) (N := some 59) (v := ?_) (a' := ?_) #[true, true, true, true, false, true, true, true, false, true, false, false, false, false] rfl rfl (any_of HT_.out (by kernel_rfl)) (fun _ _ _ h => h) (Or.inl ⟨by rfl, ?_⟩) ?_ ?_
                  rotate_left
                  ·intro w'
                   go_simp
                   with_reducible rfl
                  rotate_left
                  ·simp only [Act.put, List.setIfInBounds_toArray, List.set_cons_zero, List.set_cons_succ, i64_w, i32_w]
                   rfl
                  refine take_ (i := 4) (N := some 54) (v := ?_) (a' := ?_) #[true, true, true, true, true, true, true, true, false, true, false, false, false, false] rfl rfl (take_ofW HT_.out HW_.out (by kernel_rfl)) (fun _ _ _ h => h) (Or.inl ⟨by rfl, ?_⟩) hHeld ?_ ?_
                  rotate_left
                  ·rintro w' ⟨s0, s1⟩
                   go_simp
                   with_reducible rfl
                  rotate_left
                  ·simp only [Act.put, List.setIfInBounds_toArray, List.set_cons_zero, List.set_cons_succ, i64_w, i32_w]
                   rfl
                  refine take_ (i := 8) (N := some 58) (v := ?_) (a' := ?_) #[true, true, true, true, true, true, true, true, true, true, false, false, false, false] rfl rfl (take_ofW HT_.out HW_.out (by kernel_rfl)) (fun _ _ _ h => h) (Or.inl ⟨by rfl, ?_⟩) hHeld ?_ ?_
                  rotate_left
                  ·rintro w' ⟨s0, s1⟩
                   go_simp
                   with_reducible rfl
                  rotate_left
                  ·simp only [Act.put, List.setIfInBounds_toArray, List.set_cons_zero, List.set_cons_succ, i64_w, i32_w]
                   rfl
                  refine one_ (i := 10) (N := some 60) #[true, true, true, true, true, true, true, true, true, true, true, false, false, false] rfl rfl (one_of HT_.out (by kernel_rfl)) (by decide) (fun K hK => ?_)
                  refine goes_ Tryd.func96 (by kernel_rfl) rfl #[.slice A207_0 (rd_L4 x5_1 x11_4).length c207_0, .slice A208_0 (rd_L4 x5_1 x8_2).length c208_0, .int .i64 x7_1] (by rfl) rfl rfl (by (try simp only [List.map_toArray, List.map_cons, List.map_nil]); first | done | rfl | (simp only [List.length_drop, List.length_take]; rfl)) ?_
                  with_reducible refine (quietusref07_less.calls k4 _ _ (rd_L4 x5_1 x11_4) _ _ (rd_L4 x5_1 x8_2) x7_1 t209 _ ?side1 ?side2 ?side3 ?side4 ?side5 A23.out).mono ?_
                  (case side1 => exact HG.below HGw.out (by repeat (first | (with_reducible first | exact HB.out | apply below_alloc | apply pw_below_drewN | apply below_drew1) | exact HB.out)))
                  (case side2 => repeat (first | exact (by repeat (first | (with_reducible exact HR207_0.out) | (with_reducible refine Kd.C_alloc ?_ _) | (with_reducible refine Kd.C_drewN ?_ _) | (with_reducible refine Kd.C_drew ?_) | exact HR207_0.out)) | (with_reducible refine Kd.C_alloc ?_ _) | (with_reducible refine Kd.C_drewN ?_ _) | (with_reducible refine Kd.C_drew ?_)))
                  (case side3 => exact HC207_0.out)
                  (case side4 => repeat (first | exact (by repeat (first | (with_reducible exact HR208_0.out) | (with_reducible refine Kd.C_alloc ?_ _) | (with_reducible refine Kd.C_drewN ?_ _) | (with_reducible refine Kd.C_drew ?_) | exact HR208_0.out)) | (with_reducible refine Kd.C_alloc ?_ _) | (with_reducible refine Kd.C_drewN ?_ _) | (with_reducible refine Kd.C_drew ?_)))
                  (case side5 => exact HC208_0.out)
                  rintro e w27 ⟨v210, rfl, ho0, hb⟩
                  have HS0_ := (hb.cell (World.block_lt_of_cell? _ _ (hHeld.1))).trans (hHeld.1)
                  have HS1_ := (hb.cell (World.block_lt_of_cell? _ _ (hHeld.2))).trans (hHeld.2)
                  refine ⟨_, rfl, ?_⟩
                  have n0_ := Aside0.mk (Kd.V_elder' (by (with_reducible repeat (first | apply Kd.V_alloc | apply Kd.V_drewN | apply Kd.V_drew)); exact HO_5.out) (Kd.R_base ho0) hb)
                  have n1_ := Aside0.mk (Kd.S_elder' (by (with_reducible repeat (first | apply Kd.S_alloc | apply Kd.S_drewN | apply Kd.S_drew)); exact HO_10.out) (Kd.R_base ho0) hb)
                  have n2_ := Aside0.mk (Kd.V_elder' (by (with_reducible repeat (first | apply Kd.V_alloc | apply Kd.V_drewN | apply Kd.V_drew)); exact HL207_0.out) (Kd.R_base ho0) hb)
                  have n3_ := Aside0.mk (Kd.V_elder' (by (with_reducible repeat (first | apply Kd.V_alloc | apply Kd.V_drewN | apply Kd.V_drew)); exact HL208_0.out) (Kd.R_base ho0) hb)
                  have n4_ := Aside0.mk (Kd.R_lower (Kd.R_newM (M := fun k_ => (w.heap.size ≤ k_)) ho0 (below_size (by repeat (first | (with_reducible first | exact HB.out | apply below_alloc | apply pw_below_drewN | apply below_drew1) | exact HB.out))) (fun k_ h_ => h_)) (below_size (by repeat (first | (with_reducible first | exact HB.out | apply below_alloc | apply pw_below_drewN | apply below_drew1) | exact HB.out))))
                  have n5_ := Aside0.mk (Kd.C_below (by repeat (first | (with_reducible exact HR207_0.out) | (with_reducible refine Kd.C_alloc ?_ _) | (with_reducible refine Kd.C_drewN ?_ _) | (with_reducible refine Kd.C_drew ?_) | exact HR207_0.out)) hb)
                  have n6_ := Aside0.mk (Kd.C_below (by repeat (first | (with_reducible exact HR208_0.out) | (with_reducible refine Kd.C_alloc ?_ _) | (with_reducible refine Kd.C_drewN ?_ _) | (with_reducible refine Kd.C_drew ?_) | exact HR208_0.out)) hb)
                  have n7_ := Aside0.mk (below_step (by repeat (first | (with_reducible first | exact HB.out | apply below_alloc | apply pw_below_drewN | apply below_drew1) | exact HB.out)) hb)
                  clear HO_5
                  clear HO_10
                  clear HL207_0
                  clear HL208_0
                  clear HR207_0
                  clear HR208_0
                  clear HB
                  have HO_5 := n0_
                  have HO_10 := n1_
                  have HL207_0 := n2_
                  have HL208_0 := n3_
                  have HO211 := n4_
                  have HR207_0 := n5_
                  have HR208_0 := n6_
                  have HB := n7_
                  clear n0_ n1_ n2_ n3_ n4_ n5_ n6_ n7_
                  (try clear hb)
                  (try clear hb2)
                  (try clear hk)
                  (try clear hi)
                  (try clear ho0)
                  obtain ⟨Ao29, co29, eo29⟩ := Kd.R_slice HO211.out
                  (first | subst eo29 | (injection eo29 with f1_ f2_ f3_; have f4_ := f1_.symm; have f5_ := f3_.symm; clear f1_ f2_ f3_; subst f4_; subst f5_))
                  refine hK.out _ _ ⟨HS0_, HS1_⟩ (fun hHeld => ?_)
                  clear hK K
                  refine norm_ (a' := ?_) ?_ ?_
                  rotate_left
                  ·show Act.put _ (some 60) _ = _
                   simp only [Act.put, List.setIfInBounds_toArray, List.set_cons_zero, List.set_cons_succ, i64_w, i32_w]
                   rfl
                  refine last_ (i := 11) (N := some 61) #[true, true, true, true, true, true, true, true, true, true, true, true, false, false] rfl rfl (one_of HT_.out (by kernel_rfl)) (by decide) (fun K hK => ?_)
                  refine value_ (w1 := ?_) (v := ?_) (by rfl) rfl ?_ ?_
                  rotate_left 2
                  ·go_simp
                   constructor
                   ·rfl
                   ·rfl
                  refine hK.out _ _ ?_
                  clear hK K
                  refine norm_ (a' := ?_) ?_ ?_
                  rotate_left
                  ·show Act.put _ (some 61) _ = _
                   simp only [Act.put, List.setIfInBounds_toArray, List.set_cons_zero, List.set_cons_succ, i64_w, i32_w]
                   rfl
                  refine last_ (i := 12) (N := some 62) #[true, true, true, true, true, true, true, true, true, true, true, true, true, false] rfl rfl (one_of HT_.out (by kernel_rfl)) (by decide) (fun K hK => ?_)
                  refine Kd.S_append_step (Kd.slice 5 (Kd.int .u8)) (w0 := w) w.heap.size (by rfl) (.tmp 50) (.tmp 61) 29 57 (.slice none 0 0) 24 rfl Tryd.underlying29 info57 rfl (by decide) (by omega) u10 x10_4 t209 [.slice Ao29 t209.length co29] (fun k_ => (w.heap.size ≤ k_)) (fun k_ => some k_ = (.slice Ao29 t209.length co29 : Value).ownBlock) rfl rfl ?aP (fun k_ hk_ => ((Kd.R_mono (ok' := fun k_ => ((fun k_ => (w.heap.size ≤ k_))) k_ ∧ some k_ ≠ (u10 : Value).ownBlock) (Kd.R_apart' (HO211.out) (Kd.S_typed HO_10.out) (by decide)) (fun k_ hk => ⟨hk.1.1, hk.2⟩))).1 k_ hk_.symm) ?aF ?aO ?aB ?aS ?aL ?_
                  (case aP => exact Kd.M_row (Kd.R_mono (Kd.R_tight rfl (Kd.R_mono (ok' := fun k_ => ((fun k_ => (w.heap.size ≤ k_))) k_ ∧ some k_ ≠ (u10 : Value).ownBlock) (Kd.R_apart' (HO211.out) (Kd.S_typed HO_10.out) (by decide)) (fun k_ hk => ⟨hk.1.1, hk.2⟩))) (fun _ h_ => h_)))
                  (case aB => exact (by repeat (first | (with_reducible first | exact HB.out | apply below_alloc | apply pw_below_drewN | apply below_drew1) | exact HB.out)))
                  (case aF => exact (fun k_ hk => (Nat.le_trans (below_size (by repeat (first | (with_reducible first | exact HB.out | apply below_alloc | apply pw_below_drewN | apply below_drew1) | exact HB.out))) hk)))
                  (case aO => exact (by (with_reducible repeat (first | apply Kd.S_alloc | apply Kd.S_drewN | apply Kd.S_drew)); exact Kd.S_mono HO_10.out (fun k_ hk => ⟨hk.1, fun e_ => hk.2 e_⟩)))
                  (case aS => exact (below_size (by repeat (first | (with_reducible first | exact HB.out | apply below_alloc | apply pw_below_drewN | apply below_drew1) | exact HB.out))))
                  (case aL => have := LMc24.out; omega)
                  intro v213 w28 ho hb hg hat
                  rw [← Ny212.out] at ho
                  have n0_ := Aside0.mk (Kd.V_afterv (ok := (fun k_ => (P0_ k_ ∨ w.heap.size ≤ k_) ∧ some k_ ≠ (.slice Ao29 t209.length co29 : Value).ownBlock)) (by (with_reducible repeat (first | apply Kd.V_alloc | apply Kd.V_drewN | apply Kd.V_drew)); exact Kd.V_mono HO_5.out (fun _ hk => ⟨⟨hk.1.1, hk.2⟩, hk.1.2⟩)) hg hat)
                  have n1_ := Aside0.mk (Kd.V_afterv (ok := (fun k_ => (P0_ k_ ∨ w.heap.size ≤ k_) ∧ some k_ ≠ (.slice Ao29 t209.length co29 : Value).ownBlock)) (by (with_reducible repeat (first | apply Kd.V_alloc | apply Kd.V_drewN | apply Kd.V_drew)); exact Kd.V_mono HL207_0.out (fun _ hk => ⟨⟨hk.1.1, hk.2⟩, hk.1.2⟩)) hg hat)
                  have n2_ := Aside0.mk (Kd.V_afterv (ok := (fun k_ => (P0_ k_ ∨ w.heap.size ≤ k_) ∧ some k_ ≠ (.slice Ao29 t209.length co29 : Value).ownBlock)) (by (with_reducible repeat (first | apply Kd.V_alloc | apply Kd.V_drewN | apply Kd.V_drew)); exact Kd.V_mono HL208_0.out (fun _ hk => ⟨⟨hk.1.1, hk.2⟩, hk.1.2⟩)) hg hat)
                  have n3_ := Aside0.mk (hb)
                  have n4_ := Aside0.mk (ho)
                  clear HO_5
                  clear HL207_0
                  clear HL208_0
                  clear HB
                  clear HO_10
                  clear HO211
                  have HO_5 := n0_
                  have HL207_0 := n1_
                  have HL208_0 := n2_
                  have HB := n3_
                  have HO214 := n4_
                  clear n0_ n1_ n2_ n3_ n4_
                  clear ho hb hg hat
                  refine hK.out _ _ ?_
                  clear hK K
                  refine norm_ (a' := ?_) ?_ ?_
                  rotate_left
                  ·show Act.put _ (some 62) _ = _
                   simp only [Act.put, List.setIfInBounds_toArray, List.set_cons_zero, List.set_cons_succ, i64_w, i32_w]
                   rfl
                  refine pure_ (i := 13) (N := some 10) (v := ?_) (a' := ?_) #[true, true, true, true, true, true, true, true, true, true, true, true, true, true] rfl rfl (any_of HT_.out (by kernel_rfl)) (fun _ _ _ h => h) (Or.inl ⟨by rfl, ?_⟩) ?_ ?_
                  rotate_left
                  ·intro w'
                   go_simp
                   with_reducible rfl
                  rotate_left
                  ·simp only [Act.put, List.setIfInBounds_toArray, List.set_cons_zero, List.set_cons_succ, i64_w, i32_w]
                   rfl
                  refine done_ (done_of HT_.out (by kernel_rfl)) ?_
                  try go_wp2
                  go_roundg k4
                  case measure => have := HK1.out; have := HK2.out; have := HJ3.out; have := HK4.out; omega
                  case rel => exact ⟨(y212), (wrap64 (x11_4 + 1)), (by first | rfl | (simp; done) | (simp [*]; done)), H', ⟨by have := HK1.out; have := HK2.out; have := HJ3.out; have := HK4.out; omega⟩, ⟨by (with_reducible repeat (first | apply Kd.V_alloc | apply Kd.V_drewN | apply Kd.V_drew)); exact Kd.V_mono HO_5.out (fun _ hk => ⟨hk.1.1, hk.2⟩)⟩, ⟨by (with_reducible repeat (first | apply Kd.S_alloc | apply Kd.S_drewN | apply Kd.S_drew)); exact HO214.out⟩, ⟨by repeat (first | (with_reducible first | exact HB.out | apply below_alloc | apply pw_below_drewN | apply below_drew1) | exact HB.out)⟩⟩
                 ·rw [if_neg c24] at H
                  exact absurd H (by simp)
                ·rw [if_neg c22] at H
                 exact absurd H (by simp)
               ·rw [if_neg c21] at H
                exact absurd H (by simp)
              ·rw [if_neg c20] at H
               exact absurd H (by simp)
            ·rw [if_neg c17] at H
             have c17b0 : decide (x11_4 < (x5_1.length : Int)) = false := decide_eq_false c17
             clear c17
             have H' := Aside0.mk H
             clear H
             obtain ⟨Ao30, co30, eo30⟩ := Kd.V_slice HO_5.out
             subst eo30
             go_wp2
             go_roundg k4
             case measure => have := HK1.out; have := HK2.out; have := HJ3.out; have := HK4.out; omega
             case rel => exact ⟨(x10_4), ((wrap64 (x6_1 + 1))), (wrap64 (x7_1 + 1)), (by first | rfl | (simp; done) | (simp [*]; done)), (by first | rfl | (simp; done) | (simp [*]; done)), H', ⟨by have := HK1.out; have := HK2.out; have := HJ3.out; have := HK4.out; omega⟩, ⟨Kd.V_mono (Kd.S_V (by (with_reducible repeat (first | apply Kd.S_alloc | apply Kd.S_drewN | apply Kd.S_drew)); exact HO_10.out)) (fun k_ hk => by first | exact ⟨(.inr (hk.1)), hk.2⟩ | exact (.inr (hk)))⟩, ⟨by repeat (first | (with_reducible first | exact HB.out | apply below_alloc | apply pw_below_drewN | apply below_drew1) | exact HB.out)⟩⟩
   ·rw [if_neg c3] at H
    have c3b0 : decide (x7_1 < a1) = false := decide_eq_false c3
    clear c3
    obtain rfl := Option.some.inj H
    go_wp2
    go_ret
    exact ⟨by first | rfl | (simp [errW_none, errW_some] <;> rfl) | (simp [*, errW_none, errW_some] <;> rfl), by repeat (first | (with_reducible first | exact HB.out | apply below_alloc | apply pw_below_drewN | apply below_drew1) | exact HB.out)⟩


/-! ### quietusref07_Recoverable: function 31 -/
def quietusref07_Recoverable.l0 : Nat → Int → List (List Int) → Int → Int → List (List Int) → Int → Option (Bool)
 | 0, _, _, _, _, _, _ => none
 | k + 1, x1, x6, x7, x216000, x216001, x216002 => (quietusref07_Pieces.f k x216000 x216001 x216002).bind fun t218 => (if x7 < t218 then ((quietusref07_In.f k x1 x7).bind fun t220 => (if t220 = true then ((quietusref07_row.f k x216000 x216001 x216002 x7).bind fun t221 => (if x6.length < 5864062014805 then (quietusref07_Recoverable.l0 k x1 (x6 ++ [t221]) (wrap64 (x7 + 1)) x216000 x216001 x216002) else (none))) else (quietusref07_Recoverable.l0 k x1 x6 (wrap64 (x7 + 1)) x216000 x216001 x216002))) else ((quietusref07_Rank.f k x6 x216000).bind fun t219 => (some (t219 == x216000))))
def quietusref07_Recoverable.f (k : Nat) (a0_0 : Int) (l0_1 : List (List Int)) (a0_2 : Int) (a1 : Int) : Option (Bool) := (quietusref07_Check.f k a0_0 l0_1 a0_2).bind fun t216 => (if t216 = 0 then ((quietusref07_IsSet.f k a0_0 l0_1 a0_2 a1).bind fun t217 => (if t217 = true then (quietusref07_Recoverable.l0 k a1 ([] : List (List Int)) 0 a0_0 l0_1 a0_2) else (some false))) else (some false))
def quietusref07_Recoverable.T13 : Bool × List (List Nat × List Nat) := (true, [([], []), ([], []), ([1], [1]), ([0, 2], [0, 2]), ([], []), ([4], [4]), ([3, 5], [3, 5]), ([6, 3, 0, 1, 2, 3, 4, 5, 6], [6])])
def quietusref07_Recoverable.B13 : List Nat := [0, 0, 2, 7, 0, 16, 63, 127]
theorem quietusref07_Recoverable.tab13 : rtab .any (opsOf Tryd.f31 13) = quietusref07_Recoverable.T13 := by kernel_rfl
theorem quietusref07_Recoverable.bits13 : waitsOk quietusref07_Recoverable.T13.2 quietusref07_Recoverable.B13 = true := by kernel_rfl
set_option maxHeartbeats 8000000 in
set_option maxRecDepth 100000 in
theorem quietusref07_Recoverable.calls (k : Nat) (a0_0 : Int) (A0_1 : Option Addr) (c0_1 : Nat) (l0_1 : List (List Int)) (a0_2 : Int) (a1 : Int) (r : Bool) (w : World) (hG : HG w) (hr0_1 : Kd.C (Kd.slice 3 (Kd.int .i64)) w A0_1 l0_1.length l0_1) (hc0_1 : l0_1.length ≤ c0_1) (h : quietusref07_Recoverable.f k a0_0 l0_1 a0_2 a1 = some r) :
  Calls Tryd.prog 31 #[.agg #[.int .i64 a0_0, .slice A0_1 l0_1.length c0_1, .int .i64 a0_2], .int .i64 a1] w fun e w' => e = .returned (.bool r) ∧ Below w.heap.size w w' := by
 have HGw := Aside0.mk hG
 clear hG
 have hu24 := Tryd.underlying24
 have HR0_1 := Aside0.mk hr0_1
 have HC0_1 := Aside0.mk hc0_1
 clear hr0_1 hc0_1
 have HB := Aside0.mk (Below.refl w.heap.size w)
 have H : ((quietusref07_Check.f k a0_0 l0_1 a0_2).bind fun t216 => (if t216 = 0 then ((quietusref07_IsSet.f k a0_0 l0_1 a0_2 a1).bind fun t217 => (if t217 = true then (quietusref07_Recoverable.l0 k a1 ([] : List (List Int)) 0 a0_0 l0_1 a0_2) else (some false))) else (some false))) = some r := h
 clear h
 replace H := Option.bind_eq_some_iff.mp H
 obtain ⟨t216, A30, H⟩ := H
 replace H : (if t216 = 0 then ((quietusref07_IsSet.f k a0_0 l0_1 a0_2 a1).bind fun t217 => (if t217 = true then (quietusref07_Recoverable.l0 k a1 ([] : List (List Int)) 0 a0_0 l0_1 a0_2) else (some false))) else (some false)) = some r := H
 have A3 := Aside0.mk A30
 clear A30
 by_cases c4 : t216 = 0
 ·rw [if_pos c4] at H
  have c4b0 : (t216 == 0) = true := beq_iff_eq.mpr c4
  have c4b1 : (t216 != 0) = false := bne_eq_false_iff_eq.mpr c4
  clear c4
  replace H := Option.bind_eq_some_iff.mp H
  obtain ⟨t217, A50, H⟩ := H
  replace H : (if t217 = true then (quietusref07_Recoverable.l0 k a1 ([] : List (List Int)) 0 a0_0 l0_1 a0_2) else (some false)) = some r := H
  have A5 := Aside0.mk A50
  clear A50
  by_cases c6 : t217 = true
  ·subst c6
   have H1 : (quietusref07_Recoverable.l0 k a1 ([] : List (List Int)) 0 a0_0 l0_1 a0_2) = some r := by rw [if_pos rfl] at H; exact H
   clear H
   have H := H1
   clear H1
   have H' := Aside0.mk H
   clear H
   go_enter Tryd.func31, Tryd.ntmps31
   go_wp2_with (first | ((with_reducible refine gate_dst (N := 2) rfl ?_); refine box_event ?hg (N := 2) ?hd (cs := #[.int .i64 a0_0, .slice A0_1 l0_1.length c0_1, .int .i64 a0_2]) (t := 24) ?hr ?_; (case hd => rfl); (case hg => rfl); (case hr => first | (go_simp; done) | (go_simp; rfl)); intro gb215 hg w7 hbox hb; have n0_ := Aside0.mk (below_step (by repeat (first | (with_reducible first | exact HB.out | apply below_alloc | apply pw_below_drewN | apply below_drew1) | exact HB.out)) hb); have n1_ := Aside0.mk (hbox); have n2_ := Aside0.mk ((by rw [hg]; exact (below_size (by repeat (first | (with_reducible first | exact HB.out | apply below_alloc | apply pw_below_drewN | apply below_drew1) | exact HB.out))) : w.heap.size ≤ gb215)); have n3_ := Aside0.mk ((by rw [hg]; exact (below_size (by repeat (first | (with_reducible first | exact HB.out | apply below_alloc | apply pw_below_drewN | apply below_drew1) | exact HB.out))) : w.heap.size ≤ gb215)); clear HB; have HB := n0_; have BK215 := n1_; have GW215 := n2_; have GE215 := n3_; clear n0_ n1_ n2_ n3_; clear hb hbox hg; have hcz8_0 : w7.cell? ⟨gb215, 0, none⟩ = some (.int .i64 a0_0) := (blk_cell BK215.out 0).trans rfl; have hcz8_1 : w7.cell? ⟨gb215, 1, none⟩ = some (.slice A0_1 l0_1.length c0_1) := (blk_cell BK215.out 1).trans rfl; have hcz8_2 : w7.cell? ⟨gb215, 2, none⟩ = some (.int .i64 a0_2) := (blk_cell BK215.out 2).trans rfl; have hfz8_0 := blk_frozen BK215.out 0; have hfz8_1 := blk_frozen BK215.out 1; have hfz8_2 := blk_frozen BK215.out 2) | ((with_reducible refine gate_callee (f := 16) rfl ?_); refine goesL_ (some 10) rfl rfl Tryd.func16 (by kernel_rfl) rfl #[.agg #[.int .i64 a0_0, .slice A0_1 l0_1.length c0_1, .int .i64 a0_2]] rfl (by (try simp only [List.map_toArray, List.map_cons, List.map_nil]); first | done | rfl | (simp only [List.length_drop, List.length_take]; rfl)) ?_; (with_reducible refine (quietusref07_Check.calls k a0_0 _ _ l0_1 a0_2 t216 _ ?side1 ?side2 ?side3 A3.out).mono ?_); (case side1 => exact HG.below HGw.out (by repeat (first | (with_reducible first | exact HB.out | apply below_alloc | apply pw_below_drewN | apply below_drew1 | refine below_set ?_ GE215.out) | exact HB.out))); (case side2 => repeat (first | exact (Kd.C_below HR0_1.out HB.out) | (with_reducible refine Kd.C_alloc ?_ _) | (with_reducible refine Kd.C_drewN ?_ _) | (with_reducible refine Kd.C_drew ?_))); (case side3 => exact HC0_1.out); rintro e w9 ⟨rfl, hb⟩; refine ⟨_, rfl, ?_⟩; have n0_ := Aside0.mk (blk_below (g := gb215) (o := .cells #[.int .i64 a0_0, .slice A0_1 l0_1.length c0_1, .int .i64 a0_2] 24 (0, 0)) (by (with_reducible repeat (first | refine blk_drewN ?_ _ | refine blk_drew ?_ | refine blk_alloc ?_ _)); exact BK215.out) hb); have n1_ := Aside0.mk (below_step (by repeat (first | (with_reducible first | exact HB.out | apply below_alloc | apply pw_below_drewN | apply below_drew1 | refine below_set ?_ GE215.out) | exact HB.out)) hb); clear BK215; clear HB; have BK215 := n0_; have HB := n1_; clear n0_ n1_; (try clear hb); (try clear hb2); (try clear hk); (try clear hi); have hcz10_0 : w9.cell? ⟨gb215, 0, none⟩ = some (.int .i64 a0_0) := (blk_cell BK215.out 0).trans rfl; have hcz10_1 : w9.cell? ⟨gb215, 1, none⟩ = some (.slice A0_1 l0_1.length c0_1) := (blk_cell BK215.out 1).trans rfl; have hcz10_2 : w9.cell? ⟨gb215, 2, none⟩ = some (.int .i64 a0_2) := (blk_cell BK215.out 2).trans rfl; have hfz10_0 := blk_frozen BK215.out 0; have hfz10_1 := blk_frozen BK215.out 1; have hfz10_2 := blk_frozen BK215.out 2) | ((with_reducible refine gate_callee (f := 33) rfl ?_); refine goesL_ (some 14) rfl rfl Tryd.func33 (by kernel_rfl) rfl #[.agg #[.int .i64 a0_0, .slice A0_1 l0_1.length c0_1, .int .i64 a0_2], .int .i64 a1] rfl (by (try simp only [List.map_toArray, List.map_cons, List.map_nil]); first | done | rfl | (simp only [List.length_drop, List.length_take]; rfl)) ?_; (with_reducible refine (quietusref07_IsSet.calls k a0_0 _ _ l0_1 a0_2 a1 true _ ?side1 ?side2 ?side3 A5.out).mono ?_); (case side1 => exact HG.below HGw.out (by repeat (first | (with_reducible first | exact HB.out | apply below_alloc | apply pw_below_drewN | apply below_drew1 | refine below_set ?_ GE215.out) | exact HB.out))); (case side2 => repeat (first | exact (Kd.C_below HR0_1.out HB.out) | (with_reducible refine Kd.C_alloc ?_ _) | (with_reducible refine Kd.C_drewN ?_ _) | (with_reducible refine Kd.C_drew ?_))); (case side3 => exact HC0_1.out); rintro e w11 ⟨rfl, hb⟩; refine ⟨_, rfl, ?_⟩; have n0_ := Aside0.mk (blk_below (g := gb215) (o := .cells #[.int .i64 a0_0, .slice A0_1 l0_1.length c0_1, .int .i64 a0_2] 24 (0, 0)) (by (with_reducible repeat (first | refine blk_drewN ?_ _ | refine blk_drew ?_ | refine blk_alloc ?_ _)); exact BK215.out) hb); have n1_ := Aside0.mk (below_step (by repeat (first | (with_reducible first | exact HB.out | apply below_alloc | apply pw_below_drewN | apply below_drew1 | refine below_set ?_ GE215.out) | exact HB.out)) hb); clear BK215; clear HB; have BK215 := n0_; have HB := n1_; clear n0_ n1_; (try clear hb); (try clear hb2); (try clear hk); (try clear hi)))
   go_loopg [6, 7] k (fun kq v6 v7 w' => ∃ (x6_1 : List (List Int)) (x7_1 : Int), v7 = .int .i64 x7_1 ∧ Aside0 (quietusref07_Recoverable.l0 kq a1 x6_1 x7_1 a0_0 l0_1 a0_2 = some r) ∧ Aside0 (kq ≤ k) ∧ Aside0 (Kd.S (Kd.slice 5 (Kd.int .u8)) 57 w' w.heap.size (fun _ => True) v6 x6_1) ∧ Aside0 (w'.heap[gb215]? = some (.cells #[.int .i64 a0_0, (.slice A0_1 l0_1.length c0_1), .int .i64 a0_2] 24 (0, 0))) ∧ Aside0 (Below w.heap.size w w'))
   case atStart => exact ⟨(([] : List (List Int))), (0), (by first | rfl | (simp; done) | (simp [*]; done)), H', ⟨Nat.le_refl _⟩, ⟨by first | exact Kd.S_nil _ _ _ _ _ | exact Kd.N_nil _ _ _ _ _ | exact Kd.V_nil _ _ _ _ _ | exact Kd.Q_nil _ _ _ _ _ | exact Kd.R_nil _ _ _ _ _⟩, ⟨by (with_reducible repeat (first | refine blk_drewN ?_ _ | refine blk_drew ?_ | refine blk_alloc ?_ _)); exact BK215.out⟩, ⟨by repeat (first | (with_reducible first | exact HB.out | apply below_alloc | apply pw_below_drewN | apply below_drew1 | refine below_set ?_ GE215.out) | exact HB.out)⟩⟩
   case round =>
    clear H'
    try clear c1
    try clear p2
    try clear c3
    try clear c4
    try clear c4b0
    try clear c4b1
    try clear c6
    try clear hcz10_0
    try clear hcz10_1
    try clear hcz10_2
    try clear hcz8_0
    try clear hcz8_1
    try clear hcz8_2
    try clear hfz10_0
    try clear hfz10_1
    try clear hfz10_2
    try clear hfz8_0
    try clear hfz8_1
    try clear hfz8_2
    obtain ⟨x6_1, x7_1, rfl, HA, HK1, HO_6, BK215, HB⟩ := hrel
    cases gk with
    | zero => exact absurd HA.out (by simp [quietusref07_Recoverable.l0])
    | succ k1 =>
     have H := HA.out
     clear HA
     simp only [quietusref07_Recoverable.l0] at H
     replace H := Option.bind_eq_some_iff.mp H
     obtain ⟨t218, A120, H⟩ := H
     replace H : (if x7_1 < t218 then ((quietusref07_In.f k1 a1 x7_1).bind fun t220 => (if t220 = true then ((quietusref07_row.f k1 a0_0 l0_1 a0_2 x7_1).bind fun t221 => (if x6_1.length < 5864062014805 then (quietusref07_Recoverable.l0 k1 a1 (x6_1 ++ [t221]) (wrap64 (x7_1 + 1)) a0_0 l0_1 a0_2) else (none))) else (quietusref07_Recoverable.l0 k1 a1 x6_1 (wrap64 (x7_1 + 1)) a0_0 l0_1 a0_2))) else ((quietusref07_Rank.f k1 x6_1 a0_0).bind fun t219 => (some (t219 == a0_0)))) = some r := H
     have A12 := Aside0.mk A120
     clear A120
     by_cases c13 : x7_1 < t218
     ·rw [if_pos c13] at H
      have c13b0 : decide (x7_1 < t218) = true := decide_eq_true c13
      clear c13
      replace H := Option.bind_eq_some_iff.mp H
      obtain ⟨t220, A140, H⟩ := H
      replace H : (if t220 = true then ((quietusref07_row.f k1 a0_0 l0_1 a0_2 x7_1).bind fun t221 => (if x6_1.length < 5864062014805 then (quietusref07_Recoverable.l0 k1 a1 (x6_1 ++ [t221]) (wrap64 (x7_1 + 1)) a0_0 l0_1 a0_2) else (none))) else (quietusref07_Recoverable.l0 k1 a1 x6_1 (wrap64 (x7_1 + 1)) a0_0 l0_1 a0_2)) = some r := H
      have A14 := Aside0.mk A140
      clear A140
      by_cases c15 : t220 = true
      ·subst c15
       have H1 : ((quietusref07_row.f k1 a0_0 l0_1 a0_2 x7_1).bind fun t221 => (if x6_1.length < 5864062014805 then (quietusref07_Recoverable.l0 k1 a1 (x6_1 ++ [t221]) (wrap64 (x7_1 + 1)) a0_0 l0_1 a0_2) else (none))) = some r := by rw [if_pos rfl] at H; exact H
       clear H
       have H := H1
       clear H1
       replace H := Option.bind_eq_some_iff.mp H
       obtain ⟨t221, A160, H⟩ := H
       replace H : (if x6_1.length < 5864062014805 then (quietusref07_Recoverable.l0 k1 a1 (x6_1 ++ [t221]) (wrap64 (x7_1 + 1)) a0_0 l0_1 a0_2) else (none)) = some r := H
       have A16 := Aside0.mk A160
       clear A160
       by_cases c17 : x6_1.length < 5864062014805
       ·rw [if_pos c17] at H
        have LMc17 := Aside0.mk c17
        clear c17
        obtain ⟨y224, hy224⟩ : ∃ y_ : List (List Int), y_ = (x6_1 ++ [t221]) := ⟨_, rfl⟩
        replace H : (quietusref07_Recoverable.l0 k1 a1 y224 (wrap64 (x7_1 + 1)) a0_0 l0_1 a0_2) = some r := by first | (rw [hy224]; with_reducible exact H) | (have H2_ := (Option.bind_some _ _).symm.trans H; rw [hy224]; with_reducible exact H2_) | (have H2_ := (Option.bind_some _ _).symm.trans H; with_reducible exact H2_) | with_reducible exact H | (rw [hy224]; exact H) | exact H
        have Ny224 := Aside0.mk hy224
        clear hy224
        have H' := Aside0.mk H
        clear H
        have hcz18_0 : wr.cell? ⟨gb215, 0, none⟩ = some (.int .i64 a0_0) := (blk_cell BK215.out 0).trans rfl
        have hcz18_1 : wr.cell? ⟨gb215, 1, none⟩ = some (.slice A0_1 l0_1.length c0_1) := (blk_cell BK215.out 1).trans rfl
        have hcz18_2 : wr.cell? ⟨gb215, 2, none⟩ = some (.int .i64 a0_2) := (blk_cell BK215.out 2).trans rfl
        have hfz18_0 := blk_frozen BK215.out 0
        have hfz18_1 := blk_frozen BK215.out 1
        have hfz18_2 := blk_frozen BK215.out 2
        go_wp2_with (first | ((with_reducible refine gate_callee (f := 22) rfl ?_); refine goesL_ (some 19) rfl rfl Tryd.func22 (by kernel_rfl) rfl #[.agg #[.int .i64 a0_0, .slice A0_1 l0_1.length c0_1, .int .i64 a0_2]] rfl (by (try simp only [List.map_toArray, List.map_cons, List.map_nil]); first | done | rfl | (simp only [List.length_drop, List.length_take]; rfl)) ?_; (with_reducible refine (quietusref07_Pieces.calls k1 a0_0 _ _ l0_1 a0_2 t218 _ ?side1 ?side2 ?side3 A12.out).mono ?_); (case side1 => exact HG.below HGw.out (by repeat (first | (with_reducible first | exact HB.out | apply below_alloc | apply pw_below_drewN | apply below_drew1 | refine below_set ?_ GE215.out) | exact HB.out))); (case side2 => repeat (first | exact (Kd.C_below HR0_1.out HB.out) | (with_reducible refine Kd.C_alloc ?_ _) | (with_reducible refine Kd.C_drewN ?_ _) | (with_reducible refine Kd.C_drew ?_))); (case side3 => exact HC0_1.out); rintro e w19 ⟨rfl, hb⟩; refine ⟨_, rfl, ?_⟩; have n0_ := Aside0.mk (Kd.S_below (by (with_reducible repeat (first | apply Kd.S_alloc | apply Kd.S_drewN | apply Kd.S_drew)); exact HO_6.out) hb); have n1_ := Aside0.mk (blk_below (g := gb215) (o := .cells #[.int .i64 a0_0, .slice A0_1 l0_1.length c0_1, .int .i64 a0_2] 24 (0, 0)) (by (with_reducible repeat (first | refine blk_drewN ?_ _ | refine blk_drew ?_ | refine blk_alloc ?_ _)); exact BK215.out) hb); have n2_ := Aside0.mk (below_step (by repeat (first | (with_reducible first | exact HB.out | apply below_alloc | apply pw_below_drewN | apply below_drew1 | refine below_set ?_ GE215.out) | exact HB.out)) hb); clear HO_6; clear BK215; clear HB; have HO_6 := n0_; have BK215 := n1_; have HB := n2_; clear n0_ n1_ n2_; (try clear hb); (try clear hb2); (try clear hk); (try clear hi)) | ((with_reducible refine gate_callee (f := 69) rfl ?_); refine goesL_ (some 25) rfl rfl Tryd.func69 (by kernel_rfl) rfl #[.int .i64 a1, .int .i64 x7_1] rfl (by (try simp only [List.map_toArray, List.map_cons, List.map_nil]); first | done | rfl | (simp only [List.length_drop, List.length_take]; rfl)) ?_; (with_reducible refine (quietusref07_In.calls k1 a1 x7_1 true _ ?side1 A14.out).mono ?_); (case side1 => exact HG.below HGw.out (by repeat (first | (with_reducible first | exact HB.out | apply below_alloc | apply pw_below_drewN | apply below_drew1 | refine below_set ?_ GE215.out) | exact HB.out))); rintro e w' ⟨rfl, ⟨nd, rfl⟩⟩; refine ⟨_, rfl, ?_⟩; have hcz20_0 : w19.cell? ⟨gb215, 0, none⟩ = some (.int .i64 a0_0) := (blk_cell BK215.out 0).trans rfl; have hcz20_1 : w19.cell? ⟨gb215, 1, none⟩ = some (.slice A0_1 l0_1.length c0_1) := (blk_cell BK215.out 1).trans rfl; have hcz20_2 : w19.cell? ⟨gb215, 2, none⟩ = some (.int .i64 a0_2) := (blk_cell BK215.out 2).trans rfl; have hfz20_0 := blk_frozen BK215.out 0; have hfz20_1 := blk_frozen BK215.out 1; have hfz20_2 := blk_frozen BK215.out 2) | ((with_reducible refine gate_callee (f := 66) rfl ?_); refine goesL_ (some 30) rfl rfl Tryd.func66 (by kernel_rfl) rfl #[.agg #[.int .i64 a0_0, .slice A0_1 l0_1.length c0_1, .int .i64 a0_2], .int .i64 x7_1] rfl (by (try simp only [List.map_toArray, List.map_cons, List.map_nil]); first | done | rfl | (simp only [List.length_drop, List.length_take]; rfl)) ?_; (with_reducible refine (quietusref07_row.calls k1 a0_0 _ _ l0_1 a0_2 x7_1 t221 _ ?side1 ?side2 ?side3 A16.out).mono ?_); (case side1 => exact HG.below HGw.out (by repeat (first | (with_reducible first | exact HB.out | apply below_alloc | apply pw_below_drewN | apply below_drew1 | refine below_set ?_ GE215.out) | exact HB.out))); (case side2 => repeat (first | exact (Kd.C_below HR0_1.out (by repeat (first | (with_reducible first | exact HB.out | apply below_alloc | apply pw_below_drewN | apply below_drew1 | refine below_set ?_ GE215.out) | exact HB.out))) | (with_reducible refine Kd.C_alloc ?_ _) | (with_reducible refine Kd.C_drewN ?_ _) | (with_reducible refine Kd.C_drew ?_))); (case side3 => exact HC0_1.out); rintro e w21 ⟨v222, rfl, ho0, hb⟩; refine ⟨_, rfl, ?_⟩; have n0_ := Aside0.mk (Kd.S_elder' (by (with_reducible repeat (first | apply Kd.S_alloc | apply Kd.S_drewN | apply Kd.S_drew)); exact HO_6.out) (Kd.R_base ho0) hb); have n1_ := Aside0.mk (Kd.R_lower ho0 (below_size (by repeat (first | (with_reducible first | exact HB.out | apply below_alloc | apply pw_below_drewN | apply below_drew1 | refine below_set ?_ GE215.out) | exact HB.out)))); have n2_ := Aside0.mk (blk_below (g := gb215) (o := .cells #[.int .i64 a0_0, .slice A0_1 l0_1.length c0_1, .int .i64 a0_2] 24 (0, 0)) (by (with_reducible repeat (first | refine blk_drewN ?_ _ | refine blk_drew ?_ | refine blk_alloc ?_ _)); exact BK215.out) hb); have n3_ := Aside0.mk (below_step (by repeat (first | (with_reducible first | exact HB.out | apply below_alloc | apply pw_below_drewN | apply below_drew1 | refine below_set ?_ GE215.out) | exact HB.out)) hb); clear HO_6; clear BK215; clear HB; have HO_6 := n0_; have HO223 := n1_; have BK215 := n2_; have HB := n3_; clear n0_ n1_ n2_ n3_; (try clear hb); (try clear hb2); (try clear hk); (try clear hi); (try clear ho0); obtain ⟨Ao23, co23, eo23⟩ := Kd.R_slice HO223.out; subst eo23) | ((with_reducible refine gate_builtin (b := .append) (xs := #[.tmp 27, .tmp 31]) rfl ?_); at_builtin; refine Kd.S_append (Kd.slice 5 (Kd.int .u8)) (w0 := w) w.heap.size rfl (.tmp 27) (.tmp 31) 29 57 (.slice none 0 0) 24 rfl Tryd.underlying29 info57 rfl (by decide) (by omega) u6 x6_1 t221 [.slice Ao23 t221.length co23] (fun _ => True) (fun k_ => some k_ = (.slice Ao23 t221.length co23 : Value).ownBlock) rfl rfl ?aP (fun k_ hk_ => ((Kd.R_mono (ok' := fun k_ => ((fun _ => True)) k_ ∧ some k_ ≠ (u6 : Value).ownBlock) (Kd.R_apart' (HO223.out) (Kd.S_typed HO_6.out) (by decide)) (fun k_ hk => ⟨trivial, hk.2⟩))).1 k_ hk_.symm) ?aF ?aO ?aB ?aS ?aL ?_; (case aP => exact Kd.M_row (Kd.R_mono (Kd.R_tight rfl (Kd.R_mono (ok' := fun k_ => ((fun _ => True)) k_ ∧ some k_ ≠ (u6 : Value).ownBlock) (Kd.R_apart' (HO223.out) (Kd.S_typed HO_6.out) (by decide)) (fun k_ hk => ⟨trivial, hk.2⟩))) (fun _ h_ => h_))); (case aB => exact (by repeat (first | (with_reducible first | exact HB.out | apply below_alloc | apply pw_below_drewN | apply below_drew1 | refine below_set ?_ GE215.out) | exact HB.out))); (case aF => exact (fun _ _ => trivial)); (case aO => exact (by (with_reducible repeat (first | apply Kd.S_alloc | apply Kd.S_drewN | apply Kd.S_drew)); exact Kd.S_mono HO_6.out (fun k_ hk => ⟨trivial, fun e_ => hk.2 e_⟩))); (case aS => exact (below_size (by repeat (first | (with_reducible first | exact HB.out | apply below_alloc | apply pw_below_drewN | apply below_drew1 | refine below_set ?_ GE215.out) | exact HB.out)))); (case aL => have := LMc17.out; omega); intro v225 w22 ho hb hg hat; rw [← Ny224.out] at ho; have n0_ := Aside0.mk (blk_grown (g := gb215) (o := .cells #[.int .i64 a0_0, .slice A0_1 l0_1.length c0_1, .int .i64 a0_2] 24 (0, 0)) (by (with_reducible repeat (first | refine blk_drewN ?_ _ | refine blk_drew ?_ | refine blk_alloc ?_ _)); exact BK215.out) hg (Kd.S_ne HO_6.out BK215.out (by decide))); have n1_ := Aside0.mk (hb); have n2_ := Aside0.mk (ho); clear BK215; clear HB; clear HO_6; clear HO223; have BK215 := n0_; have HB := n1_; have HO226 := n2_; clear n0_ n1_ n2_; clear ho hb hg hat))
        go_roundg k1
        case measure => have := HK1.out; omega
        case rel => exact ⟨(y224), (wrap64 (x7_1 + 1)), (by first | rfl | (simp; done) | (simp [*]; done)), H', ⟨by have := HK1.out; omega⟩, ⟨by (with_reducible repeat (first | apply Kd.S_alloc | apply Kd.S_drewN | apply Kd.S_drew)); exact HO226.out⟩, ⟨by (with_reducible repeat (first | refine blk_drewN ?_ _ | refine blk_drew ?_ | refine blk_alloc ?_ _)); exact BK215.out⟩, ⟨by repeat (first | (with_reducible first | exact HB.out | apply below_alloc | apply pw_below_drewN | apply below_drew1 | refine below_set ?_ GE215.out) | exact HB.out)⟩⟩
       ·rw [if_neg c17] at H
        exact absurd H (by simp)
      ·replace c15 := Bool.eq_false_iff.mpr c15
       subst c15
       have H1 : (quietusref07_Recoverable.l0 k1 a1 x6_1 (wrap64 (x7_1 + 1)) a0_0 l0_1 a0_2) = some r := by rw [if_neg (show ¬ (false = true) by decide)] at H; exact H
       clear H
       have H := H1
       clear H1
       have H' := Aside0.mk H
       clear H
       have hcz24_0 : wr.cell? ⟨gb215, 0, none⟩ = some (.int .i64 a0_0) := (blk_cell BK215.out 0).trans rfl
       have hcz24_1 : wr.cell? ⟨gb215, 1, none⟩ = some (.slice A0_1 l0_1.length c0_1) := (blk_cell BK215.out 1).trans rfl
       have hcz24_2 : wr.cell? ⟨gb215, 2, none⟩ = some (.int .i64 a0_2) := (blk_cell BK215.out 2).trans rfl
       have hfz24_0 := blk_frozen BK215.out 0
       have hfz24_1 := blk_frozen BK215.out 1
       have hfz24_2 := blk_frozen BK215.out 2
       go_wp2_with (first | ((with_reducible refine gate_callee (f := 22) rfl ?_); refine goesL_ (some 19) rfl rfl Tryd.func22 (by kernel_rfl) rfl #[.agg #[.int .i64 a0_0, .slice A0_1 l0_1.length c0_1, .int .i64 a0_2]] rfl (by (try simp only [List.map_toArray, List.map_cons, List.map_nil]); first | done | rfl | (simp only [List.length_drop, List.length_take]; rfl)) ?_; (with_reducible refine (quietusref07_Pieces.calls k1 a0_0 _ _ l0_1 a0_2 t218 _ ?side1 ?side2 ?side3 A12.out).mono ?_); (case side1 => exact HG.below HGw.out (by repeat (first | (with_reducible first | exact HB.out | apply below_alloc | apply pw_below_drewN | apply below_drew1 | refine below_set ?_ GE215.out) | exact HB.out))); (case side2 => repeat (first | exact (Kd.C_below HR0_1.out HB.out) | (with_reducible refine Kd.C_alloc ?_ _) | (with_reducible refine Kd.C_drewN ?_ _) | (with_reducible refine Kd.C_drew ?_))); (case side3 => exact HC0_1.out); rintro e w25 ⟨rfl, hb⟩; refine ⟨_, rfl, ?_⟩; have n0_ := Aside0.mk (Kd.S_below (by (with_reducible repeat (first | apply Kd.S_alloc | apply Kd.S_drewN | apply Kd.S_drew)); exact HO_6.out) hb); have n1_ := Aside0.mk (blk_below (g := gb215) (o := .cells #[.int .i64 a0_0, .slice A0_1 l0_1.length c0_1, .int .i64 a0_2] 24 (0, 0)) (by (with_reducible repeat (first | refine blk_drewN ?_ _ | refine blk_drew ?_ | refine blk_alloc ?_ _)); exact BK215.out) hb); have n2_ := Aside0.mk (below_step (by repeat (first | (with_reducible first | exact HB.out | apply below_alloc | apply pw_below_drewN | apply below_drew1 | refine below_set ?_ GE215.out) | exact HB.out)) hb); clear HO_6; clear BK215; clear HB; have HO_6 := n0_; have BK215 := n1_; have HB := n2_; clear n0_ n1_ n2_; (try clear hb); (try clear hb2); (try clear hk); (try clear hi)) | ((with_reducible refine gate_callee (f := 69) rfl ?_); refine goesL_ (some 25) rfl rfl Tryd.func69 (by kernel_rfl) rfl #[.int .i64 a1, .int .i64 x7_1] rfl (by (try simp only [List.map_toArray, List.map_cons, List.map_nil]); first | done | rfl | (simp only [List.length_drop, List.length_take]; rfl)) ?_; (with_reducible refine (quietusref07_In.calls k1 a1 x7_1 false _ ?side1 A14.out).mono ?_); (case side1 => exact HG.below HGw.out (by repeat (first | (with_reducible first | exact HB.out | apply below_alloc | apply pw_below_drewN | apply below_drew1 | refine below_set ?_ GE215.out) | exact HB.out))); rintro e w' ⟨rfl, ⟨nd, rfl⟩⟩; refine ⟨_, rfl, ?_⟩))
       go_roundg k1
       case measure => have := HK1.out; omega
       case rel => exact ⟨(x6_1), (wrap64 (x7_1 + 1)), (by first | rfl | (simp; done) | (simp [*]; done)), H', ⟨by have := HK1.out; omega⟩, ⟨by (with_reducible repeat (first | apply Kd.S_alloc | apply Kd.S_drewN | apply Kd.S_drew)); exact HO_6.out⟩, ⟨by (with_reducible repeat (first | refine blk_drewN ?_ _ | refine blk_drew ?_ | refine blk_alloc ?_ _)); exact BK215.out⟩, ⟨by repeat (first | (with_reducible first | exact HB.out | apply below_alloc | apply pw_below_drewN | apply below_drew1 | refine below_set ?_ GE215.out) | exact HB.out)⟩⟩
     ·rw [if_neg c13] at H
      have c13b0 : decide (x7_1 < t218) = false := decide_eq_false c13
      clear c13
      replace H := Option.bind_eq_some_iff.mp H
      obtain ⟨t219, A260, H⟩ := H
      replace H : (some (t219 == a0_0)) = some r := H
      have A26 := Aside0.mk A260
      clear A260
      obtain rfl := Option.some.inj H
      have hcz27_0 : wr.cell? ⟨gb215, 0, none⟩ = some (.int .i64 a0_0) := (blk_cell BK215.out 0).trans rfl
      have hcz27_1 : wr.cell? ⟨gb215, 1, none⟩ = some (.slice A0_1 l0_1.length c0_1) := (blk_cell BK215.out 1).trans rfl
      have hcz27_2 : wr.cell? ⟨gb215, 2, none⟩ = some (.int .i64 a0_2) := (blk_cell BK215.out 2).trans rfl
      have hfz27_0 := blk_frozen BK215.out 0
      have hfz27_1 := blk_frozen BK215.out 1
      have hfz27_2 := blk_frozen BK215.out 2
      try go_wp2_with (first | ((with_reducible refine gate_callee (f := 22) rfl ?_); refine goesL_ (some 19) rfl rfl Tryd.func22 (by kernel_rfl) rfl #[.agg #[.int .i64 a0_0, .slice A0_1 l0_1.length c0_1, .int .i64 a0_2]] rfl (by (try simp only [List.map_toArray, List.map_cons, List.map_nil]); first | done | rfl | (simp only [List.length_drop, List.length_take]; rfl)) ?_; (with_reducible refine (quietusref07_Pieces.calls k1 a0_0 _ _ l0_1 a0_2 t218 _ ?side1 ?side2 ?side3 A12.out).mono ?_); (case side1 => exact HG.below HGw.out (by repeat (first | (with_reducible first | exact HB.out | apply below_alloc | apply pw_below_drewN | apply below_drew1 | refine below_set ?_ GE215.out) | exact HB.out))); (case side2 => repeat (first | exact (Kd.C_below HR0_1.out HB.out) | (with_reducible refine Kd.C_alloc ?_ _) | (with_reducible refine Kd.C_drewN ?_ _) | (with_reducible refine Kd.C_drew ?_))); (case side3 => exact HC0_1.out); rintro e w28 ⟨rfl, hb⟩; refine ⟨_, rfl, ?_⟩; have n0_ := Aside0.mk (Kd.S_below (by (with_reducible repeat (first | apply Kd.S_alloc | apply Kd.S_drewN | apply Kd.S_drew)); exact HO_6.out) hb); have n1_ := Aside0.mk (blk_below (g := gb215) (o := .cells #[.int .i64 a0_0, .slice A0_1 l0_1.length c0_1, .int .i64 a0_2] 24 (0, 0)) (by (with_reducible repeat (first | refine blk_drewN ?_ _ | refine blk_drew ?_ | refine blk_alloc ?_ _)); exact BK215.out) hb); have n2_ := Aside0.mk (below_step (by repeat (first | (with_reducible first | exact HB.out | apply below_alloc | apply pw_below_drewN | apply below_drew1 | refine below_set ?_ GE215.out) | exact HB.out)) hb); clear HO_6; clear BK215; clear HB; have HO_6 := n0_; have BK215 := n1_; have HB := n2_; clear n0_ n1_ n2_; (try clear hb); (try clear hb2); (try clear hk); (try clear hi)))
      have n0_ := Aside0.mk (Kd.S_drew HO_6.out)
      have n1_ := Aside0.mk (blk_drew BK215.out)
      have n2_ := Aside0.mk (below_drew1 HB.out)
      clear HO_6
      clear BK215
      clear HB
      have HO_6 := n0_
      have BK215 := n1_
      have HB := n2_
      clear n0_ n1_ n2_
      obtain ⟨Ao30, co30, eo30⟩ := Kd.S_slice HO_6.out
      (first | subst eo30 | (injection eo30 with f1_ f2_ f3_; have f4_ := f1_.symm; have f5_ := f3_.symm; clear f1_ f2_ f3_; subst f4_; subst f5_))
      refine start_ (n := 8) (S := fun w' => w'.cell? ⟨gb215, 0, none⟩ = some (.int .i64 a0_0) ∧ w'.cell? ⟨gb215, 1, none⟩ = some (.slice A0_1 l0_1.length c0_1) ∧ w'.cell? ⟨gb215, 2, none⟩ = some (.int .i64 a0_2)) (ds := []) #[false, false, false, false, false, false, false, false] (by kernel_rfl) rfl rfl ⟨(blk_cell BK215.out 0).trans rfl, (blk_cell BK215.out 1).trans rfl, (blk_cell BK215.out 2).trans rfl⟩ (fun hHeld => ?_); refine with_tabW quietusref07_Recoverable.tab13 quietusref07_Recoverable.bits13 (fun HT_ HW_ => ?_)
      generalize w28.drew = w29 at HO_6 BK215 HB hHeld ⊢
      refine pure_ (i := 0) (N := some 33) (v := ?_) (a' := ?_) #[true, false, false, false, false, false, false, false] rfl rfl (any_of HT_.out (by kernel_rfl)) (fun _ _ _ h => h) (Or.inl ⟨by rfl, ?_⟩) ?_ ?_
      rotate_left
      ·intro w'
       go_simp
       with_reducible rfl
      rotate_left
      ·simp only [Act.put, List.setIfInBounds_toArray, List.set_cons_zero, List.set_cons_succ, i64_w, i32_w]
       rfl
      refine pure_ (i := 1) (N := some 34) (v := ?_) (a' := ?_) #[true, true, false, false, false, false, false, false] rfl rfl (any_of HT_.out (by kernel_rfl)) (fun _ _ _ h => h) (Or.inl ⟨by rfl, ?_⟩) ?_ ?_
      rotate_left
      ·intro w'
       go_simp
       with_reducible rfl
      rotate_left
      ·simp only [Act.put, List.setIfInBounds_toArray, List.set_cons_zero, List.set_cons_succ, i64_w, i32_w]
       rfl
      refine pure_ (i := 4) (N := some 37) (v := ?_) (a' := ?_) #[true, true, false, false, true, false, false, false] rfl rfl (any_of HT_.out (by kernel_rfl)) (fun _ _ _ h => h) (Or.inl ⟨by rfl, ?_⟩) ?_ ?_
      rotate_left
      ·intro w'
       go_simp
       with_reducible rfl
      rotate_left
      ·simp only [Act.put, List.setIfInBounds_toArray, List.set_cons_zero, List.set_cons_succ, i64_w, i32_w]
       rfl
      refine take_ (i := 2) (N := some 35) (v := ?_) (a' := ?_) #[true, true, true, false, true, false, false, false] rfl rfl (take_ofW HT_.out HW_.out (by kernel_rfl)) (fun _ _ _ h => h) (Or.inl ⟨by rfl, ?_⟩) hHeld ?_ ?_
      rotate_left
      ·rintro w' ⟨s0, s1, s2⟩
       go_simp
       with_reducible rfl
      rotate_left
      ·simp only [Act.put, List.setIfInBounds_toArray, List.set_cons_zero, List.set_cons_succ, i64_w, i32_w]
       rfl
      refine take_ (i := 5) (N := some 38) (v := ?_) (a' := ?_) #[true, true, true, false, true, true, false, false] rfl rfl (take_ofW HT_.out HW_.out (by kernel_rfl)) (fun _ _ _ h => h) (Or.inl ⟨by rfl, ?_⟩) hHeld ?_ ?_
      rotate_left
      ·rintro w' ⟨s0, s1, s2⟩
       go_simp
       with_reducible rfl
      rotate_left
      ·simp only [Act.put, List.setIfInBounds_toArray, List.set_cons_zero, List.set_cons_succ, i64_w, i32_w]
       rfl
      refine one_ (i := 3) (N := some 36) #[true, true, true, true, true, true, false, false] rfl rfl (one_of HT_.out (by kernel_rfl)) (by decide) (fun K hK => ?_)
      refine goes_ Tryd.func71 (by kernel_rfl) rfl #[.slice Ao30 x6_1.length co30, .int .i64 a0_0] (by rfl) rfl rfl (by (try simp only [List.map_toArray, List.map_cons, List.map_nil]); first | done | rfl | (simp only [List.length_drop, List.length_take]; rfl)) ?_
      with_reducible refine (quietusref07_Rank.calls k1 (fun k_ => (True ∧ k_ ≠ gb215)) _ _ x6_1 a0_0 t219 _ ?side1 ?side2 A26.out).mono ?_
      (case side1 => exact HG.below HGw.out (by repeat (first | (with_reducible first | exact HB.out | apply below_alloc | apply pw_below_drewN | apply below_drew1 | refine below_set ?_ GE215.out) | exact HB.out)))
      (case side2 => exact Kd.S_V (Kd.S_types (HO_6.out) BK215.out (by decide)))
      rintro e w31 ⟨rfl, hb⟩
      refine ⟨_, rfl, ?_⟩
      have n0_ := Aside0.mk (Kd.S_below (by (with_reducible repeat (first | apply Kd.S_alloc | apply Kd.S_drewN | apply Kd.S_drew)); exact HO_6.out) hb)
      have n1_ := Aside0.mk (blk_below (g := gb215) (o := .cells #[.int .i64 a0_0, .slice A0_1 l0_1.length c0_1, .int .i64 a0_2] 24 (0, 0)) (by (with_reducible repeat (first | refine blk_drewN ?_ _ | refine blk_drew ?_ | refine blk_alloc ?_ _)); exact BK215.out) hb)
      have n2_ := Aside0.mk (below_step (by repeat (first | (with_reducible first | exact HB.out | apply below_alloc | apply pw_below_drewN | apply below_drew1 | refine below_set ?_ GE215.out) | exact HB.out)) hb)
      clear HO_6
      clear BK215
      clear HB
      have HO_6 := n0_
      have BK215 := n1_
      have HB := n2_
      clear n0_ n1_ n2_
      (try clear hb)
      (try clear hb2)
      (try clear hk)
      (try clear hi)
      refine hK.out _ _ ⟨(blk_cell BK215.out 0).trans rfl, (blk_cell BK215.out 1).trans rfl, (blk_cell BK215.out 2).trans rfl⟩ (fun hHeld => ?_)
      clear hK K
      refine norm_ (a' := ?_) ?_ ?_
      rotate_left
      ·show Act.put _ (some 36) _ = _
       simp only [Act.put, List.setIfInBounds_toArray, List.set_cons_zero, List.set_cons_succ, i64_w, i32_w]
       rfl
      refine pure_ (i := 6) (N := some 39) (v := ?_) (a' := ?_) #[true, true, true, true, true, true, true, false] rfl rfl (any_of HT_.out (by kernel_rfl)) (fun _ _ _ h => h) (Or.inl ⟨by rfl, ?_⟩) ?_ ?_
      rotate_left
      ·intro w'
       go_simp
       with_reducible rfl
      rotate_left
      ·simp only [Act.put, List.setIfInBounds_toArray, List.set_cons_zero, List.set_cons_succ, i64_w, i32_w]
       rfl
      refine pure_ (i := 7) (N := some 4) (v := ?_) (a' := ?_) #[true, true, true, true, true, true, true, true] rfl rfl (any_of HT_.out (by kernel_rfl)) (fun _ _ _ h => h) (Or.inl ⟨by rfl, ?_⟩) ?_ ?_
      rotate_left
      ·intro w'
       go_simp
       with_reducible rfl
      rotate_left
      ·simp only [Act.put, List.setIfInBounds_toArray, List.set_cons_zero, List.set_cons_succ, i64_w, i32_w]
       rfl
      refine done_ (done_of HT_.out (by kernel_rfl)) ?_
      try go_wp2
      go_ret
      exact ⟨by first | rfl | (simp [errW_none, errW_some] <;> rfl) | (simp [*, errW_none, errW_some] <;> rfl), by repeat (first | (with_reducible first | exact HB.out | apply below_alloc | apply pw_below_drewN | apply below_drew1 | refine below_set ?_ GE215.out) | exact HB.out)⟩
  ·replace c6 := Bool.eq_false_iff.mpr c6
   subst c6
   have H1 : (some false) = some r := by rw [if_neg (show ¬ (false = true) by decide)] at H; exact H
   clear H
   have H := H1
   clear H1
   obtain rfl := Option.some.inj H
   go_enter Tryd.func31, Tryd.ntmps31
   go_wp2_with (first | ((with_reducible refine gate_dst (N := 2) rfl ?_); refine box_event ?hg (N := 2) ?hd (cs := #[.int .i64 a0_0, .slice A0_1 l0_1.length c0_1, .int .i64 a0_2]) (t := 24) ?hr ?_; (case hd => rfl); (case hg => rfl); (case hr => first | (go_simp; done) | (go_simp; rfl)); intro gb215 hg w32 hbox hb; have n0_ := Aside0.mk (below_step (by repeat (first | (with_reducible first | exact HB.out | apply below_alloc | apply pw_below_drewN | apply below_drew1) | exact HB.out)) hb); have n1_ := Aside0.mk (hbox); have n2_ := Aside0.mk ((by rw [hg]; exact (below_size (by repeat (first | (with_reducible first | exact HB.out | apply below_alloc | apply pw_below_drewN | apply below_drew1) | exact HB.out))) : w.heap.size ≤ gb215)); have n3_ := Aside0.mk ((by rw [hg]; exact (below_size (by repeat (first | (with_reducible first | exact HB.out | apply below_alloc | apply pw_below_drewN | apply below_drew1) | exact HB.out))) : w.heap.size ≤ gb215)); clear HB; have HB := n0_; have BK215 := n1_; have GW215 := n2_; have GE215 := n3_; clear n0_ n1_ n2_ n3_; clear hb hbox hg; have hcz33_0 : w32.cell? ⟨gb215, 0, none⟩ = some (.int .i64 a0_0) := (blk_cell BK215.out 0).trans rfl; have hcz33_1 : w32.cell? ⟨gb215, 1, none⟩ = some (.slice A0_1 l0_1.length c0_1) := (blk_cell BK215.out 1).trans rfl; have hcz33_2 : w32.cell? ⟨gb215, 2, none⟩ = some (.int .i64 a0_2) := (blk_cell BK215.out 2).trans rfl; have hfz33_0 := blk_frozen BK215.out 0; have hfz33_1 := blk_frozen BK215.out 1; have hfz33_2 := blk_frozen BK215.out 2) | ((with_reducible refine gate_callee (f := 16) rfl ?_); refine goesL_ (some 10) rfl rfl Tryd.func16 (by kernel_rfl) rfl #[.agg #[.int .i64 a0_0, .slice A0_1 l0_1.length c0_1, .int .i64 a0_2]] rfl (by (try simp only [List.map_toArray, List.map_cons, List.map_nil]); first | done | rfl | (simp only [List.length_drop, List.length_take]; rfl)) ?_; (with_reducible refine (quietusref07_Check.calls k a0_0 _ _ l0_1 a0_2 t216 _ ?side1 ?side2 ?side3 A3.out).mono ?_); (case side1 => exact HG.below HGw.out (by repeat (first | (with_reducible first | exact HB.out | apply below_alloc | apply pw_below_drewN | apply below_drew1 | refine below_set ?_ GE215.out) | exact HB.out))); (case side2 => repeat (first | exact (Kd.C_below HR0_1.out HB.out) | (with_reducible refine Kd.C_alloc ?_ _) | (with_reducible refine Kd.C_drewN ?_ _) | (with_reducible refine Kd.C_drew ?_))); (case side3 => exact HC0_1.out); rintro e w34 ⟨rfl, hb⟩; refine ⟨_, rfl, ?_⟩; have n0_ := Aside0.mk (blk_below (g := gb215) (o := .cells #[.int .i64 a0_0, .slice A0_1 l0_1.length c0_1, .int .i64 a0_2] 24 (0, 0)) (by (with_reducible repeat (first | refine blk_drewN ?_ _ | refine blk_drew ?_ | refine blk_alloc ?_ _)); exact BK215.out) hb); have n1_ := Aside0.mk (below_step (by repeat (first | (with_reducible first | exact HB.out | apply below_alloc | apply pw_below_drewN | apply below_drew1 | refine below_set ?_ GE215.out) | exact HB.out)) hb); clear BK215; clear HB; have BK215 := n0_; have HB := n1_; clear n0_ n1_; (try clear hb); (try clear hb2); (try clear hk); (try clear hi); have hcz35_0 : w34.cell? ⟨gb215, 0, none⟩ = some (.int .i64 a0_0) := (blk_cell BK215.out 0).trans rfl; have hcz35_1 : w34.cell? ⟨gb215, 1, none⟩ = some (.slice A0_1 l0_1.length c0_1) := (blk_cell BK215.out 1).trans rfl; have hcz35_2 : w34.cell? ⟨gb215, 2, none⟩ = some (.int .i64 a0_2) := (blk_cell BK215.out 2).trans rfl; have hfz35_0 := blk_frozen BK215.out 0; have hfz35_1 := blk_frozen BK215.out 1; have hfz35_2 := blk_frozen BK215.out 2) | ((with_reducible refine gate_callee (f := 33) rfl ?_); refine goesL_ (some 14) rfl rfl Tryd.func33 (by kernel_rfl) rfl #[.agg #[.int .i64 a0_0, .slice A0_1 l0_1.length c0_1, .int .i64 a0_2], .int .i64 a1] rfl (by (try simp only [List.map_toArray, List.map_cons, List.map_nil]); first | done | rfl | (simp only [List.length_drop, List.length_take]; rfl)) ?_; (with_reducible refine (quietusref07_IsSet.calls k a0_0 _ _ l0_1 a0_2 a1 false _ ?side1 ?side2 ?side3 A5.out).mono ?_); (case side1 => exact HG.below HGw.out (by repeat (first | (with_reducible first | exact HB.out | apply below_alloc | apply pw_below_drewN | apply below_drew1 | refine below_set ?_ GE215.out) | exact HB.out))); (case side2 => repeat (first | exact (Kd.C_below HR0_1.out HB.out) | (with_reducible refine Kd.C_alloc ?_ _) | (with_reducible refine Kd.C_drewN ?_ _) | (with_reducible refine Kd.C_drew ?_))); (case side3 => exact HC0_1.out); rintro e w36 ⟨rfl, hb⟩; refine ⟨_, rfl, ?_⟩; have n0_ := Aside0.mk (blk_below (g := gb215) (o := .cells #[.int .i64 a0_0, .slice A0_1 l0_1.length c0_1, .int .i64 a0_2] 24 (0, 0)) (by (with_reducible repeat (first | refine blk_drewN ?_ _ | refine blk_drew ?_ | refine blk_alloc ?_ _)); exact BK215.out) hb); have n1_ := Aside0.mk (below_step (by repeat (first | (with_reducible first | exact HB.out | apply below_alloc | apply pw_below_drewN | apply below_drew1 | refine below_set ?_ GE215.out) | exact HB.out)) hb); clear BK215; clear HB; have BK215 := n0_; have HB := n1_; clear n0_ n1_; (try clear hb); (try clear hb2); (try clear hk); (try clear hi)))
   go_ret
   exact ⟨by first | rfl | (simp [errW_none, errW_some] <;> rfl) | (simp [*, errW_none, errW_some] <;> rfl), by repeat (first | (with_reducible first | exact HB.out | apply below_alloc | apply pw_below_drewN | apply below_drew1 | refine below_set ?_ GE215.out) | exact HB.out)⟩
 ·rw [if_neg c4] at H
  have c4b0 : (t216 == 0) = false := beq_eq_false_iff_ne.mpr c4
  have c4b1 : (t216 != 0) = true := bne_iff_ne.mpr c4
  obtain rfl := Option.some.inj H
  go_enter Tryd.func31, Tryd.ntmps31
  go_wp2_with (first | ((with_reducible refine gate_dst (N := 2) rfl ?_); refine box_event ?hg (N := 2) ?hd (cs := #[.int .i64 a0_0, .slice A0_1 l0_1.length c0_1, .int .i64 a0_2]) (t := 24) ?hr ?_; (case hd => rfl); (case hg => rfl); (case hr => first | (go_simp; done) | (go_simp; rfl)); intro gb215 hg w37 hbox hb; have n0_ := Aside0.mk (below_step (by repeat (first | (with_reducible first | exact HB.out | apply below_alloc | apply pw_below_drewN | apply below_drew1) | exact HB.out)) hb); have n1_ := Aside0.mk (hbox); have n2_ := Aside0.mk ((by rw [hg]; exact (below_size (by repeat (first | (with_reducible first | exact HB.out | apply below_alloc | apply pw_below_drewN | apply below_drew1) | exact HB.out))) : w.heap.size ≤ gb215)); have n3_ := Aside0.mk ((by rw [hg]; exact (below_size (by repeat (first | (with_reducible first | exact HB.out | apply below_alloc | apply pw_below_drewN | apply below_drew1) | exact HB.out))) : w.heap.size ≤ gb215)); clear HB; have HB := n0_; have BK215 := n1_; have GW215 := n2_; have GE215 := n3_; clear n0_ n1_ n2_ n3_; clear hb hbox hg; have hcz38_0 : w37.cell? ⟨gb215, 0, none⟩ = some (.int .i64 a0_0) := (blk_cell BK215.out 0).trans rfl; have hcz38_1 : w37.cell? ⟨gb215, 1, none⟩ = some (.slice A0_1 l0_1.length c0_1) := (blk_cell BK215.out 1).trans rfl; have hcz38_2 : w37.cell? ⟨gb215, 2, none⟩ = some (.int .i64 a0_2) := (blk_cell BK215.out 2).trans rfl; have hfz38_0 := blk_frozen BK215.out 0; have hfz38_1 := blk_frozen BK215.out 1; have hfz38_2 := blk_frozen BK215.out 2) | ((with_reducible refine gate_callee (f := 16) rfl ?_); refine goesL_ (some 10) rfl rfl Tryd.func16 (by kernel_rfl) rfl #[.agg #[.int .i64 a0_0, .slice A0_1 l0_1.length c0_1, .int .i64 a0_2]] rfl (by (try simp only [List.map_toArray, List.map_cons, List.map_nil]); first | done | rfl | (simp only [List.length_drop, List.length_take]; rfl)) ?_; (with_reducible refine (quietusref07_Check.calls k a0_0 _ _ l0_1 a0_2 t216 _ ?side1 ?side2 ?side3 A3.out).mono ?_); (case side1 => exact HG.below HGw.out (by repeat (first | (with_reducible first | exact HB.out | apply below_alloc | apply pw_below_drewN | apply below_drew1 | refine below_set ?_ GE215.out) | exact HB.out))); (case side2 => repeat (first | exact (Kd.C_below HR0_1.out HB.out) | (with_reducible refine Kd.C_alloc ?_ _) | (with_reducible refine Kd.C_drewN ?_ _) | (with_reducible refine Kd.C_drew ?_))); (case side3 => exact HC0_1.out); rintro e w39 ⟨rfl, hb⟩; refine ⟨_, rfl, ?_⟩; have n0_ := Aside0.mk (blk_below (g := gb215) (o := .cells #[.int .i64 a0_0, .slice A0_1 l0_1.length c0_1, .int .i64 a0_2] 24 (0, 0)) (by (with_reducible repeat (first | refine blk_drewN ?_ _ | refine blk_drew ?_ | refine blk_alloc ?_ _)); exact BK215.out) hb); have n1_ := Aside0.mk (below_step (by repeat (first | (with_reducible first | exact HB.out | apply below_alloc | apply pw_below_drewN | apply below_drew1 | refine below_set ?_ GE215.out) | exact HB.out)) hb); clear BK215; clear HB; have BK215 := n0_; have HB := n1_; clear n0_ n1_; (try clear hb); (try clear hb2); (try clear hk); (try clear hi)))
  go_ret
  exact ⟨by first | rfl | (simp [errW_none, errW_some] <;> rfl) | (simp [*, errW_none, errW_some] <;> rfl), by repeat (first | (with_reducible first | exact HB.out | apply below_alloc | apply pw_below_drewN | apply below_drew1 | refine below_set ?_ GE215.out) | exact HB.out)⟩


/-! ### quietusref07_Distance: function 34 -/
def quietusref07_Distance.l0 : Nat → Int → Int → Int → List (List Int) → Int → Option (Int)
 | 0, _, _, _, _, _ => none
 | k + 1, x3, x4, x228000, x228001, x228002 => (quietusref07_Pieces.f k x228000 x228001 x228002).bind fun t229 => ((quietusref07_Bit.f k t229).bind fun t230 => (if x4 < t230 then ((quietusref07_Pieces.f k x228000 x228001 x228002).bind fun t231 => ((quietusref07_Count.f k x4).bind fun t232 => (if (wrap64 (t231 - t232)) < x3 then ((quietusref07_Recoverable.f k x228000 x228001 x228002 x4).bind fun t233 => (if t233 = true then (quietusref07_Distance.l0 k x3 (wrap64 (x4 + 1)) x228000 x228001 x228002) else (quietusref07_Distance.l0 k (wrap64 (t231 - t232)) (wrap64 (x4 + 1)) x228000 x228001 x228002))) else (quietusref07_Distance.l0 k x3 (wrap64 (x4 + 1)) x228000 x228001 x228002)))) else (some x3)))
def quietusref07_Distance.f (k : Nat) (a0_0 : Int) (l0_1 : List (List Int)) (a0_2 : Int) : Option (Int) := (quietusref07_Pieces.f k a0_0 l0_1 a0_2).bind fun t228 => (quietusref07_Distance.l0 k t228 0 a0_0 l0_1 a0_2)
set_option maxHeartbeats 8000000 in
set_option maxRecDepth 100000 in
theorem quietusref07_Distance.calls (k : Nat) (a0_0 : Int) (A0_1 : Option Addr) (c0_1 : Nat) (l0_1 : List (List Int)) (a0_2 : Int) (r : Int) (w : World) (hG : HG w) (hr0_1 : Kd.C (Kd.slice 3 (Kd.int .i64)) w A0_1 l0_1.length l0_1) (hc0_1 : l0_1.length ≤ c0_1) (h : quietusref07_Distance.f k a0_0 l0_1 a0_2 = some r) :
  Calls Tryd.prog 34 #[.agg #[.int .i64 a0_0, .slice A0_1 l0_1.length c0_1, .int .i64 a0_2]] w fun e w' => e = .returned (.int .i64 r) ∧ Below w.heap.size w w' := by
 have HGw := Aside0.mk hG
 clear hG
 have hu24 := Tryd.underlying24
 have HR0_1 := Aside0.mk hr0_1
 have HC0_1 := Aside0.mk hc0_1
 clear hr0_1 hc0_1
 have HB := Aside0.mk (Below.refl w.heap.size w)
 have H : ((quietusref07_Pieces.f k a0_0 l0_1 a0_2).bind fun t228 => (quietusref07_Distance.l0 k t228 0 a0_0 l0_1 a0_2)) = some r := h
 clear h
 replace H := Option.bind_eq_some_iff.mp H
 obtain ⟨t228, A20, H⟩ := H
 replace H : (quietusref07_Distance.l0 k t228 0 a0_0 l0_1 a0_2) = some r := H
 have A2 := Aside0.mk A20
 clear A20
 have H' := Aside0.mk H
 clear H
 go_enter Tryd.func34, Tryd.ntmps34
 go_wp2_with (first | ((with_reducible refine gate_dst (N := 1) rfl ?_); refine box_event ?hg (N := 1) ?hd (cs := #[.int .i64 a0_0, .slice A0_1 l0_1.length c0_1, .int .i64 a0_2]) (t := 24) ?hr ?_; (case hd => rfl); (case hg => rfl); (case hr => first | (go_simp; done) | (go_simp; rfl)); intro gb227 hg w3 hbox hb; have n0_ := Aside0.mk (below_step (by repeat (first | (with_reducible first | exact HB.out | apply below_alloc | apply pw_below_drewN | apply below_drew1) | exact HB.out)) hb); have n1_ := Aside0.mk (hbox); have n2_ := Aside0.mk ((by rw [hg]; exact (below_size (by repeat (first | (with_reducible first | exact HB.out | apply below_alloc | apply pw_below_drewN | apply below_drew1) | exact HB.out))) : w.heap.size ≤ gb227)); have n3_ := Aside0.mk ((by rw [hg]; exact (below_size (by repeat (first | (with_reducible first | exact HB.out | apply below_alloc | apply pw_below_drewN | apply below_drew1) | exact HB.out))) : w.heap.size ≤ gb227)); clear HB; have HB := n0_; have BK227 := n1_; have GW227 := n2_; have GE227 := n3_; clear n0_ n1_ n2_ n3_; clear hb hbox hg; have hcz4_0 : w3.cell? ⟨gb227, 0, none⟩ = some (.int .i64 a0_0) := (blk_cell BK227.out 0).trans rfl; have hcz4_1 : w3.cell? ⟨gb227, 1, none⟩ = some (.slice A0_1 l0_1.length c0_1) := (blk_cell BK227.out 1).trans rfl; have hcz4_2 : w3.cell? ⟨gb227, 2, none⟩ = some (.int .i64 a0_2) := (blk_cell BK227.out 2).trans rfl; have hfz4_0 := blk_frozen BK227.out 0; have hfz4_1 := blk_frozen BK227.out 1; have hfz4_2 := blk_frozen BK227.out 2) | ((with_reducible refine gate_callee (f := 22) rfl ?_); refine goesL_ (some 8) rfl rfl Tryd.func22 (by kernel_rfl) rfl #[.agg #[.int .i64 a0_0, .slice A0_1 l0_1.length c0_1, .int .i64 a0_2]] rfl (by (try simp only [List.map_toArray, List.map_cons, List.map_nil]); first | done | rfl | (simp only [List.length_drop, List.length_take]; rfl)) ?_; (with_reducible refine (quietusref07_Pieces.calls k a0_0 _ _ l0_1 a0_2 t228 _ ?side1 ?side2 ?side3 A2.out).mono ?_); (case side1 => exact HG.below HGw.out (by repeat (first | (with_reducible first | exact HB.out | apply below_alloc | apply pw_below_drewN | apply below_drew1 | refine below_set ?_ GE227.out) | exact HB.out))); (case side2 => repeat (first | exact (Kd.C_below HR0_1.out HB.out) | (with_reducible refine Kd.C_alloc ?_ _) | (with_reducible refine Kd.C_drewN ?_ _) | (with_reducible refine Kd.C_drew ?_))); (case side3 => exact HC0_1.out); rintro e w5 ⟨rfl, hb⟩; refine ⟨_, rfl, ?_⟩; have n0_ := Aside0.mk (blk_below (g := gb227) (o := .cells #[.int .i64 a0_0, .slice A0_1 l0_1.length c0_1, .int .i64 a0_2] 24 (0, 0)) (by (with_reducible repeat (first | refine blk_drewN ?_ _ | refine blk_drew ?_ | refine blk_alloc ?_ _)); exact BK227.out) hb); have n1_ := Aside0.mk (below_step (by repeat (first | (with_reducible first | exact HB.out | apply below_alloc | apply pw_below_drewN | apply below_drew1 | refine below_set ?_ GE227.out) | exact HB.out)) hb); clear BK227; clear HB; have BK227 := n0_; have HB := n1_; clear n0_ n1_; (try clear hb); (try clear hb2); (try clear hk); (try clear hi)))
 go_loopg [3, 4] k (fun kq v3 v4 w' => ∃ (x3_1 : Int) (x4_1 : Int), v3 = .int .i64 x3_1 ∧ v4 = .int .i64 x4_1 ∧ Aside0 (quietusref07_Distance.l0 kq x3_1 x4_1 a0_0 l0_1 a0_2 = some r) ∧ Aside0 (kq ≤ k) ∧ Aside0 (w'.heap[gb227]? = some (.cells #[.int .i64 a0_0, (.slice A0_1 l0_1.length c0_1), .int .i64 a0_2] 24 (0, 0))) ∧ Aside0 (Below w.heap.size w w'))
 case atStart => exact ⟨(t228), (0), (by first | rfl | (simp; done) | (simp [*]; done)), (by first | rfl | (simp; done) | (simp [*]; done)), H', ⟨Nat.le_refl _⟩, ⟨by (with_reducible repeat (first | refine blk_drewN ?_ _ | refine blk_drew ?_ | refine blk_alloc ?_ _)); exact BK227.out⟩, ⟨by repeat (first | (with_reducible first | exact HB.out | apply below_alloc | apply pw_below_drewN | apply below_drew1 | refine below_set ?_ GE227.out) | exact HB.out)⟩⟩
 case round =>
  clear H'
  try clear c2
  try clear p2
  try clear c3
  try clear hcz4_0
  try clear hcz4_1
  try clear hcz4_2
  try clear hfz4_0
  try clear hfz4_1
  try clear hfz4_2
  obtain ⟨x3_1, x4_1, rfl, rfl, HA, HK1, BK227, HB⟩ := hrel
  cases gk with
  | zero => exact absurd HA.out (by simp [quietusref07_Distance.l0])
  | succ k1 =>
   have H := HA.out
   clear HA
   simp only [quietusref07_Distance.l0] at H
   replace H := Option.bind_eq_some_iff.mp H
   obtain ⟨t229, A60, H⟩ := H
   replace H : ((quietusref07_Bit.f k1 t229).bind fun t230 => (if x4_1 < t230 then ((quietusref07_Pieces.f k1 a0_0 l0_1 a0_2).bind fun t231 => ((quietusref07_Count.f k1 x4_1).bind fun t232 => (if (wrap64 (t231 - t232)) < x3_1 then ((quietusref07_Recoverable.f k1 a0_0 l0_1 a0_2 x4_1).bind fun t233 => (if t233 = true then (quietusref07_Distance.l0 k1 x3_1 (wrap64 (x4_1 + 1)) a0_0 l0_1 a0_2) else (quietusref07_Distance.l0 k1 (wrap64 (t231 - t232)) (wrap64 (x4_1 + 1)) a0_0 l0_1 a0_2))) else (quietusref07_Distance.l0 k1 x3_1 (wrap64 (x4_1 + 1)) a0_0 l0_1 a0_2)))) else (some x3_1))) = some r := H
   have A6 := Aside0.mk A60
   clear A60
   replace H := Option.bind_eq_some_iff.mp H
   obtain ⟨t230, A70, H⟩ := H
   replace H : (if x4_1 < t230 then ((quietusref07_Pieces.f k1 a0_0 l0_1 a0_2).bind fun t231 => ((quietusref07_Count.f k1 x4_1).bind fun t232 => (if (wrap64 (t231 - t232)) < x3_1 then ((quietusref07_Recoverable.f k1 a0_0 l0_1 a0_2 x4_1).bind fun t233 => (if t233 = true then (quietusref07_Distance.l0 k1 x3_1 (wrap64 (x4_1 + 1)) a0_0 l0_1 a0_2) else (quietusref07_Distance.l0 k1 (wrap64 (t231 - t232)) (wrap64 (x4_1 + 1)) a0_0 l0_1 a0_2))) else (quietusref07_Distance.l0 k1 x3_1 (wrap64 (x4_1 + 1)) a0_0 l0_1 a0_2)))) else (some x3_1)) = some r := H
   have A7 := Aside0.mk A70
   clear A70
   by_cases c8 : x4_1 < t230
   ·rw [if_pos c8] at H
    have c8b0 : decide (x4_1 < t230) = true := decide_eq_true c8
    clear c8
    replace H := Option.bind_eq_some_iff.mp H
    obtain ⟨t231, A90, H⟩ := H
    replace H : ((quietusref07_Count.f k1 x4_1).bind fun t232 => (if (wrap64 (t231 - t232)) < x3_1 then ((quietusref07_Recoverable.f k1 a0_0 l0_1 a0_2 x4_1).bind fun t233 => (if t233 = true then (quietusref07_Distance.l0 k1 x3_1 (wrap64 (x4_1 + 1)) a0_0 l0_1 a0_2) else (quietusref07_Distance.l0 k1 (wrap64 (t231 - t232)) (wrap64 (x4_1 + 1)) a0_0 l0_1 a0_2))) else (quietusref07_Distance.l0 k1 x3_1 (wrap64 (x4_1 + 1)) a0_0 l0_1 a0_2))) = some r := H
    have A9 := Aside0.mk A90
    clear A90
    replace H := Option.bind_eq_some_iff.mp H
    obtain ⟨t232, A100, H⟩ := H
    replace H : (if (wrap64 (t231 - t232)) < x3_1 then ((quietusref07_Recoverable.f k1 a0_0 l0_1 a0_2 x4_1).bind fun t233 => (if t233 = true then (quietusref07_Distance.l0 k1 x3_1 (wrap64 (x4_1 + 1)) a0_0 l0_1 a0_2) else (quietusref07_Distance.l0 k1 (wrap64 (t231 - t232)) (wrap64 (x4_1 + 1)) a0_0 l0_1 a0_2))) else (quietusref07_Distance.l0 k1 x3_1 (wrap64 (x4_1 + 1)) a0_0 l0_1 a0_2)) = some r := H
    have A10 := Aside0.mk A100
    clear A100
    by_cases c11 : (wrap64 (t231 - t232)) < x3_1
    ·rw [if_pos c11] at H
     have c11b0 : decide ((wrap64 (t231 - t232)) < x3_1) = true := decide_eq_true c11
     clear c11
     replace H := Option.bind_eq_some_iff.mp H
     obtain ⟨t233, A120, H⟩ := H
     replace H : (if t233 = true then (quietusref07_Distance.l0 k1 x3_1 (wrap64 (x4_1 + 1)) a0_0 l0_1 a0_2) else (quietusref07_Distance.l0 k1 (wrap64 (t231 - t232)) (wrap64 (x4_1 + 1)) a0_0 l0_1 a0_2)) = some r := H
     have A12 := Aside0.mk A120
     clear A120
     by_cases c13 : t233 = true
     ·subst c13
      have H1 : (quietusref07_Distance.l0 k1 x3_1 (wrap64 (x4_1 + 1)) a0_0 l0_1 a0_2) = some r := by rw [if_pos rfl] at H; exact H
      clear H
      have H := H1
      clear H1
      have H' := Aside0.mk H
      clear H
      have hcz14_0 : wr.cell? ⟨gb227, 0, none⟩ = some (.int .i64 a0_0) := (blk_cell BK227.out 0).trans rfl
      have hcz14_1 : wr.cell? ⟨gb227, 1, none⟩ = some (.slice A0_1 l0_1.length c0_1) := (blk_cell BK227.out 1).trans rfl
      have hcz14_2 : wr.cell? ⟨gb227, 2, none⟩ = some (.int .i64 a0_2) := (blk_cell BK227.out 2).trans rfl
      have hfz14_0 := blk_frozen BK227.out 0
      have hfz14_1 := blk_frozen BK227.out 1
      have hfz14_2 := blk_frozen BK227.out 2
      go_wp2_with (first | ((with_reducible refine gate_callee (f := 22) rfl ?_); refine goesL_ (some 11) rfl rfl Tryd.func22 (by kernel_rfl) rfl #[.agg #[.int .i64 a0_0, .slice A0_1 l0_1.length c0_1, .int .i64 a0_2]] rfl (by (try simp only [List.map_toArray, List.map_cons, List.map_nil]); first | done | rfl | (simp only [List.length_drop, List.length_take]; rfl)) ?_; (with_reducible refine (quietusref07_Pieces.calls k1 a0_0 _ _ l0_1 a0_2 t229 _ ?side1 ?side2 ?side3 A6.out).mono ?_); (case side1 => exact HG.below HGw.out (by repeat (first | (with_reducible first | exact HB.out | apply below_alloc | apply pw_below_drewN | apply below_drew1 | refine below_set ?_ GE227.out) | exact HB.out))); (case side2 => repeat (first | exact (Kd.C_below HR0_1.out HB.out) | (with_reducible refine Kd.C_alloc ?_ _) | (with_reducible refine Kd.C_drewN ?_ _) | (with_reducible refine Kd.C_drew ?_))); (case side3 => exact HC0_1.out); rintro e w15 ⟨rfl, hb⟩; refine ⟨_, rfl, ?_⟩; have n0_ := Aside0.mk (blk_below (g := gb227) (o := .cells #[.int .i64 a0_0, .slice A0_1 l0_1.length c0_1, .int .i64 a0_2] 24 (0, 0)) (by (with_reducible repeat (first | refine blk_drewN ?_ _ | refine blk_drew ?_ | refine blk_alloc ?_ _)); exact BK227.out) hb); have n1_ := Aside0.mk (below_step (by repeat (first | (with_reducible first | exact HB.out | apply below_alloc | apply pw_below_drewN | apply below_drew1 | refine below_set ?_ GE227.out) | exact HB.out)) hb); clear BK227; clear HB; have BK227 := n0_; have HB := n1_; clear n0_ n1_; (try clear hb); (try clear hb2); (try clear hk); (try clear hi)) | ((with_reducible refine gate_callee (f := 73) rfl ?_); refine goesL_ (some 12) rfl rfl Tryd.func73 (by kernel_rfl) rfl #[.int .i64 t229] rfl (by (try simp only [List.map_toArray, List.map_cons, List.map_nil]); first | done | rfl | (simp only [List.length_drop, List.length_take]; rfl)) ?_; (with_reducible refine (quietusref07_Bit.calls k1 t229 t230 _ ?side1 A7.out).mono ?_); (case side1 => exact HG.below HGw.out (by repeat (first | (with_reducible first | exact HB.out | apply below_alloc | apply pw_below_drewN | apply below_drew1 | refine below_set ?_ GE227.out) | exact HB.out))); rintro e w' ⟨rfl, ⟨nd, rfl⟩⟩; refine ⟨_, rfl, ?_⟩; have hcz16_0 : w15.cell? ⟨gb227, 0, none⟩ = some (.int .i64 a0_0) := (blk_cell BK227.out 0).trans rfl; have hcz16_1 : w15.cell? ⟨gb227, 1, none⟩ = some (.slice A0_1 l0_1.length c0_1) := (blk_cell BK227.out 1).trans rfl; have hcz16_2 : w15.cell? ⟨gb227, 2, none⟩ = some (.int .i64 a0_2) := (blk_cell BK227.out 2).trans rfl; have hfz16_0 := blk_frozen BK227.out 0; have hfz16_1 := blk_frozen BK227.out 1; have hfz16_2 := blk_frozen BK227.out 2) | ((with_reducible refine gate_callee (f := 22) rfl ?_); refine goesL_ (some 17) rfl rfl Tryd.func22 (by kernel_rfl) rfl #[.agg #[.int .i64 a0_0, .slice A0_1 l0_1.length c0_1, .int .i64 a0_2]] rfl (by (try simp only [List.map_toArray, List.map_cons, List.map_nil]); first | done | rfl | (simp only [List.length_drop, List.length_take]; rfl)) ?_; (with_reducible refine (quietusref07_Pieces.calls k1 a0_0 _ _ l0_1 a0_2 t231 _ ?side1 ?side2 ?side3 A9.out).mono ?_); (case side1 => exact HG.below HGw.out (by repeat (first | (with_reducible first | exact HB.out | apply below_alloc | apply pw_below_drewN | apply below_drew1 | refine below_set ?_ GE227.out) | exact HB.out))); (case side2 => repeat (first | exact (Kd.C_below HR0_1.out (by repeat (first | (with_reducible first | exact HB.out | apply below_alloc | apply pw_below_drewN | apply below_drew1 | refine below_set ?_ GE227.out) | exact HB.out))) | (with_reducible refine Kd.C_alloc ?_ _) | (with_reducible refine Kd.C_drewN ?_ _) | (with_reducible refine Kd.C_drew ?_))); (case side3 => exact HC0_1.out); rintro e w17 ⟨rfl, hb⟩; refine ⟨_, rfl, ?_⟩; have n0_ := Aside0.mk (blk_below (g := gb227) (o := .cells #[.int .i64 a0_0, .slice A0_1 l0_1.length c0_1, .int .i64 a0_2] 24 (0, 0)) (by (with_reducible repeat (first | refine blk_drewN ?_ _ | refine blk_drew ?_ | refine blk_alloc ?_ _)); exact BK227.out) hb); have n1_ := Aside0.mk (below_step (by repeat (first | (with_reducible first | exact HB.out | apply below_alloc | apply pw_below_drewN | apply below_drew1 | refine below_set ?_ GE227.out) | exact HB.out)) hb); clear BK227; clear HB; have BK227 := n0_; have HB := n1_; clear n0_ n1_; (try clear hb); (try clear hb2); (try clear hk); (try clear hi)) | ((with_reducible refine gate_callee (f := 35) rfl ?_); refine goesL_ (some 19) rfl rfl Tryd.func35 (by kernel_rfl) rfl #[.int .i64 x4_1] rfl (by (try simp only [List.map_toArray, List.map_cons, List.map_nil]); first | done | rfl | (simp only [List.length_drop, List.length_take]; rfl)) ?_; (with_reducible refine (quietusref07_Count.calls k1 x4_1 t232 _ ?side1 A10.out).mono ?_); (case side1 => exact HG.below HGw.out (by repeat (first | (with_reducible first | exact HB.out | apply below_alloc | apply pw_below_drewN | apply below_drew1 | refine below_set ?_ GE227.out) | exact HB.out))); rintro e w' ⟨rfl, ⟨nd, rfl⟩⟩; refine ⟨_, rfl, ?_⟩; have hcz18_0 : w17.cell? ⟨gb227, 0, none⟩ = some (.int .i64 a0_0) := (blk_cell BK227.out 0).trans rfl; have hcz18_1 : w17.cell? ⟨gb227, 1, none⟩ = some (.slice A0_1 l0_1.length c0_1) := (blk_cell BK227.out 1).trans rfl; have hcz18_2 : w17.cell? ⟨gb227, 2, none⟩ = some (.int .i64 a0_2) := (blk_cell BK227.out 2).trans rfl; have hfz18_0 := blk_frozen BK227.out 0; have hfz18_1 := blk_frozen BK227.out 1; have hfz18_2 := blk_frozen BK227.out 2) | ((with_reducible refine gate_callee (f := 31) rfl ?_); refine goesL_ (some 26) rfl rfl Tryd.func31 (by kernel_rfl) rfl #[.agg #[.int .i64 a0_0, .slice A0_1 l0_1.length c0_1, .int .i64 a0_2], .int .i64 x4_1] rfl (by (try simp only [List.map_toArray, List.map_cons, List.map_nil]); first | done | rfl | (simp only [List.length_drop, List.length_take]; rfl)) ?_; (with_reducible refine (quietusref07_Recoverable.calls k1 a0_0 _ _ l0_1 a0_2 x4_1 true _ ?side1 ?side2 ?side3 A12.out).mono ?_); (case side1 => exact HG.below HGw.out (by repeat (first | (with_reducible first | exact HB.out | apply below_alloc | apply pw_below_drewN | apply below_drew1 | refine below_set ?_ GE227.out) | exact HB.out))); (case side2 => repeat (first | exact (Kd.C_below HR0_1.out (by repeat (first | (with_reducible first | exact HB.out | apply below_alloc | apply pw_below_drewN | apply below_drew1 | refine below_set ?_ GE227.out) | exact HB.out))) | (with_reducible refine Kd.C_alloc ?_ _) | (with_reducible refine Kd.C_drewN ?_ _) | (with_reducible refine Kd.C_drew ?_))); (case side3 => exact HC0_1.out); rintro e w19 ⟨rfl, hb⟩; refine ⟨_, rfl, ?_⟩; have n0_ := Aside0.mk (blk_below (g := gb227) (o := .cells #[.int .i64 a0_0, .slice A0_1 l0_1.length c0_1, .int .i64 a0_2] 24 (0, 0)) (by (with_reducible repeat (first | refine blk_drewN ?_ _ | refine blk_drew ?_ | refine blk_alloc ?_ _)); exact BK227.out) hb); have n1_ := Aside0.mk (below_step (by repeat (first | (with_reducible first | exact HB.out | apply below_alloc | apply pw_below_drewN | apply below_drew1 | refine below_set ?_ GE227.out) | exact HB.out)) hb); clear BK227; clear HB; have BK227 := n0_; have HB := n1_; clear n0_ n1_; (try clear hb); (try clear hb2); (try clear hk); (try clear hi)))
      go_roundg k1
      case measure => have := HK1.out; omega
      case rel => exact ⟨(x3_1), (wrap64 (x4_1 + 1)), (by first | rfl | (simp; done) | (simp [*]; done)), (by first | rfl | (simp; done) | (simp [*]; done)), H', ⟨by have := HK1.out; omega⟩, ⟨by (with_reducible repeat (first | refine blk_drewN ?_ _ | refine blk_drew ?_ | refine blk_alloc ?_ _)); exact BK227.out⟩, ⟨by repeat (first | (with_reducible first | exact HB.out | apply below_alloc | apply pw_below_drewN | apply below_drew1 | refine below_set ?_ GE227.out) | exact HB.out)⟩⟩
     ·replace c13 := Bool.eq_false_iff.mpr c13
      subst c13
      have H1 : (quietusref07_Distance.l0 k1 (wrap64 (t231 - t232)) (wrap64 (x4_1 + 1)) a0_0 l0_1 a0_2) = some r := by rw [if_neg (show ¬ (false = true) by decide)] at H; exact H
      clear H
      have H := H1
      clear H1
      have H' := Aside0.mk H
      clear H
      have hcz20_0 : wr.cell? ⟨gb227, 0, none⟩ = some (.int .i64 a0_0) := (blk_cell BK227.out 0).trans rfl
      have hcz20_1 : wr.cell? ⟨gb227, 1, none⟩ = some (.slice A0_1 l0_1.length c0_1) := (blk_cell BK227.out 1).trans rfl
      have hcz20_2 : wr.cell? ⟨gb227, 2, none⟩ = some (.int .i64 a0_2) := (blk_cell BK227.out 2).trans rfl
      have hfz20_0 := blk_frozen BK227.out 0
      have hfz20_1 := blk_frozen BK227.out 1
      have hfz20_2 := blk_frozen BK227.out 2
      go_wp2_with (first | ((with_reducible refine gate_callee (f := 22) rfl ?_); refine goesL_ (some 11) rfl rfl Tryd.func22 (by kernel_rfl) rfl #[.agg #[.int .i64 a0_0, .slice A0_1 l0_1.length c0_1, .int .i64 a0_2]] rfl (by (try simp only [List.map_toArray, List.map_cons, List.map_nil]); first | done | rfl | (simp only [List.length_drop, List.length_take]; rfl)) ?_; (with_reducible refine (quietusref07_Pieces.calls k1 a0_0 _ _ l0_1 a0_2 t229 _ ?side1 ?side2 ?side3 A6.out).mono ?_); (case side1 => exact HG.below HGw.out (by repeat (first | (with_reducible first | exact HB.out | apply below_alloc | apply pw_below_drewN | apply below_drew1 | refine below_set ?_ GE227.out) | exact HB.out))); (case side2 => repeat (first | exact (Kd.C_below HR0_1.out HB.out) | (with_reducible refine Kd.C_alloc ?_ _) | (with_reducible refine Kd.C_drewN ?_ _) | (with_reducible refine Kd.C_drew ?_))); (case side3 => exact HC0_1.out); rintro e w21 ⟨rfl, hb⟩; refine ⟨_, rfl, ?_⟩; have n0_ := Aside0.mk (blk_below (g := gb227) (o := .cells #[.int .i64 a0_0, .slice A0_1 l0_1.length c0_1, .int .i64 a0_2] 24 (0, 0)) (by (with_reducible repeat (first | refine blk_drewN ?_ _ | refine blk_drew ?_ | refine blk_alloc ?_ _)); exact BK227.out) hb); have n1_ := Aside0.mk (below_step (by repeat (first | (with_reducible first | exact HB.out | apply below_alloc | apply pw_below_drewN | apply below_drew1 | refine below_set ?_ GE227.out) | exact HB.out)) hb); clear BK227; clear HB; have BK227 := n0_; have HB := n1_; clear n0_ n1_; (try clear hb); (try clear hb2); (try clear hk); (try clear hi)) | ((with_reducible refine gate_callee (f := 73) rfl ?_); refine goesL_ (some 12) rfl rfl Tryd.func73 (by kernel_rfl) rfl #[.int .i64 t229] rfl (by (try simp only [List.map_toArray, List.map_cons, List.map_nil]); first | done | rfl | (simp only [List.length_drop, List.length_take]; rfl)) ?_; (with_reducible refine (quietusref07_Bit.calls k1 t229 t230 _ ?side1 A7.out).mono ?_); (case side1 => exact HG.below HGw.out (by repeat (first | (with_reducible first | exact HB.out | apply below_alloc | apply pw_below_drewN | apply below_drew1 | refine below_set ?_ GE227.out) | exact HB.out))); rintro e w' ⟨rfl, ⟨nd, rfl⟩⟩; refine ⟨_, rfl, ?_⟩; have hcz22_0 : w21.cell? ⟨gb227, 0, none⟩ = some (.int .i64 a0_0) := (blk_cell BK227.out 0).trans rfl; have hcz22_1 : w21.cell? ⟨gb227, 1, none⟩ = some (.slice A0_1 l0_1.length c0_1) := (blk_cell BK227.out 1).trans rfl; have hcz22_2 : w21.cell? ⟨gb227, 2, none⟩ = some (.int .i64 a0_2) := (blk_cell BK227.out 2).trans rfl; have hfz22_0 := blk_frozen BK227.out 0; have hfz22_1 := blk_frozen BK227.out 1; have hfz22_2 := blk_frozen BK227.out 2) | ((with_reducible refine gate_callee (f := 22) rfl ?_); refine goesL_ (some 17) rfl rfl Tryd.func22 (by kernel_rfl) rfl #[.agg #[.int .i64 a0_0, .slice A0_1 l0_1.length c0_1, .int .i64 a0_2]] rfl (by (try simp only [List.map_toArray, List.map_cons, List.map_nil]); first | done | rfl | (simp only [List.length_drop, List.length_take]; rfl)) ?_; (with_reducible refine (quietusref07_Pieces.calls k1 a0_0 _ _ l0_1 a0_2 t231 _ ?side1 ?side2 ?side3 A9.out).mono ?_); (case side1 => exact HG.below HGw.out (by repeat (first | (with_reducible first | exact HB.out | apply below_alloc | apply pw_below_drewN | apply below_drew1 | refine below_set ?_ GE227.out) | exact HB.out))); (case side2 => repeat (first | exact (Kd.C_below HR0_1.out (by repeat (first | (with_reducible first | exact HB.out | apply below_alloc | apply pw_below_drewN | apply below_drew1 | refine below_set ?_ GE227.out) | exact HB.out))) | (with_reducible refine Kd.C_alloc ?_ _) | (with_reducible refine Kd.C_drewN ?_ _) | (with_reducible refine Kd.C_drew ?_))); (case side3 => exact HC0_1.out); rintro e w23 ⟨rfl, hb⟩; refine ⟨_, rfl, ?_⟩; have n0_ := Aside0.mk (blk_below (g := gb227) (o := .cells #[.int .i64 a0_0, .slice A0_1 l0_1.length c0_1, .int .i64 a0_2] 24 (0, 0)) (by (with_reducible repeat (first | refine blk_drewN ?_ _ | refine blk_drew ?_ | refine blk_alloc ?_ _)); exact BK227.out) hb); have n1_ := Aside0.mk (below_step (by repeat (first | (with_reducible first | exact HB.out | apply below_alloc | apply pw_below_drewN | apply below_drew1 | refine below_set ?_ GE227.out) | exact HB.out)) hb); clear BK227; clear HB; have BK227 := n0_; have HB := n1_; clear n0_ n1_; (try clear hb); (try clear hb2); (try clear hk); (try clear hi)) | ((with_reducible refine gate_callee (f := 35) rfl ?_); refine goesL_ (some 19) rfl rfl Tryd.func35 (by kernel_rfl) rfl #[.int .i64 x4_1] rfl (by (try simp only [List.map_toArray, List.map_cons, List.map_nil]); first | done | rfl | (simp only [List.length_drop, List.length_take]; rfl)) ?_; (with_reducible refine (quietusref07_Count.calls k1 x4_1 t232 _ ?side1 A10.out).mono ?_); (case side1 => exact HG.below HGw.out (by repeat (first | (with_reducible first | exact HB.out | apply below_alloc | apply pw_below_drewN | apply below_drew1 | refine below_set ?_ GE227.out) | exact HB.out))); rintro e w' ⟨rfl, ⟨nd, rfl⟩⟩; refine ⟨_, rfl, ?_⟩; have hcz24_0 : w23.cell? ⟨gb227, 0, none⟩ = some (.int .i64 a0_0) := (blk_cell BK227.out 0).trans rfl; have hcz24_1 : w23.cell? ⟨gb227, 1, none⟩ = some (.slice A0_1 l0_1.length c0_1) := (blk_cell BK227.out 1).trans rfl; have hcz24_2 : w23.cell? ⟨gb227, 2, none⟩ = some (.int .i64 a0_2) := (blk_cell BK227.out 2).trans rfl; have hfz24_0 := blk_frozen BK227.out 0; have hfz24_1 := blk_frozen BK227.out 1; have hfz24_2 := blk_frozen BK227.out 2) | ((with_reducible refine gate_callee (f := 31) rfl ?_); refine goesL_ (some 26) rfl rfl Tryd.func31 (by kernel_rfl) rfl #[.agg #[.int .i64 a0_0, .slice A0_1 l0_1.length c0_1, .int .i64 a0_2], .int .i64 x4_1] rfl (by (try simp only [List.map_toArray, List.map_cons, List.map_nil]); first | done | rfl | (simp only [List.length_drop, List.length_take]; rfl)) ?_; (with_reducible refine (quietusref07_Recoverable.calls k1 a0_0 _ _ l0_1 a0_2 x4_1 false _ ?side1 ?side2 ?side3 A12.out).mono ?_); (case side1 => exact HG.below HGw.out (by repeat (first | (with_reducible first | exact HB.out | apply below_alloc | apply pw_below_drewN | apply below_drew1 | refine below_set ?_ GE227.out) | exact HB.out))); (case side2 => repeat (first | exact (Kd.C_below HR0_1.out (by repeat (first | (with_reducible first | exact HB.out | apply below_alloc | apply pw_below_drewN | apply below_drew1 | refine below_set ?_ GE227.out) | exact HB.out))) | (with_reducible refine Kd.C_alloc ?_ _) | (with_reducible refine Kd.C_drewN ?_ _) | (with_reducible refine Kd.C_drew ?_))); (case side3 => exact HC0_1.out); rintro e w25 ⟨rfl, hb⟩; refine ⟨_, rfl, ?_⟩; have n0_ := Aside0.mk (blk_below (g := gb227) (o := .cells #[.int .i64 a0_0, .slice A0_1 l0_1.length c0_1, .int .i64 a0_2] 24 (0, 0)) (by (with_reducible repeat (first | refine blk_drewN ?_ _ | refine blk_drew ?_ | refine blk_alloc ?_ _)); exact BK227.out) hb); have n1_ := Aside0.mk (below_step (by repeat (first | (with_reducible first | exact HB.out | apply below_alloc | apply pw_below_drewN | apply below_drew1 | refine below_set ?_ GE227.out) | exact HB.out)) hb); clear BK227; clear HB; have BK227 := n0_; have HB := n1_; clear n0_ n1_; (try clear hb); (try clear hb2); (try clear hk); (try clear hi)))
      go_roundg k1
      case measure => have := HK1.out; omega
      case rel => exact ⟨(wrap64 (t231 - t232)), (wrap64 (x4_1 + 1)), (by first | rfl | (simp; done) | (simp [*]; done)), (by first | rfl | (simp; done) | (simp [*]; done)), H', ⟨by have := HK1.out; omega⟩, ⟨by (with_reducible repeat (first | refine blk_drewN ?_ _ | refine blk_drew ?_ | refine blk_alloc ?_ _)); exact BK227.out⟩, ⟨by repeat (first | (with_reducible first | exact HB.out | apply below_alloc | apply pw_below_drewN | apply below_drew1 | refine below_set ?_ GE227.out) | exact HB.out)⟩⟩
    ·rw [if_neg c11] at H
     have c11b0 : decide ((wrap64 (t231 - t232)) < x3_1) = false := decide_eq_false c11
     clear c11
     have H' := Aside0.mk H
     clear H
     have hcz26_0 : wr.cell? ⟨gb227, 0, none⟩ = some (.int .i64 a0_0) := (blk_cell BK227.out 0).trans rfl
     have hcz26_1 : wr.cell? ⟨gb227, 1, none⟩ = some (.slice A0_1 l0_1.length c0_1) := (blk_cell BK227.out 1).trans rfl
     have hcz26_2 : wr.cell? ⟨gb227, 2, none⟩ = some (.int .i64 a0_2) := (blk_cell BK227.out 2).trans rfl
     have hfz26_0 := blk_frozen BK227.out 0
     have hfz26_1 := blk_frozen BK227.out 1
     have hfz26_2 := blk_frozen BK227.out 2
     go_wp2_with (first | ((with_reducible refine gate_callee (f := 22) rfl ?_); refine goesL_ (some 11) rfl rfl Tryd.func22 (by kernel_rfl) rfl #[.agg #[.int .i64 a0_0, .slice A0_1 l0_1.length c0_1, .int .i64 a0_2]] rfl (by (try simp only [List.map_toArray, List.map_cons, List.map_nil]); first | done | rfl | (simp only [List.length_drop, List.length_take]; rfl)) ?_; (with_reducible refine (quietusref07_Pieces.calls k1 a0_0 _ _ l0_1 a0_2 t229 _ ?side1 ?side2 ?side3 A6.out).mono ?_); (case side1 => exact HG.below HGw.out (by repeat (first | (with_reducible first | exact HB.out | apply below_alloc | apply pw_below_drewN | apply below_drew1 | refine below_set ?_ GE227.out) | exact HB.out))); (case side2 => repeat (first | exact (Kd.C_below HR0_1.out HB.out) | (with_reducible refine Kd.C_alloc ?_ _) | (with_reducible refine Kd.C_drewN ?_ _) | (with_reducible refine Kd.C_drew ?_))); (case side3 => exact HC0_1.out); rintro e w27 ⟨rfl, hb⟩; refine ⟨_, rfl, ?_⟩; have n0_ := Aside0.mk (blk_below (g := gb227) (o := .cells #[.int .i64 a0_0, .slice A0_1 l0_1.length c0_1, .int .i64 a0_2] 24 (0, 0)) (by (with_reducible repeat (first | refine blk_drewN ?_ _ | refine blk_drew ?_ | refine blk_alloc ?_ _)); exact BK227.out) hb); have n1_ := Aside0.mk (below_step (by repeat (first | (with_reducible first | exact HB.out | apply below_alloc | apply pw_below_drewN | apply below_drew1 | refine below_set ?_ GE227.out) | exact HB.out)) hb); clear BK227; clear HB; have BK227 := n0_; have HB := n1_; clear n0_ n1_; (try clear hb); (try clear hb2); (try clear hk); (try clear hi)) | ((with_reducible refine gate_callee (f := 73) rfl ?_); refine goesL_ (some 12) rfl rfl Tryd.func73 (by kernel_rfl) rfl #[.int .i64 t229] rfl (by (try simp only [List.map_toArray, List.map_cons, List.map_nil]); first | done | rfl | (simp only [List.length_drop, List.length_take]; rfl)) ?_; (with_reducible refine (quietusref07_Bit.calls k1 t229 t230 _ ?side1 A7.out).mono ?_); (case side1 => exact HG.below HGw.out (by repeat (first | (with_reducible first | exact HB.out | apply below_alloc | apply pw_below_drewN | apply below_drew1 | refine below_set ?_ GE227.out) | exact HB.out))); rintro e w' ⟨rfl, ⟨nd, rfl⟩⟩; refine ⟨_, rfl, ?_⟩; have hcz28_0 : w27.cell? ⟨gb227, 0, none⟩ = some (.int .i64 a0_0) := (blk_cell BK227.out 0).trans rfl; have hcz28_1 : w27.cell? ⟨gb227, 1, none⟩ = some (.slice A0_1 l0_1.length c0_1) := (blk_cell BK227.out 1).trans rfl; have hcz28_2 : w27.cell? ⟨gb227, 2, none⟩ = some (.int .i64 a0_2) := (blk_cell BK227.out 2).trans rfl; have hfz28_0 := blk_frozen BK227.out 0; have hfz28_1 := blk_frozen BK227.out 1; have hfz28_2 := blk_frozen BK227.out 2) | ((with_reducible refine gate_callee (f := 22) rfl ?_); refine goesL_ (some 17) rfl rfl Tryd.func22 (by kernel_rfl) rfl #[.agg #[.int .i64 a0_0, .slice A0_1 l0_1.length c0_1, .int .i64 a0_2]] rfl (by (try simp only [List.map_toArray, List.map_cons, List.map_nil]); first | done | rfl | (simp only [List.length_drop, List.length_take]; rfl)) ?_; (with_reducible refine (quietusref07_Pieces.calls k1 a0_0 _ _ l0_1 a0_2 t231 _ ?side1 ?side2 ?side3 A9.out).mono ?_); (case side1 => exact HG.below HGw.out (by repeat (first | (with_reducible first | exact HB.out | apply below_alloc | apply pw_below_drewN | apply below_drew1 | refine below_set ?_ GE227.out) | exact HB.out))); (case side2 => repeat (first | exact (Kd.C_below HR0_1.out (by repeat (first | (with_reducible first | exact HB.out | apply below_alloc | apply pw_below_drewN | apply below_drew1 | refine below_set ?_ GE227.out) | exact HB.out))) | (with_reducible refine Kd.C_alloc ?_ _) | (with_reducible refine Kd.C_drewN ?_ _) | (with_reducible refine Kd.C_drew ?_))); (case side3 => exact HC0_1.out); rintro e w29 ⟨rfl, hb⟩; refine ⟨_, rfl, ?_⟩; have n0_ := Aside0.mk (blk_below (g := gb227) (o := .cells #[.int .i64 a0_0, .slice A0_1 l0_1.length c0_1, .int .i64 a0_2] 24 (0, 0)) (by (with_reducible repeat (first | refine blk_drewN ?_ _ | refine blk_drew ?_ | refine blk_alloc ?_ _)); exact BK227.out) hb); have n1_ := Aside0.mk (below_step (by repeat (first | (with_reducible first | exact HB.out | apply below_alloc | apply pw_below_drewN | apply below_drew1 | refine below_set ?_ GE227.out) | exact HB.out)) hb); clear BK227; clear HB; have BK227 := n0_; have HB := n1_; clear n0_ n1_; (try clear hb); (try clear hb2); (try clear hk); (try clear hi)) | ((with_reducible refine gate_callee (f := 35) rfl ?_); refine goesL_ (some 19) rfl rfl Tryd.func35 (by kernel_rfl) rfl #[.int .i64 x4_1] rfl (by (try simp only [List.map_toArray, List.map_cons, List.map_nil]); first | done | rfl | (simp only [List.length_drop, List.length_take]; rfl)) ?_; (with_reducible refine (quietusref07_Count.calls k1 x4_1 t232 _ ?side1 A10.out).mono ?_); (case side1 => exact HG.below HGw.out (by repeat (first | (with_reducible first | exact HB.out | apply below_alloc | apply pw_below_drewN | apply below_drew1 | refine below_set ?_ GE227.out) | exact HB.out))); rintro e w' ⟨rfl, ⟨nd, rfl⟩⟩; refine ⟨_, rfl, ?_⟩))
     go_roundg k1
     case measure => have := HK1.out; omega
     case rel => exact ⟨(x3_1), (wrap64 (x4_1 + 1)), (by first | rfl | (simp; done) | (simp [*]; done)), (by first | rfl | (simp; done) | (simp [*]; done)), H', ⟨by have := HK1.out; omega⟩, ⟨by (with_reducible repeat (first | refine blk_drewN ?_ _ | refine blk_drew ?_ | refine blk_alloc ?_ _)); exact BK227.out⟩, ⟨by repeat (first | (with_reducible first | exact HB.out | apply below_alloc | apply pw_below_drewN | apply below_drew1 | refine below_set ?_ GE227.out) | exact HB.out)⟩⟩
   ·rw [if_neg c8] at H
    have c8b0 : decide (x4_1 < t230) = false := decide_eq_false c8
    clear c8
    obtain rfl := Option.some.inj H
    have hcz30_0 : wr.cell? ⟨gb227, 0, none⟩ = some (.int .i64 a0_0) := (blk_cell BK227.out 0).trans rfl
    have hcz30_1 : wr.cell? ⟨gb227, 1, none⟩ = some (.slice A0_1 l0_1.length c0_1) := (blk_cell BK227.out 1).trans rfl
    have hcz30_2 : wr.cell? ⟨gb227, 2, none⟩ = some (.int .i64 a0_2) := (blk_cell BK227.out 2).trans rfl
    have hfz30_0 := blk_frozen BK227.out 0
    have hfz30_1 := blk_frozen BK227.out 1
    have hfz30_2 := blk_frozen BK227.out 2
    go_wp2_with (first | ((with_reducible refine gate_callee (f := 22) rfl ?_); refine goesL_ (some 11) rfl rfl Tryd.func22 (by kernel_rfl) rfl #[.agg #[.int .i64 a0_0, .slice A0_1 l0_1.length c0_1, .int .i64 a0_2]] rfl (by (try simp only [List.map_toArray, List.map_cons, List.map_nil]); first | done | rfl | (simp only [List.length_drop, List.length_take]; rfl)) ?_; (with_reducible refine (quietusref07_Pieces.calls k1 a0_0 _ _ l0_1 a0_2 t229 _ ?side1 ?side2 ?side3 A6.out).mono ?_); (case side1 => exact HG.below HGw.out (by repeat (first | (with_reducible first | exact HB.out | apply below_alloc | apply pw_below_drewN | apply below_drew1 | refine below_set ?_ GE227.out) | exact HB.out))); (case side2 => repeat (first | exact (Kd.C_below HR0_1.out HB.out) | (with_reducible refine Kd.C_alloc ?_ _) | (with_reducible refine Kd.C_drewN ?_ _) | (with_reducible refine Kd.C_drew ?_))); (case side3 => exact HC0_1.out); rintro e w31 ⟨rfl, hb⟩; refine ⟨_, rfl, ?_⟩; have n0_ := Aside0.mk (blk_below (g := gb227) (o := .cells #[.int .i64 a0_0, .slice A0_1 l0_1.length c0_1, .int .i64 a0_2] 24 (0, 0)) (by (with_reducible repeat (first | refine blk_drewN ?_ _ | refine blk_drew ?_ | refine blk_alloc ?_ _)); exact BK227.out) hb); have n1_ := Aside0.mk (below_step (by repeat (first | (with_reducible first | exact HB.out | apply below_alloc | apply pw_below_drewN | apply below_drew1 | refine below_set ?_ GE227.out) | exact HB.out)) hb); clear BK227; clear HB; have BK227 := n0_; have HB := n1_; clear n0_ n1_; (try clear hb); (try clear hb2); (try clear hk); (try clear hi)) | ((with_reducible refine gate_callee (f := 73) rfl ?_); refine goesL_ (some 12) rfl rfl Tryd.func73 (by kernel_rfl) rfl #[.int .i64 t229] rfl (by (try simp only [List.map_toArray, List.map_cons, List.map_nil]); first | done | rfl | (simp only [List.length_drop, List.length_take]; rfl)) ?_; (with_reducible refine (quietusref07_Bit.calls k1 t229 t230 _ ?side1 A7.out).mono ?_); (case side1 => exact HG.below HGw.out (by repeat (first | (with_reducible first | exact HB.out | apply below_alloc | apply pw_below_drewN | apply below_drew1 | refine below_set ?_ GE227.out) | exact HB.out))); rintro e w' ⟨rfl, ⟨nd, rfl⟩⟩; refine ⟨_, rfl, ?_⟩))
    go_ret
    exact ⟨by first | rfl | (simp [errW_none, errW_some] <;> rfl) | (simp [*, errW_none, errW_some] <;> rfl), by repeat (first | (with_reducible first | exact HB.out | apply below_alloc | apply pw_below_drewN | apply below_drew1 | refine below_set ?_ GE227.out) | exact HB.out)⟩


/-! ### quietuslaw07_CodeDistanceIsLeast: function 5 -/
-- over CodeAt.few CodeAt.rcheck CodeAt.rpieces
section
variable {g : Nat} {A : Option Addr} {c : Nat} {d : Int} {l : List (List Int)} {m : Int} {W : World}
theorem CodeAt.rset {k : Nat} {n : Int} {r : Bool} (h : CodeAt g A c d l m W) (hr : quietusref07_IsSet.f k d l m n = some r) :
  Calls Tryd.prog 33 #[.agg #[.int .i64 d, .slice A l.length c, .int .i64 m], .int .i64 n] W fun e w' => e = .returned (.bool r) ∧ Below W.heap.size W w' :=
 quietusref07_IsSet.calls k d A c l m n r W h.2.2.2 h.2.2.1 h.2.1 hr
theorem CodeAt.rdist {k : Nat} {r : Int} (h : CodeAt g A c d l m W) (hr : quietusref07_Distance.f k d l m = some r) :
  Calls Tryd.prog 34 #[.agg #[.int .i64 d, .slice A l.length c, .int .i64 m]] W fun e w' => e = .returned (.int .i64 r) ∧ Below W.heap.size W w' :=
 quietusref07_Distance.calls k d A c l m r W h.2.2.2 h.2.2.1 h.2.1 hr
end
set_option maxHeartbeats 4000000 in
set_option maxRecDepth 100000 in
theorem law07_dist.aside (k : Nat) (d : Int) (A : Option Addr) (c : Nat) (l : List (List Int)) (m mask piece p : Int) (few : Bool) (w : World) (hG : HG w) (hC : Kd.C (Kd.slice 3 (Kd.int .i64)) w A l.length l) (hc : l.length ≤ c)
  (hfew : quietusref07_Few.f k d l m 10 = some few) (hout : few = true → quietusref07_Pieces.f k d l m = some p ∧ 10 < p) :
  Calls Tryd.prog 5 #[.agg #[.int .i64 d, .slice A l.length c, .int .i64 m], .int .i64 mask, .int .u8 piece] w fun e w' => e = .returned (.bool true) ∧ Below w.heap.size w w' := by
 have HK := Aside0.mk (show CodeAt w.heap.size A c d l m (w.alloc (.cells #[.int .i64 d, .slice A l.length c, .int .i64 m] 24)) from ⟨blk_new _ _, hc, Kd.C_alloc hC _, hG.alloc _⟩)
 have HF := Aside0.mk hfew
 have hu24 := Tryd.underlying24
 have HGw := Aside0.mk hG
 have HB := Aside0.mk (below_alloc (Below.refl w.heap.size w) (.cells #[.int .i64 d, .slice A l.length c, .int .i64 m] 24))
 clear hG hC hfew hc
 cases few with
 | false =>
  clear hout
  go_enter Tryd.func5, Tryd.ntmps5
  go_wp2_with (first | (go_at_call 14; (with_reducible refine (HK.out.few HF.out).mono ?_); rintro e w1 ⟨rfl, hb⟩; have HB1 := Aside0.mk (below_step HB.out hb); clear hb) | (go_at_call 15; (with_reducible refine (quietuslaw07_sanity.yes _ (HGw.out.below HB1.out)).mono ?_); rintro e w2 ⟨rfl, hb⟩; have HB2 := Aside0.mk (below_step HB1.out hb); clear hb))
  go_ret
  exact ⟨rfl, HB2.out⟩
 | true =>
  obtain ⟨hp, hp2⟩ := hout rfl
  have HP := Aside0.mk hp
  have b1 : decide ((10 : Int) < p) = true := decide_eq_true hp2
  clear hout hp hp2
  go_enter Tryd.func5, Tryd.ntmps5
  go_wp2_with (first | (go_at_call 14; (with_reducible refine (HK.out.few HF.out).mono ?_); rintro e w1 ⟨rfl, hb⟩; have HK1 := Aside0.mk (HK.out.below hb); have HB1 := Aside0.mk (below_step HB.out hb); have hz0 := HK1.out.c0; have hz1 := HK1.out.c1; have hz2 := HK1.out.c2; clear hb) | (go_at_call 22; (with_reducible refine (HK1.out.rpieces HP.out).mono ?_); rintro e w2 ⟨rfl, hb⟩; have HB2 := Aside0.mk (below_step HB1.out hb); clear hb) | (go_at_call 15; (with_reducible refine (quietuslaw07_sanity.yes _ (HGw.out.below HB2.out)).mono ?_); rintro e w3 ⟨rfl, hb⟩; have HB3 := Aside0.mk (below_step HB2.out hb); clear hb))
  go_ret
  exact ⟨rfl, HB3.out⟩
set_option maxHeartbeats 4000000 in
set_option maxRecDepth 100000 in
theorem law07_dist.err (k : Nat) (d : Int) (A : Option Addr) (c : Nat) (l : List (List Int)) (m mask piece p e : Int) (w : World) (hG : HG w) (hC : Kd.C (Kd.slice 3 (Kd.int .i64)) w A l.length l) (hc : l.length ≤ c)
  (hfew : quietusref07_Few.f k d l m 10 = some true) (h1 : quietusref07_Pieces.f k d l m = some p) (hp : p ≤ 10) (h2 : code_Distance.f k d l m = some (0, e)) (h3 : quietusref07_Check.f k d l m = some e) (he : e ≠ 0) :
  Calls Tryd.prog 5 #[.agg #[.int .i64 d, .slice A l.length c, .int .i64 m], .int .i64 mask, .int .u8 piece] w fun e w' => e = .returned (.bool true) ∧ Below w.heap.size w w' := by
 have HK := Aside0.mk (show CodeAt w.heap.size A c d l m (w.alloc (.cells #[.int .i64 d, .slice A l.length c, .int .i64 m] 24)) from ⟨blk_new _ _, hc, Kd.C_alloc hC _, hG.alloc _⟩)
 have HF := Aside0.mk hfew
 have H1 := Aside0.mk h1
 have H2 := Aside0.mk h2
 have H3 := Aside0.mk h3
 have hu24 := Tryd.underlying24
 have HB := Aside0.mk (below_alloc (Below.refl w.heap.size w) (.cells #[.int .i64 d, .slice A l.length c, .int .i64 m] 24))
 have b1 : decide ((10 : Int) < p) = false := decide_eq_false (by omega)
 have b2 : (e == 0) = false := beq_eq_false_iff_ne.2 he
 have b3 : (e != 0) = true := bne_iff_ne.2 he
 have hz0 := True.intro
 have hz1 := True.intro
 have hz2 := True.intro
 clear hG hC hfew hc h1 h2 h3 hp he
 go_enter Tryd.func5, Tryd.ntmps5
 go_wp2_with (first
  | (go_at_call 14; (with_reducible refine (HK.out.few HF.out).mono ?_); rintro e w1 ⟨rfl, hb⟩; have HKn := Aside0.mk (HK.out.below hb); have HBn := Aside0.mk (below_step HB.out hb); clear HK HB hz0 hz1 hz2 hb; have HK := HKn; have HB := HBn; clear HKn HBn; have hz0 := HK.out.c0; have hz1 := HK.out.c1; have hz2 := HK.out.c2)
  | (go_at_call 22; (with_reducible refine (HK.out.rpieces H1.out).mono ?_); rintro e w1 ⟨rfl, hb⟩; have HKn := Aside0.mk (HK.out.below hb); have HBn := Aside0.mk (below_step HB.out hb); clear HK HB hz0 hz1 hz2 hb; have HK := HKn; have HB := HBn; clear HKn HBn; have hz0 := HK.out.c0; have hz1 := HK.out.c1; have hz2 := HK.out.c2)
  | (go_at_call 32; (with_reducible refine (HK.out.distance H2.out).mono ?_); rintro e w1 ⟨rfl, hb⟩; have HKn := Aside0.mk (HK.out.below hb); have HBn := Aside0.mk (below_step HB.out hb); clear HK HB hz0 hz1 hz2 hb; have HK := HKn; have HB := HBn; clear HKn HBn; have hz0 := HK.out.c0; have hz1 := HK.out.c1; have hz2 := HK.out.c2)
  | (go_at_call 16; (with_reducible refine (HK.out.rcheck H3.out).mono ?_); rintro e w1 ⟨rfl, hb⟩; have HKn := Aside0.mk (HK.out.below hb); have HBn := Aside0.mk (below_step HB.out hb); clear HK HB hz0 hz1 hz2 hb; have HK := HKn; have HB := HBn; clear HKn HBn; have hz0 := HK.out.c0; have hz1 := HK.out.c1; have hz2 := HK.out.c2)
  | (go_at_call 15; (with_reducible refine (quietuslaw07_sanity.yes _ HK.out.hg).mono ?_); rintro e w1 ⟨rfl, hb⟩; have HKn := Aside0.mk (HK.out.below hb); have HBn := Aside0.mk (below_step HB.out hb); clear HK HB hz0 hz1 hz2 hb; have HK := HKn; have HB := HBn; clear HKn HBn; have hz0 := HK.out.c0; have hz1 := HK.out.c1; have hz2 := HK.out.c2))
 go_ret
 exact ⟨rfl, HB.out⟩
set_option maxHeartbeats 4000000 in
set_option maxRecDepth 100000 in
theorem law07_dist.unset (k : Nat) (d : Int) (A : Option Addr) (c : Nat) (l : List (List Int)) (m mask piece p q : Int) (w : World) (hG : HG w) (hC : Kd.C (Kd.slice 3 (Kd.int .i64)) w A l.length l) (hc : l.length ≤ c)
  (hfew : quietusref07_Few.f k d l m 10 = some true) (h1 : quietusref07_Pieces.f k d l m = some p) (hp : p ≤ 10) (h2 : code_Distance.f k d l m = some (q, 0)) (h3 : quietusref07_Check.f k d l m = some 0) (h4 : code_Pieces.f k d l m = some p)
  (h5 : code_Recoverable.f k d l m mask = some false) (h6 : quietusref07_IsSet.f k d l m mask = some false) (h7 : quietusref07_Distance.f k d l m = some q) :
  Calls Tryd.prog 5 #[.agg #[.int .i64 d, .slice A l.length c, .int .i64 m], .int .i64 mask, .int .u8 piece] w fun e w' => e = .returned (.bool true) ∧ Below w.heap.size w w' := by
 have HK := Aside0.mk (show CodeAt w.heap.size A c d l m (w.alloc (.cells #[.int .i64 d, .slice A l.length c, .int .i64 m] 24)) from ⟨blk_new _ _, hc, Kd.C_alloc hC _, hG.alloc _⟩)
 have HF := Aside0.mk hfew
 have H1 := Aside0.mk h1
 have H2 := Aside0.mk h2
 have H3 := Aside0.mk h3
 have H4 := Aside0.mk h4
 have H5 := Aside0.mk h5
 have H6 := Aside0.mk h6
 have H7 := Aside0.mk h7
 have hu24 := Tryd.underlying24
 have HB := Aside0.mk (below_alloc (Below.refl w.heap.size w) (.cells #[.int .i64 d, .slice A l.length c, .int .i64 m] 24))
 have b1 : decide ((10 : Int) < p) = false := decide_eq_false (by omega)
 have hz0 := True.intro
 have hz1 := True.intro
 have hz2 := True.intro
 clear hG hC hfew hc h1 h2 h3 h4 h5 h6 h7 hp
 go_enter Tryd.func5, Tryd.ntmps5
 go_wp2_with (first
  | (go_at_call 14; (with_reducible refine (HK.out.few HF.out).mono ?_); rintro e w1 ⟨rfl, hb⟩; have HKn := Aside0.mk (HK.out.below hb); have HBn := Aside0.mk (below_step HB.out hb); clear HK HB hz0 hz1 hz2 hb; have HK := HKn; have HB := HBn; clear HKn HBn; have hz0 := HK.out.c0; have hz1 := HK.out.c1; have hz2 := HK.out.c2)
  | (go_at_call 22; (with_reducible refine (HK.out.rpieces H1.out).mono ?_); rintro e w1 ⟨rfl, hb⟩; have HKn := Aside0.mk (HK.out.below hb); have HBn := Aside0.mk (below_step HB.out hb); clear HK HB hz0 hz1 hz2 hb; have HK := HKn; have HB := HBn; clear HKn HBn; have hz0 := HK.out.c0; have hz1 := HK.out.c1; have hz2 := HK.out.c2)
  | (go_at_call 32; (with_reducible refine (HK.out.distance H2.out).mono ?_); rintro e w1 ⟨rfl, hb⟩; have HKn := Aside0.mk (HK.out.below hb); have HBn := Aside0.mk (below_step HB.out hb); clear HK HB hz0 hz1 hz2 hb; have HK := HKn; have HB := HBn; clear HKn HBn; have hz0 := HK.out.c0; have hz1 := HK.out.c1; have hz2 := HK.out.c2)
  | (go_at_call 16; (with_reducible refine (HK.out.rcheck H3.out).mono ?_); rintro e w1 ⟨rfl, hb⟩; have HKn := Aside0.mk (HK.out.below hb); have HBn := Aside0.mk (below_step HB.out hb); clear HK HB hz0 hz1 hz2 hb; have HK := HKn; have HB := HBn; clear HKn HBn; have hz0 := HK.out.c0; have hz1 := HK.out.c1; have hz2 := HK.out.c2)
  | (go_at_call 21; (with_reducible refine (HK.out.pieces H4.out).mono ?_); rintro e w1 ⟨rfl, hb⟩; have HKn := Aside0.mk (HK.out.below hb); have HBn := Aside0.mk (below_step HB.out hb); clear HK HB hz0 hz1 hz2 hb; have HK := HKn; have HB := HBn; clear HKn HBn; have hz0 := HK.out.c0; have hz1 := HK.out.c1; have hz2 := HK.out.c2)
  | (go_at_call 30; (with_reducible refine (HK.out.recoverable H5.out).mono ?_); rintro e w1 ⟨rfl, hb⟩; have HKn := Aside0.mk (HK.out.below hb); have HBn := Aside0.mk (below_step HB.out hb); clear HK HB hz0 hz1 hz2 hb; have HK := HKn; have HB := HBn; clear HKn HBn; have hz0 := HK.out.c0; have hz1 := HK.out.c1; have hz2 := HK.out.c2)
  | (go_at_call 33; (with_reducible refine (HK.out.rset H6.out).mono ?_); rintro e w1 ⟨rfl, hb⟩; have HKn := Aside0.mk (HK.out.below hb); have HBn := Aside0.mk (below_step HB.out hb); clear HK HB hz0 hz1 hz2 hb; have HK := HKn; have HB := HBn; clear HKn HBn; have hz0 := HK.out.c0; have hz1 := HK.out.c1; have hz2 := HK.out.c2)
  | (go_at_call 34; (with_reducible refine (HK.out.rdist H7.out).mono ?_); rintro e w1 ⟨rfl, hb⟩; have HKn := Aside0.mk (HK.out.below hb); have HBn := Aside0.mk (below_step HB.out hb); clear HK HB hz0 hz1 hz2 hb; have HK := HKn; have HB := HBn; clear HKn HBn; have hz0 := HK.out.c0; have hz1 := HK.out.c1; have hz2 := HK.out.c2)
  | (go_at_call 15; (with_reducible refine (quietuslaw07_sanity.yes _ HK.out.hg).mono ?_); rintro e w1 ⟨rfl, hb⟩; have HKn := Aside0.mk (HK.out.below hb); have HBn := Aside0.mk (below_step HB.out hb); clear HK HB hz0 hz1 hz2 hb; have HK := HKn; have HB := HBn; clear HKn HBn; have hz0 := HK.out.c0; have hz1 := HK.out.c1; have hz2 := HK.out.c2))
 go_ret
 exact ⟨rfl, HB.out⟩
set_option maxHeartbeats 4000000 in
set_option maxRecDepth 100000 in
theorem law07_dist.set (k : Nat) (d : Int) (A : Option Addr) (c : Nat) (l : List (List Int)) (m piece q : Int) (x y N size : Nat) (can : Bool) (w : World) (hG : HG w) (hC : Kd.C (Kd.slice 3 (Kd.int .i64)) w A l.length l) (hc : l.length ≤ c)
  (hfew : quietusref07_Few.f k d l m 10 = some true) (h1 : quietusref07_Pieces.f k d l m = some (N : Int)) (hN0 : 1 ≤ N) (hN : N ≤ 10) (h2 : code_Distance.f k d l m = some (q, 0)) (h3 : quietusref07_Check.f k d l m = some 0) (h4 : code_Pieces.f k d l m = some (N : Int))
  (h5 : code_Recoverable.f k d l m (x : Int) = some can) (h6 : quietusref07_IsSet.f k d l m (x : Int) = some true) (h7 : quietusref07_Distance.f k d l m = some q) (h8 : quietusref07_Count.f k (x : Int) = some (size : Int))
  (hs : size ≤ N) (hpc : 0 ≤ piece) (hpc2 : piece < 256) (hx : x < 1024) (hy : y = x ||| 2 ^ (piece.toNat % N)) (b : Bool) (hb0 : decide ((N : Int) - (size : Int) < q) = b)
  (h9 : can = true → code_Recoverable.f k d l m (y : Int) = some true) (h10 : can = true → d ≤ (size : Int)) (h11 : can = false → b = false) :
  Calls Tryd.prog 5 #[.agg #[.int .i64 d, .slice A l.length c, .int .i64 m], .int .i64 (x : Int), .int .u8 piece] w fun e w' => e = .returned (.bool true) ∧ Below w.heap.size w w' := by
 have HK := Aside0.mk (show CodeAt w.heap.size A c d l m (w.alloc (.cells #[.int .i64 d, .slice A l.length c, .int .i64 m] 24)) from ⟨blk_new _ _, hc, Kd.C_alloc hC _, hG.alloc _⟩)
 have HF := Aside0.mk hfew
 have H1 := Aside0.mk h1
 have H2 := Aside0.mk h2
 have H3 := Aside0.mk h3
 have H4 := Aside0.mk h4
 have H5 := Aside0.mk h5
 have H6 := Aside0.mk h6
 have H7 := Aside0.mk h7
 have H8 := Aside0.mk h8
 have hN1 : (N : Int) ≠ 0 := by omega
 have hj0 : 0 ≤ piece % (N : Int) := Int.emod_nonneg _ hN1
 have hj1 : piece % (N : Int) < 10 := by have := Int.emod_lt_of_pos piece (show (0 : Int) < (N : Int) by omega); omega
 have hY : Go.bits .or .i64 (x : Int) (wrap64 (2 ^ (piece % (N : Int)).toNat)) = (y : Int) := by
  have e0 : (piece % (N : Int)).toNat = piece.toNat % N := by
   obtain ⟨u, rfl⟩ := Int.eq_ofNat_of_zero_le hpc
   rw [← Int.natCast_emod]; simp only [Int.toNat_natCast]
  have e1 : piece.toNat % N < N := Nat.mod_lt _ (by omega)
  have hy2 : 2 ^ (piece.toNat % N) < 2 ^ 10 := Nat.pow_lt_pow_right (by decide) (by omega)
  have e : (2 : Int) ^ (piece.toNat % N) = ((2 ^ (piece.toNat % N) : Nat) : Int) := by simp
  rw [e0, e, hy]
  generalize 2 ^ (piece.toNat % N) = z at hy2 ⊢
  rw [show wrap64 ((z : Nat) : Int) = ((z : Nat) : Int) by unfold wrap64; omega, i64_or _ _ (by omega) (by omega)]
 have H9 := Aside0.mk (show can = true → code_Recoverable.f k d l m (Go.bits .or .i64 (x : Int) (wrap64 (2 ^ (piece % (N : Int)).toNat))) = some true by rw [hY]; exact h9)
 have H10 := Aside0.mk h10
 have H11 := Aside0.mk h11
 have H12 := Aside0.mk hb0
 have b1 : decide ((10 : Int) < (N : Int)) = false := decide_eq_false (by omega)
 have hu24 := Tryd.underlying24
 have HB := Aside0.mk (below_alloc (Below.refl w.heap.size w) (.cells #[.int .i64 d, .slice A l.length c, .int .i64 m] 24))
 have hz0 := True.intro
 have hz1 := True.intro
 have hz2 := True.intro
 clear hG hC hfew hc h1 h2 h3 h4 h5 h6 h7 h8 h9 h10 h11 hb0 hY hy hx
 go_enter Tryd.func5, Tryd.ntmps5
 go_upto_region 16 with (first
  | (go_at_call 14; (with_reducible refine (HK.out.few HF.out).mono ?_); rintro e w1 ⟨rfl, hb⟩; have HKn := Aside0.mk (HK.out.below hb); have HBn := Aside0.mk (below_step HB.out hb); clear HK HB hz0 hz1 hz2 hb; have HK := HKn; have HB := HBn; clear HKn HBn; have hz0 := HK.out.c0; have hz1 := HK.out.c1; have hz2 := HK.out.c2)
  | (go_at_call 22; (with_reducible refine (HK.out.rpieces H1.out).mono ?_); rintro e w1 ⟨rfl, hb⟩; have HKn := Aside0.mk (HK.out.below hb); have HBn := Aside0.mk (below_step HB.out hb); clear HK HB hz0 hz1 hz2 hb; have HK := HKn; have HB := HBn; clear HKn HBn; have hz0 := HK.out.c0; have hz1 := HK.out.c1; have hz2 := HK.out.c2)
  | (go_at_call 32; (with_reducible refine (HK.out.distance H2.out).mono ?_); rintro e w1 ⟨rfl, hb⟩; have HKn := Aside0.mk (HK.out.below hb); have HBn := Aside0.mk (below_step HB.out hb); clear HK HB hz0 hz1 hz2 hb; have HK := HKn; have HB := HBn; clear HKn HBn; have hz0 := HK.out.c0; have hz1 := HK.out.c1; have hz2 := HK.out.c2)
  | (go_at_call 16; (with_reducible refine (HK.out.rcheck H3.out).mono ?_); rintro e w1 ⟨rfl, hb⟩; have HKn := Aside0.mk (HK.out.below hb); have HBn := Aside0.mk (below_step HB.out hb); clear HK HB hz0 hz1 hz2 hb; have HK := HKn; have HB := HBn; clear HKn HBn; have hz0 := HK.out.c0; have hz1 := HK.out.c1; have hz2 := HK.out.c2)
  | (go_at_call 21; (with_reducible refine (HK.out.pieces H4.out).mono ?_); rintro e w1 ⟨rfl, hb⟩; have HKn := Aside0.mk (HK.out.below hb); have HBn := Aside0.mk (below_step HB.out hb); clear HK HB hz0 hz1 hz2 hb; have HK := HKn; have HB := HBn; clear HKn HBn; have hz0 := HK.out.c0; have hz1 := HK.out.c1; have hz2 := HK.out.c2)
  | (go_at_call 30; (with_reducible refine (HK.out.recoverable H5.out).mono ?_); rintro e w1 ⟨rfl, hb⟩; have HKn := Aside0.mk (HK.out.below hb); have HBn := Aside0.mk (below_step HB.out hb); clear HK HB hz0 hz1 hz2 hb; have HK := HKn; have HB := HBn; clear HKn HBn; have hz0 := HK.out.c0; have hz1 := HK.out.c1; have hz2 := HK.out.c2)
  | (go_at_call 33; (with_reducible refine (HK.out.rset H6.out).mono ?_); rintro e w1 ⟨rfl, hb⟩; have HKn := Aside0.mk (HK.out.below hb); have HBn := Aside0.mk (below_step HB.out hb); clear HK HB hz0 hz1 hz2 hb; have HK := HKn; have HB := HBn; clear HKn HBn; have hz0 := HK.out.c0; have hz1 := HK.out.c1; have hz2 := HK.out.c2)
  | (go_at_call 35; (with_reducible refine (quietusref07_Count.calls k (x : Int) (size : Int) _ HK.out.hg H8.out).mono ?_); rintro e w1 ⟨rfl, hd⟩; have hb := hd.below; clear hd; have HKn := Aside0.mk (HK.out.below hb); have HBn := Aside0.mk (below_step HB.out hb); clear HK HB hz0 hz1 hz2 hb; have HK := HKn; have HB := HBn; clear HKn HBn; have hz0 := HK.out.c0; have hz1 := HK.out.c1; have hz2 := HK.out.c2))
 cases can with
 | false =>
  obtain rfl := H11.out rfl
  have b2 := H12.out
  go_wp2_with (first
  | (go_at_call 34; (with_reducible refine (HK.out.rdist H7.out).mono ?_); rintro e w1 ⟨rfl, hb⟩; have HKn := Aside0.mk (HK.out.below hb); have HBn := Aside0.mk (below_step HB.out hb); clear HK HB hz0 hz1 hz2 hb; have HK := HKn; have HB := HBn; clear HKn HBn; have hz0 := HK.out.c0; have hz1 := HK.out.c1; have hz2 := HK.out.c2)
  | (go_at_call 15; (with_reducible refine (quietuslaw07_sanity.yes _ HK.out.hg).mono ?_); rintro e w1 ⟨rfl, hb⟩; have HKn := Aside0.mk (HK.out.below hb); have HBn := Aside0.mk (below_step HB.out hb); clear HK HB hz0 hz1 hz2 hb; have HK := HKn; have HB := HBn; clear HKn HBn; have hz0 := HK.out.c0; have hz1 := HK.out.c1; have hz2 := HK.out.c2))
  go_ret
  exact ⟨rfl, HB.out⟩
 | true =>
  have b2 := H12.out
  have H9b := Aside0.mk (H9.out rfl)
  have b3 : decide ((size : Int) < d) = false := decide_eq_false (by have := H10.out rfl; omega)
  cases b <;> (
   go_wp2_with (first
   | (go_at_call 30; (with_reducible refine (HK.out.recoverable H9b.out).mono ?_); rintro e w1 ⟨rfl, hb⟩; have HKn := Aside0.mk (HK.out.below hb); have HBn := Aside0.mk (below_step HB.out hb); clear HK HB hz0 hz1 hz2 hb; have HK := HKn; have HB := HBn; clear HKn HBn; have hz0 := HK.out.c0; have hz1 := HK.out.c1; have hz2 := HK.out.c2)
   | (go_at_call 34; (with_reducible refine (HK.out.rdist H7.out).mono ?_); rintro e w1 ⟨rfl, hb⟩; have HKn := Aside0.mk (HK.out.below hb); have HBn := Aside0.mk (below_step HB.out hb); clear HK HB hz0 hz1 hz2 hb; have HK := HKn; have HB := HBn; clear HKn HBn; have hz0 := HK.out.c0; have hz1 := HK.out.c1; have hz2 := HK.out.c2)
   | (go_at_call 15; (with_reducible refine (quietuslaw07_sanity.yes _ HK.out.hg).mono ?_); rintro e w1 ⟨rfl, hb⟩; have HKn := Aside0.mk (HK.out.below hb); have HBn := Aside0.mk (below_step HB.out hb); clear HK HB hz0 hz1 hz2 hb; have HK := HKn; have HB := HBn; clear HKn HBn; have hz0 := HK.out.c0; have hz1 := HK.out.c1; have hz2 := HK.out.c2))
   go_ret
   exact ⟨rfl, HB.out⟩)

def anyFrom (p : Nat → Bool) : Nat → Nat → Bool
 | _, 0 => false
 | j, n + 1 => p j || anyFrom p (j + 1) n
theorem anyFrom_iff (p : Nat → Bool) : ∀ n j, anyFrom p j n = true ↔ ∃ t, j ≤ t ∧ t < j + n ∧ p t = true := by
 intro n
 induction n with
 | zero =>
  intro j
  simp only [anyFrom]
  constructor
  ·intro h; cases h
  ·rintro ⟨t, h1, h2, _⟩; omega
 | succ n ih =>
  intro j
  simp only [anyFrom, Bool.or_eq_true, ih]
  constructor
  ·rintro (h | ⟨t, h1, h2, h3⟩)
   ·exact ⟨j, Nat.le_refl _, by omega, h⟩
   ·exact ⟨t, by omega, by omega, h3⟩
  ·rintro ⟨t, h1, h2, h3⟩
   by_cases e : t = j
   ·subst e; exact .inl h3
   ·exact .inr ⟨t, by omega, by omega, h3⟩
theorem anyFrom_false {p : Nat → Bool} {j n : Nat} (h : anyFrom p j n = false) : ∀ t, j ≤ t → t < j + n → p t = false := by
 intro t h1 h2
 cases hp : p t
 ·rfl
 ·rw [(anyFrom_iff p n j).2 ⟨t, h1, h2, hp⟩] at h; cases h
theorem wrap_nat {n : Nat} (h : n < 9223372036854775808) : wrap64 (n : Int) = (n : Int) := by unfold wrap64; omega
theorem wrap_succ {n : Nat} (h : n < 4611686018427387905) : wrap64 ((n : Int) + 1) = ((n + 1 : Nat) : Int) := by unfold wrap64; omega
theorem wrap_pred {n : Nat} (h0 : 0 < n) (h : n < 4611686018427387905) : wrap64 ((n : Int) - 1) = ((n - 1 : Nat) : Int) := by unfold wrap64; omega
theorem ev_eq {α : Type} {g : Nat → Option α} {a b : α} (h : Ev g a) (e : a = b) : Ev g b := e ▸ h
/-! Has -/
theorem has_from (l : List Int) (x : Int) (hl : l.length ≤ 4611686018427387904) : ∀ (j i : Nat), i + j = l.length → Ev (fun k => quietusref07_Has.l0 k l x (i : Int)) (decide (x ∈ l.drop i)) := by
 intro j
 induction j with
 | zero =>
  intro i hi
  refine Ev.step (f := fun _ => some (decide (x ∈ l.drop i))) (fun k => ?_) (Ev.now _)
  simp only [quietusref07_Has.l0]
  rw [if_neg (by omega), List.drop_of_length_le (by omega)]
  simp
 | succ j ih =>
  intro i hi
  have hlt : i < l.length := by omega
  have hd : l.drop i = l[i] :: l.drop (i + 1) := List.drop_eq_getElem_cons hlt
  by_cases e : l[i] = x
  ·refine Ev.step (f := fun _ => some (decide (x ∈ l.drop i))) (fun k => ?_) (Ev.now _)
   simp only [quietusref07_Has.l0]
   rw [if_pos (by omega), if_pos (by omega), rdi hlt, if_pos e, hd]
   simp [e]
  ·refine Ev.step (f := fun k => quietusref07_Has.l0 k l x ((i + 1 : Nat) : Int)) (fun k => ?_) (ev_eq (ih (i + 1) (by omega)) ?_)
   ·simp only [quietusref07_Has.l0]
    rw [if_pos (by omega), if_pos (by omega), rdi hlt, if_neg e, wrap_succ (by omega)]
   ·rw [hd]
    exact decide_eq_decide.2 ⟨fun h => List.mem_cons_of_mem _ h, fun h => (List.mem_cons.1 h).resolve_left (fun h' => e h'.symm)⟩
theorem has_ev (l : List Int) (x : Int) (hl : l.length ≤ 4611686018427387904) : Ev (fun k => quietusref07_Has.f k l x) (decide (x ∈ l)) := has_from l x hl l.length 0 (Nat.zero_add _)
/-! what Check says -/
def badEl (d : Int) (l : List (List Int)) (gi j : Nat) : Bool :=
 (decide (rd (rd_L1 l gi) j < 0) || (decide (d ≤ rd (rd_L1 l gi) j) || (decide (0 < j) && decide (rd (rd_L1 l gi) j ≤ rd (rd_L1 l gi) ((j - 1 : Nat) : Int))))) || anyFrom (fun h => decide (rd (rd_L1 l gi) j ∈ rd_L1 l (h : Nat))) 0 gi
def grpErr (d : Int) (l : List (List Int)) (gi : Nat) : Int := if (rd_L1 l gi).length = 0 then 8 else if anyFrom (badEl d l gi) 0 (rd_L1 l gi).length = true then 1 else 0
def chkFrom (d : Int) (l : List (List Int)) : Nat → Nat → Int
 | _, 0 => 0
 | i, n + 1 => if grpErr d l i = 0 then chkFrom d l (i + 1) n else grpErr d l i
def chk (d : Int) (l : List (List Int)) (m : Int) : Int := if d < 1 ∨ 16 < d ∨ m < 0 ∨ 4 < m then 3 else if 24 < d + l.length + m then 2 else chkFrom d l 0 l.length
/-! the reference's Check -/
def Small (l : List (List Int)) : Prop := l.length ≤ 4611686018427387000 ∧ ∀ i : Nat, (rd_L1 l i).length ≤ 4611686018427387904
theorem rgrp_l1 (d : Int) (l : List (List Int)) (m : Int) (hs : Small l) (gi j : Nat) (x : Int) (hg : gi < l.length) (hj : j < 4611686018427387904) (R : Int) (hR : Ev (fun k => quietusref07_group.l0 k (gi : Int) ((j + 1 : Nat) : Int) d l m) R) :
  ∀ n h, h + n = gi → Ev (fun k => quietusref07_group.l1 k (gi : Int) (j : Int) x (h : Int) d l m) (if anyFrom (fun h => decide (x ∈ rd_L1 l (h : Nat))) h n = true then 1 else R) := by
 intro n
 induction n with
 | zero =>
  intro h hh
  refine Ev.step (f := fun k => quietusref07_group.l0 k (gi : Int) ((j + 1 : Nat) : Int) d l m) (fun k => ?_) (by simpa [anyFrom] using hR)
  simp only [quietusref07_group.l1]
  rw [if_neg (by omega), wrap_succ (by omega)]
 | succ n ih =>
  intro h hh
  have hb := has_ev (rd_L1 l (h : Nat)) x (hs.2 h)
  have hsl := hs.1
  refine Ev.step (f := fun k => (quietusref07_Has.f k (rd_L1 l (h : Nat)) x).bind fun t => if t = true then some 1 else quietusref07_group.l1 k (gi : Int) (j : Int) x ((h + 1 : Nat) : Int) d l m) (fun k => ?_) (Ev.bind hb ?_)
  ·simp only [quietusref07_group.l1]
   rw [if_pos (by omega), if_pos (by omega), if_pos (by omega), wrap_succ (by omega)]
  ·by_cases e : x ∈ rd_L1 l (h : Nat)
   ·simp only [anyFrom, e, decide_true, Bool.true_or, if_true]
    exact Ev.now _
   ·simp only [anyFrom, e, decide_false, Bool.false_or]
    exact ih (h + 1) (by omega)
theorem rgrp_l0 (d : Int) (l : List (List Int)) (m : Int) (hs : Small l) (gi : Nat) (hg : gi < l.length) :
  ∀ n j, j + n = (rd_L1 l gi).length → Ev (fun k => quietusref07_group.l0 k (gi : Int) (j : Int) d l m) (if anyFrom (badEl d l gi) j n = true then 1 else 0) := by
 intro n
 have hgl := hs.2 gi
 induction n with
 | zero =>
  intro j hj
  refine Ev.step (f := fun _ => some 0) (fun k => ?_) (by simpa [anyFrom] using Ev.now (0 : Int))
  simp only [quietusref07_group.l0]
  rw [if_pos (by omega), if_pos (by omega), if_neg (by omega)]
 | succ n ih =>
  intro j hj
  obtain ⟨b, hb⟩ : ∃ b, b = (decide (rd (rd_L1 l gi) j < 0) || (decide (d ≤ rd (rd_L1 l gi) j) || (decide (0 < j) && decide (rd (rd_L1 l gi) j ≤ rd (rd_L1 l gi) ((j - 1 : Nat) : Int))))) := ⟨_, rfl⟩
  refine Ev.step (f := fun k => quietusref07_group.j1 k (gi : Int) (j : Int) (rd (rd_L1 l gi) j) b d l m) (fun k => ?_) ?_
  ·simp only [quietusref07_group.l0]
   rw [if_pos (by omega), if_pos (by omega), if_pos (by omega), if_pos (by omega)]
   by_cases c1 : rd (rd_L1 l gi) j < 0
   ·rw [if_pos c1, hb]; simp [c1]
   rw [if_neg c1]
   by_cases c2 : d ≤ rd (rd_L1 l gi) j
   ·rw [if_pos c2, hb]; simp [c2]
   rw [if_neg c2]
   by_cases c3 : 0 < j
   ·rw [if_pos (by omega), wrap_pred c3 (by omega), if_pos (by omega), if_pos (by omega), hb]; simp [c1, c2, c3]
   ·rw [if_neg (by omega), hb]; simp [c1, c2, c3]
  ·refine Ev.step (f := fun k => if b = true then some 1 else quietusref07_group.l1 k (gi : Int) (j : Int) (rd (rd_L1 l gi) j) ((0 : Nat) : Int) d l m) (fun k => by simp only [quietusref07_group.j1]; rfl) ?_
   simp only [anyFrom, badEl, ← hb]
   cases b with
   | true => simp only [Bool.true_or, if_true]; exact Ev.now _
   | false =>
    simp only [Bool.false_or, Bool.false_eq_true, if_false]
    refine ev_eq (rgrp_l1 d l m hs gi j _ hg (by omega) _ (ih (j + 1) (by omega)) gi 0 (Nat.zero_add _)) ?_
    by_cases e : anyFrom (fun h => decide (rd (rd_L1 l gi) j ∈ rd_L1 l (h : Nat))) 0 gi = true
    ·rw [if_pos e, e]; simp
    ·rw [if_neg e, Bool.eq_false_iff.2 e, Bool.false_or]
theorem rgrp_ev (d : Int) (l : List (List Int)) (m : Int) (hs : Small l) (gi : Nat) (hg : gi < l.length) : Ev (fun k => quietusref07_group.f k d l m (gi : Int)) (grpErr d l gi) := by
 unfold grpErr
 by_cases h0 : (rd_L1 l gi).length = 0
 ·rw [if_pos h0]
  refine Ev.congr (f := fun _ => some 8) (fun k => ?_) (Ev.now _)
  unfold quietusref07_group.f
  rw [if_pos (by omega), if_pos (by omega), if_pos (by omega)]
 ·rw [if_neg h0]
  refine Ev.congr (f := fun k => quietusref07_group.l0 k (gi : Int) ((0 : Nat) : Int) d l m) (fun k => ?_) (rgrp_l0 d l m hs gi hg _ 0 (Nat.zero_add _))
  unfold quietusref07_group.f
  rw [if_pos (by omega), if_pos (by omega), if_neg (by omega)]
  rfl
theorem rchk_l0 (d : Int) (l : List (List Int)) (m : Int) (hs : Small l) : ∀ n i, i + n = l.length → Ev (fun k => quietusref07_Check.l0 k (i : Int) d l m) (chkFrom d l i n) := by
 intro n
 have hsl := hs.1
 induction n with
 | zero =>
  intro i hi
  refine Ev.step (f := fun _ => some 0) (fun k => ?_) (Ev.now _)
  simp only [quietusref07_Check.l0]
  rw [if_neg (by omega)]
 | succ n ih =>
  intro i hi
  refine Ev.step (f := fun k => (quietusref07_group.f k d l m (i : Int)).bind fun t => if t = 0 then quietusref07_Check.l0 k ((i + 1 : Nat) : Int) d l m else some t) (fun k => ?_) (Ev.bind (rgrp_ev d l m hs i (by omega)) ?_)
  ·simp only [quietusref07_Check.l0]
   rw [if_pos (by omega), wrap_succ (by omega)]
  ·simp only [chkFrom]
   by_cases e : grpErr d l i = 0
   ·simp only [e, if_true]
    exact ih (i + 1) (by omega)
   ·simp only [e, if_false]
    exact Ev.now _
/-- Groups and numbers as they come: no sum wraps round that matters. -/
theorem rchk_ev (d : Int) (l : List (List Int)) (m : Int) (hs : Small l) : Ev (fun k => quietusref07_Check.f k d l m) (chk d l m) := by
 have hsl := hs.1
 obtain ⟨b, hb⟩ : ∃ b, b = (decide (d < 1) || (decide (16 < d) || (decide (m < 0) || decide (4 < m)))) := ⟨_, rfl⟩
 refine Ev.congr (f := fun k => quietusref07_Check.j0 k b d l m) (fun k => ?_) ?_
 ·unfold quietusref07_Check.f
  by_cases c1 : d < 1
  ·rw [if_pos c1, hb]; simp [c1]
  rw [if_neg c1]
  by_cases c2 : 16 < d
  ·rw [if_pos c2, hb]; simp [c2]
  rw [if_neg c2]
  by_cases c3 : m < 0
  ·rw [if_pos c3, hb]; simp [c3]
  rw [if_neg c3, hb]
  simp [c1, c2, c3]
 ·refine Ev.step (f := fun k => if b = true then some 3 else if 24 < wrap64 (wrap64 (d + (l.length : Int)) + m) then some 2 else quietusref07_Check.l0 k ((0 : Nat) : Int) d l m) (fun k => by simp only [quietusref07_Check.j0]; rfl) ?_
  unfold chk
  cases b with
  | true =>
   have : d < 1 ∨ 16 < d ∨ m < 0 ∨ 4 < m := by simpa using hb.symm
   rw [if_pos this]
   exact Ev.now _
  | false =>
   have h' : ¬ (d < 1 ∨ 16 < d ∨ m < 0 ∨ 4 < m) := by
    intro h
    have : (decide (d < 1) || (decide (16 < d) || (decide (m < 0) || decide (4 < m)))) = true := by simpa using h
    rw [← hb] at this; cases this
   rw [if_neg h']
   have hw : wrap64 (wrap64 (d + (l.length : Int)) + m) = d + l.length + m := by unfold wrap64; omega
   rw [hw]
   by_cases e : 24 < d + (l.length : Int) + m
   ·simp only [e, if_true]
    exact Ev.now _
   ·simp only [e, if_false]
    exact rchk_l0 d l m hs _ 0 (Nat.zero_add _)

def orAll (g : List Int) (s : Nat) : Nat := g.foldl (fun s i => s ||| 2 ^ i.toNat) s
theorem orAll_snoc (g : List Int) (x : Int) (s : Nat) : orAll (g ++ [x]) s = orAll g s ||| 2 ^ x.toNat := by simp [orAll]
theorem orAll_lt {g : List Int} (h : ∀ x ∈ g, 0 ≤ x ∧ x < 16) : ∀ {s : Nat}, s < 2 ^ 16 → orAll g s < 2 ^ 16 := by
 induction g with
 | nil => intro s hs; exact hs
 | cons a g ih =>
  intro s hs
  have ha := h a (List.mem_cons_self)
  exact ih (fun x hx => h x (List.mem_cons_of_mem _ hx)) (Nat.or_lt_two_pow hs (Nat.pow_lt_pow_right (by decide) (by omega)))
theorem orAll_bit (g : List Int) (i : Nat) : ∀ s, (orAll g s).testBit i = (s.testBit i || g.any (fun x => x.toNat == i)) := by
 induction g with
 | nil => intro s; simp [orAll]
 | cons a g ih =>
  intro s
  show (orAll g (s ||| 2 ^ a.toNat)).testBit i = _
  rw [ih, Nat.testBit_or, Nat.testBit_two_pow, List.any_cons, Bool.or_assoc]
  congr 2
def seenOf (l : List (List Int)) : Nat → Nat
 | 0 => 0
 | i + 1 => orAll (rd_L1 l (i : Nat)) (seenOf l i)
/-- The groups before i have elements of the code alone. -/
def Elems (d : Int) (l : List (List Int)) (i : Nat) : Prop := ∀ h : Nat, h < i → ∀ x ∈ rd_L1 l (h : Nat), 0 ≤ x ∧ x < d
theorem seenOf_lt {d : Int} {l : List (List Int)} (hd : d ≤ 16) : ∀ {i}, Elems d l i → seenOf l i < 2 ^ 16
 | 0, _ => (by decide : (0 : Nat) < 2 ^ 16)
 | i + 1, h => orAll_lt (fun x hx => by have := h i (Nat.lt_succ_self i) x hx; omega) (seenOf_lt hd (fun g hg => h g (by omega)))
theorem seenOf_bit {d : Int} {l : List (List Int)} {x : Int} (hx : 0 ≤ x) : ∀ {i}, Elems d l i → (seenOf l i).testBit x.toNat = anyFrom (fun h => decide (x ∈ rd_L1 l (h : Nat))) 0 i := by
 intro i
 induction i with
 | zero => intro _; simp [seenOf, anyFrom]
 | succ i ih =>
  intro h
  have e := ih (fun g hg => h g (by omega))
  rw [Bool.eq_iff_iff, anyFrom_iff] at e ⊢
  rw [show seenOf l (i + 1) = orAll (rd_L1 l (i : Nat)) (seenOf l i) from rfl, orAll_bit, Bool.or_eq_true, e, List.any_eq_true]
  constructor
  ·rintro (⟨t, h1, h2, h3⟩ | ⟨y, hy, hz⟩)
   ·exact ⟨t, h1, by omega, h3⟩
   ·have := (h i (Nat.lt_succ_self i) y hy).1
    have hz : y.toNat = x.toNat := by simpa using hz
    obtain rfl : y = x := by omega
    exact ⟨i, by omega, by omega, by simpa using hy⟩
  ·rintro ⟨t, h1, h2, h3⟩
   by_cases ht : t = i
   ·subst ht; exact .inr ⟨x, by simpa using h3, by simp⟩
   ·exact .inl ⟨t, h1, by omega, h3⟩
theorem bit_of (s : Nat) (x : Int) (hx : 0 ≤ x) (h16 : x < 16) (hs : s < 2 ^ 16) : (Go.bits .and .i64 (shr .i64 (s : Int) x) 1 = 1) ↔ s.testBit x.toNat = true := by
 obtain ⟨n, rfl⟩ := Int.eq_ofNat_of_zero_le hx
 rw [shr_i64_nat s n (by omega), i64_and1 _ (by have := Nat.shiftRight_le s n; omega), Int.toNat_natCast, Nat.testBit_eq_decide_div_mod_eq, Nat.shiftRight_eq_div_pow, decide_eq_true_eq]
 omega
theorem rdm {l : List Int} {i : Nat} (h : i < l.length) : rd l (i : Int) ∈ l := by rw [rdi h]; exact List.getElem_mem h
theorem cchk_l2 (d : Int) (l : List (List Int)) (m : Int) (hs : Small l) (i : Nat) (hil : i < l.length) (s : Nat) (hlt : s < 2 ^ 16) (hg : ∀ x ∈ rd_L1 l (i : Nat), 0 ≤ x ∧ x < 16) (R : Int)
  (hR : Ev (fun k => code_Check.l0 k ((orAll (rd_L1 l (i : Nat)) s : Nat) : Int) 0 l (l.length : Int) ((i + 1 : Nat) : Int) d l m) R) :
  ∀ n j, j + n = (rd_L1 l (i : Nat)).length → Ev (fun k => code_Check.l2 k ((orAll ((rd_L1 l (i : Nat)).take j) s : Nat) : Int) 0 l (l.length : Int) (i : Int) (rd_L1 l (i : Nat)) ((rd_L1 l (i : Nat)).length : Int) (j : Int) d l m) R := by
 have hgl := hs.2 i
 have hsl := hs.1
 generalize rd_L1 l (i : Nat) = g at *
 intro n
 induction n with
 | zero =>
  intro j hj
  refine Ev.step (f := fun k => code_Check.l0 k ((orAll g s : Nat) : Int) 0 l (l.length : Int) ((i + 1 : Nat) : Int) d l m) (fun k => ?_) hR
  simp only [code_Check.l2]
  rw [if_neg (by omega), List.take_of_length_le (by omega), wrap_succ (by omega)]
 | succ n ih =>
  intro j hj
  have hx := hg _ (rdm (show j < g.length by omega))
  refine Ev.step (f := fun k => code_Check.l2 k ((orAll (g.take (j + 1)) s : Nat) : Int) 0 l (l.length : Int) (i : Int) g (g.length : Int) ((j + 1 : Nat) : Int) d l m) (fun k => ?_) (ih (j + 1) (by omega))
  simp only [code_Check.l2]
  have ht : g.take (j + 1) = g.take j ++ [rd g (j : Int)] := by rw [rdi (show j < g.length by omega)]; exact List.take_succ_eq_append_getElem (by omega)
  rw [if_pos (by omega), if_pos (by omega), if_pos (by omega), if_pos hx.1, wrap_succ (by omega), ht, orAll_snoc]
  have hb := orAll_lt (g := g.take j) (fun x hx => hg x (List.mem_of_mem_take hx)) hlt
  have hp : 2 ^ (rd g (j : Int)).toNat < 2 ^ 16 := Nat.pow_lt_pow_right (by decide) (by omega)
  have e := shl_i64_nat 1 (rd g (j : Int)).toNat (by omega) (by omega)
  rw [Int.toNat_of_nonneg hx.1, Nat.one_mul] at e
  rw [show ((1 : Nat) : Int) = 1 from rfl] at e
  rw [e, i64_or _ _ (by omega) (by omega)]
theorem cchk_l1 (d : Int) (hd : d ≤ 16) (l : List (List Int)) (m : Int) (hs : Small l) (i : Nat) (hil : i < l.length) (hel : Elems d l i) (R : Int)
  (hR : (∀ x ∈ rd_L1 l (i : Nat), 0 ≤ x ∧ x < d) → Ev (fun k => code_Check.l0 k ((seenOf l (i + 1) : Nat) : Int) 0 l (l.length : Int) ((i + 1 : Nat) : Int) d l m) R) :
  ∀ n j, j + n = (rd_L1 l (i : Nat)).length → (∀ t : Nat, t < j → 0 ≤ rd (rd_L1 l i) t ∧ rd (rd_L1 l i) t < d) →
   Ev (fun k => code_Check.l1 k ((seenOf l i : Nat) : Int) 0 (rd_L1 l i) l (l.length : Int) (i : Int) (rd_L1 l i) ((rd_L1 l i).length : Int) (j : Int) d l m) (if anyFrom (badEl d l i) j n = true then 1 else R) := by
 have hgl := hs.2 i
 have hlt := seenOf_lt hd hel
 intro n
 induction n with
 | zero =>
  intro j hj hpre
  have hall : ∀ x ∈ rd_L1 l (i : Nat), 0 ≤ x ∧ x < d := by
   intro x hx
   obtain ⟨t, ht, rfl⟩ := List.mem_iff_getElem.1 hx
   have := hpre t (by omega)
   rwa [rdi ht] at this
  refine Ev.step (f := fun k => code_Check.l2 k ((seenOf l i : Nat) : Int) 0 l (l.length : Int) (i : Int) (rd_L1 l i) ((rd_L1 l i).length : Int) ((0 : Nat) : Int) d l m) (fun k => ?_) ?_
  ·simp only [code_Check.l1]
   rw [if_neg (by omega)]
   rfl
  ·simp only [anyFrom]
   exact cchk_l2 d l m hs i hil (seenOf l i) hlt (fun x hx => by have := hall x hx; omega) R (hR hall) _ 0 (Nat.zero_add _)
 | succ n ih =>
  intro j hj hpre
  have hjl : j < (rd_L1 l i).length := by omega
  by_cases hb : badEl d l i j = true
  ·simp only [anyFrom, hb, Bool.true_or, if_true]
   refine Ev.step (f := fun _ => some 1) (fun k => ?_) (Ev.now _)
   simp only [code_Check.l1]
   rw [if_pos (by omega), if_pos (by omega), if_pos (by omega)]
   unfold badEl at hb
   by_cases c1 : rd (rd_L1 l i) j < 0
   ·rw [if_pos c1]
   rw [if_neg c1]
   by_cases c2 : d ≤ rd (rd_L1 l i) j
   ·rw [if_pos c2]
   rw [if_neg c2]
   simp only [c1, c2, decide_false, Bool.false_or] at hb
   have hsn : ¬ (decide (0 < j) && decide (rd (rd_L1 l i) j ≤ rd (rd_L1 l i) ((j - 1 : Nat) : Int))) = true → Go.bits .and .i64 (shr .i64 ((seenOf l i : Nat) : Int) (rd (rd_L1 l i) j)) 1 = 1 := by
    intro hn
    rw [bit_of _ _ (by omega) (by omega) hlt, seenOf_bit (by omega) hel]
    rw [Bool.not_eq_true] at hn
    rw [hn, Bool.false_or] at hb
    exact hb
   by_cases c3 : 0 < j
   ·rw [if_pos (by omega), wrap_pred c3 (by omega), if_pos (by omega), if_pos (by omega)]
    by_cases c4 : rd (rd_L1 l i) j ≤ rd (rd_L1 l i) ((j - 1 : Nat) : Int)
    ·rw [if_pos c4]
    ·rw [if_neg c4, if_pos (by omega), if_pos (hsn (by simp [c4]))]
   ·rw [if_neg (by omega), if_pos (by omega), if_pos (hsn (by simp [c3]))]
  ·have hb0 : badEl d l i j = false := Bool.eq_false_iff.2 hb
   simp only [anyFrom, hb0, Bool.false_or]
   unfold badEl at hb0
   simp only [Bool.or_eq_false_iff, decide_eq_false_iff_not] at hb0
   obtain ⟨⟨c1, c2, c3⟩, c4⟩ := hb0
   refine Ev.step (f := fun k => code_Check.l1 k ((seenOf l i : Nat) : Int) 0 (rd_L1 l i) l (l.length : Int) (i : Int) (rd_L1 l i) ((rd_L1 l i).length : Int) ((j + 1 : Nat) : Int) d l m) (fun k => ?_) (ih (j + 1) (by omega) (fun t ht => ?_))
   ·simp only [code_Check.l1]
    have hns : ¬ Go.bits .and .i64 (shr .i64 ((seenOf l i : Nat) : Int) (rd (rd_L1 l i) j)) 1 = 1 := by
     rw [bit_of _ _ (by omega) (by omega) hlt, seenOf_bit (by omega) hel, c4]
     decide
    rw [if_pos (by omega), if_pos (by omega), if_pos (by omega), if_neg c1, if_neg (show ¬ rd (rd_L1 l i) j ≥ d from c2)]
    by_cases e : 0 < j
    ·have c5 : ¬ rd (rd_L1 l i) j ≤ rd (rd_L1 l i) ((j - 1 : Nat) : Int) := by
      intro h; simp [e, h] at c3
     rw [if_pos (by omega), wrap_pred e (by omega), if_pos (by omega), if_pos (by omega), if_neg c5, if_pos (by omega), if_neg hns, wrap_succ (by omega)]
    ·rw [if_neg (by omega), if_pos (by omega), if_neg hns, wrap_succ (by omega)]
   ·by_cases e : t = j
    ·subst e; omega
    ·exact hpre t (by omega)
theorem cchk_l0 (d : Int) (hd : d ≤ 16) (l : List (List Int)) (m : Int) (hs : Small l) : ∀ n i, i + n = l.length → Elems d l i → Ev (fun k => code_Check.l0 k ((seenOf l i : Nat) : Int) 0 l (l.length : Int) (i : Int) d l m) (chkFrom d l i n) := by
 intro n
 have hsl := hs.1
 induction n with
 | zero =>
  intro i hi hel
  refine Ev.step (f := fun _ => some 0) (fun k => ?_) (Ev.now _)
  simp only [code_Check.l0]
  rw [if_neg (by omega)]
 | succ n ih =>
  intro i hi hel
  by_cases h0 : (rd_L1 l i).length = 0
  ·have e : grpErr d l i = 8 := by unfold grpErr; rw [if_pos h0]
   simp only [chkFrom, e]
   refine Ev.step (f := fun _ => some 8) (fun k => ?_) (Ev.now _)
   simp only [code_Check.l0]
   rw [if_pos (by omega), if_pos (by omega), if_pos (by omega), if_pos (by omega)]
  ·refine Ev.step (f := fun k => code_Check.l1 k ((seenOf l i : Nat) : Int) 0 (rd_L1 l i) l (l.length : Int) (i : Int) (rd_L1 l i) ((rd_L1 l i).length : Int) ((0 : Nat) : Int) d l m) (fun k => ?_) ?_
   ·simp only [code_Check.l0]
    rw [if_pos (by omega), if_pos (by omega), if_pos (by omega), if_neg (by omega)]
    rfl
   ·refine ev_eq (cchk_l1 d hd l m hs i (by omega) hel (chkFrom d l (i + 1) n) (fun hall => ih (i + 1) (by omega) (fun h hh => ?_)) _ 0 (Nat.zero_add _) (fun t ht => absurd ht (Nat.not_lt_zero t))) ?_
    ·by_cases e : h = i
     ·subst e; exact hall
     ·exact hel h (by omega)
    ·have ge : grpErr d l i = if anyFrom (badEl d l i) 0 (rd_L1 l i).length = true then 1 else 0 := by unfold grpErr; rw [if_neg h0]
     by_cases e : anyFrom (badEl d l i) 0 (rd_L1 l i).length = true
     ·rw [if_pos e] at ge ⊢
      simp [chkFrom, ge]
     ·rw [if_neg e] at ge ⊢
      simp [chkFrom, ge]
theorem cchk_ev (d : Int) (l : List (List Int)) (m : Int) (hs : Small l) : Ev (fun k => code_Check.f k d l m) (chk d l m) := by
 have hsl := hs.1
 obtain ⟨b, hb⟩ : ∃ b, b = (decide (d < 1) || (decide (16 < d) || (decide (m < 0) || decide (4 < m)))) := ⟨_, rfl⟩
 refine Ev.congr (f := fun k => code_Check.j0 k b d l m) (fun k => ?_) ?_
 ·unfold code_Check.f
  by_cases c1 : d < 1
  ·rw [if_pos c1, hb]; simp [c1]
  rw [if_neg c1]
  by_cases c2 : 16 < d
  ·rw [if_pos c2, hb]; simp [c2]
  rw [if_neg c2]
  by_cases c3 : m < 0
  ·rw [if_pos c3, hb]; simp [c3]
  rw [if_neg c3, hb]
  simp [c1, c2, c3]
 ·unfold chk
  cases b with
  | true =>
   have : d < 1 ∨ 16 < d ∨ m < 0 ∨ 4 < m := by simpa using hb.symm
   rw [if_pos this]
   exact Ev.step (f := fun _ => some 3) (fun k => by simp only [code_Check.j0]; rfl) (Ev.now _)
  | false =>
   have h' : ¬ (d < 1 ∨ 16 < d ∨ m < 0 ∨ 4 < m) := by
    intro h
    have : (decide (d < 1) || (decide (16 < d) || (decide (m < 0) || decide (4 < m)))) = true := by simpa using h
    rw [← hb] at this; cases this
   rw [if_neg h']
   have hw : wrap64 (wrap64 (d + (l.length : Int)) + m) = d + l.length + m := by unfold wrap64; omega
   by_cases e : 24 < d + (l.length : Int) + m
   ·rw [if_pos e]
    refine Ev.step (f := fun k => code_Check.j1 k true d l m) (fun k => ?_) (Ev.step (f := fun _ => some 2) (fun k => by simp only [code_Check.j1]; rfl) (Ev.now _))
    simp only [code_Check.j0, hw, gt_iff_lt, e, decide_true, Bool.false_eq_true, if_false, ite_self]
   ·rw [if_neg e]
    refine Ev.step (f := fun k => code_Check.j1 k false d l m) (fun k => ?_) (Ev.step (f := fun k => code_Check.l0 k ((seenOf l 0 : Nat) : Int) 0 l (l.length : Int) ((0 : Nat) : Int) d l m) (fun k => by simp only [code_Check.j1]; rfl) (cchk_l0 d (by omega) l m hs _ 0 (Nat.zero_add _) (fun h hh => absurd hh (Nat.not_lt_zero h))))
    simp only [code_Check.j0, hw, gt_iff_lt, e, decide_false, Bool.false_eq_true, if_false]
    rw [if_neg (by omega)]
/-! what a code without an error is like -/
theorem chkFrom_elems {d : Int} {l : List (List Int)} : ∀ n i, chkFrom d l i n = 0 → ∀ h : Nat, i ≤ h → h < i + n → grpErr d l h = 0 := by
 intro n
 induction n with
 | zero => intro i _ h h1 h2; omega
 | succ n ih =>
  intro i hc h h1 h2
  simp only [chkFrom] at hc
  by_cases e : grpErr d l i = 0
  ·rw [if_pos e] at hc
   by_cases e2 : h = i
   ·subst e2; exact e
   ·exact ih (i + 1) hc h (by omega) (by omega)
  ·rw [if_neg e] at hc
   exact absurd hc e
theorem grp_ok {d : Int} {l : List (List Int)} {gi : Nat} (h : grpErr d l gi = 0) : 0 < (rd_L1 l gi).length ∧ ∀ j : Nat, j < (rd_L1 l gi).length → badEl d l gi j = false := by
 unfold grpErr at h
 by_cases e : (rd_L1 l gi).length = 0
 ·rw [if_pos e] at h; cases h
 ·rw [if_neg e] at h
  refine ⟨by omega, fun j hj => ?_⟩
  have : anyFrom (badEl d l gi) 0 (rd_L1 l gi).length = false := by
   cases hc : anyFrom (badEl d l gi) 0 (rd_L1 l gi).length
   ·rfl
   ·rw [hc] at h; cases h
  exact anyFrom_false this j (Nat.zero_le _) (by omega)
structure CodeOk (d : Int) (l : List (List Int)) (m : Int) : Prop where
 d1 : 1 ≤ d
 d2 : d ≤ 16
 m1 : 0 ≤ m
 m2 : m ≤ 4
 sum : d + l.length + m ≤ 24
 grp : ∀ h : Nat, h < l.length → 0 < (rd_L1 l h).length ∧ ∀ j : Nat, j < (rd_L1 l h).length → badEl d l h j = false
theorem chk_ok {d : Int} {l : List (List Int)} {m : Int} (h : chk d l m = 0) : CodeOk d l m := by
 unfold chk at h
 by_cases c1 : d < 1 ∨ 16 < d ∨ m < 0 ∨ 4 < m
 ·rw [if_pos c1] at h; cases h
 rw [if_neg c1] at h
 by_cases c2 : 24 < d + (l.length : Int) + m
 ·rw [if_pos c2] at h; cases h
 rw [if_neg c2] at h
 exact ⟨by omega, by omega, by omega, by omega, by omega, fun g hg => grp_ok (chkFrom_elems _ _ h g (Nat.zero_le _) (by omega))⟩
theorem CodeOk.elems {d : Int} {l : List (List Int)} {m : Int} (h : CodeOk d l m) : Elems d l l.length := by
 intro g hg x hx
 obtain ⟨t, ht, rfl⟩ := List.mem_iff_getElem.1 hx
 have := (h.grp g hg).2 t ht
 unfold badEl at this
 simp only [Bool.or_eq_false_iff, decide_eq_false_iff_not, rdi ht] at this
 omega
/-! Pieces, Size, Few -/
def piecesOf (d : Int) (l : List (List Int)) (m : Int) : Int := if chk d l m = 0 then d + l.length + m else 0
theorem cpieces_ev (d : Int) (l : List (List Int)) (m : Int) (hs : Small l) : Ev (fun k => code_Pieces.f k d l m) (piecesOf d l m) := by
 unfold piecesOf
 refine Ev.congr (f := fun k => (code_Check.f k d l m).bind fun t => if t = 0 then some (wrap64 (wrap64 (d + (l.length : Int)) + m)) else some 0) (fun k => rfl) (Ev.bind (cchk_ev d l m hs) ?_)
 by_cases e : chk d l m = 0
 ·have := chk_ok e
  have h1 := this.d1; have h2 := this.d2; have h3 := this.m1; have h4 := this.m2; have h5 := this.sum
  simp only [e, if_true]
  have hw : wrap64 (wrap64 (d + (l.length : Int)) + m) = d + l.length + m := by unfold wrap64; omega
  rw [hw]
  exact Ev.now _
 ·simp only [e, if_false]
  exact Ev.now _
theorem rpieces_ev (d : Int) (l : List (List Int)) (m : Int) (hs : Small l) : Ev (fun k => quietusref07_Pieces.f k d l m) (piecesOf d l m) := by
 unfold piecesOf
 refine Ev.congr (f := fun k => (quietusref07_Check.f k d l m).bind fun t => if t = 0 then some (wrap64 (wrap64 (d + (l.length : Int)) + m)) else some 0) (fun k => rfl) (Ev.bind (rchk_ev d l m hs) ?_)
 by_cases e : chk d l m = 0
 ·have := chk_ok e
  have h1 := this.d1; have h2 := this.d2; have h3 := this.m1; have h4 := this.m2; have h5 := this.sum
  simp only [e, if_true]
  have hw : wrap64 (wrap64 (d + (l.length : Int)) + m) = d + l.length + m := by unfold wrap64; omega
  rw [hw]
  exact Ev.now _
 ·simp only [e, if_false]
  exact Ev.now _
def sizeOf (d : Int) (l : List (List Int)) (m n : Int) : Int := if chk d l m = 0 ∧ 0 ≤ n ∧ n ≤ 4096 then (n + d - 1) / d else 0
def fewB (l : List (List Int)) (n : Int) : Bool := !(decide (n < l.length) || anyFrom (fun h => decide (20 < (rd_L1 l (h : Nat)).length)) 0 l.length)
theorem few_l0 (d : Int) (l : List (List Int)) (m : Int) (hl : l.length ≤ 4611686018427387000) : ∀ n i, i + n = l.length → Ev (fun k => quietusref07_Few.l0 k (i : Int) d l m) (!(anyFrom (fun h => decide (20 < (rd_L1 l (h : Nat)).length)) i n)) := by
 intro n
 induction n with
 | zero =>
  intro i hi
  refine Ev.step (f := fun _ => some true) (fun k => ?_) (Ev.now _)
  simp only [quietusref07_Few.l0]
  rw [if_neg (by omega)]
 | succ n ih =>
  intro i hi
  by_cases e : 20 < (rd_L1 l (i : Nat)).length
  ·simp only [anyFrom, e, decide_true, Bool.true_or, Bool.not_true]
   refine Ev.step (f := fun _ => some false) (fun k => ?_) (Ev.now _)
   simp only [quietusref07_Few.l0]
   rw [if_pos (by omega), if_pos (by omega), if_pos (by omega)]
  ·simp only [anyFrom, e, decide_false, Bool.false_or]
   refine Ev.step (f := fun k => quietusref07_Few.l0 k ((i + 1 : Nat) : Int) d l m) (fun k => ?_) (ih (i + 1) (by omega))
   simp only [quietusref07_Few.l0]
   rw [if_pos (by omega), if_pos (by omega), if_neg (by omega), wrap_succ (by omega)]
theorem few_ev (d : Int) (l : List (List Int)) (m n : Int) (hn : n ≤ 4611686018427387000) : Ev (fun k => quietusref07_Few.f k d l m n) (fewB l n) := by
 unfold fewB
 by_cases e : n < (l.length : Int)
 ·simp only [e, decide_true, Bool.true_or, Bool.not_true]
  exact Ev.congr (f := fun _ => some false) (fun k => by unfold quietusref07_Few.f; rw [if_pos e]) (Ev.now _)
 ·simp only [e, decide_false, Bool.false_or]
  exact Ev.congr (f := fun k => quietusref07_Few.l0 k ((0 : Nat) : Int) d l m) (fun k => by unfold quietusref07_Few.f; rw [if_neg (by omega)]; rfl) (few_l0 d l m (by omega) _ 0 (Nat.zero_add _))
theorem few_small {l : List (List Int)} {n : Int} (h : fewB l n = true) (hn : n ≤ 1000000) : (l.length : Int) ≤ n ∧ Small l ∧ ∀ i : Nat, (rd_L1 l i).length ≤ 20 := by
 unfold fewB at h
 simp only [Bool.not_eq_true', Bool.or_eq_false_iff, decide_eq_false_iff_not] at h
 have h2 : ∀ i : Nat, (rd_L1 l i).length ≤ 20 := by
  intro i
  by_cases hi : i < l.length
  ·have := anyFrom_false h.2 i (Nat.zero_le _) (by omega)
   simp only [decide_eq_false_iff_not] at this
   omega
  ·have : rd_L1 l i = [] := by
    unfold rd_L1
    rw [Int.toNat_natCast, List.getD_eq_getElem?_getD, List.getElem?_eq_none (by omega)]
    rfl
   rw [this]; simp
 exact ⟨by omega, ⟨by omega, fun i => by have := h2 i; omega⟩, h2⟩
end Go.Proofs.YtkadfidmfnpohaaDoor.XB

namespace Go.Proofs.YtkadfidmfnpohaaDoor.XB
open Go.RowKit Go.Proofs.YtkadfidmfnpohaaDoorW.PrintWords Go.Proofs.YtkadfidmfnpohaaDoorW.PrintLast Go.Proofs.YtkadfidmfnpohaaDoorW.PrintMore
set_option linter.unusedVariables false
set_option linter.unusedSimpArgs false
theorem i64_xor (a b : Nat) (ha : a < 2 ^ 63) (hb : b < 2 ^ 63) : Go.bits .xor .i64 (a : Int) (b : Int) = ((a ^^^ b : Nat) : Int) := by
 show IntKind.i64.wrap ((BitVec.ofInt 64 (a : Int) ^^^ BitVec.ofInt 64 (b : Int)).toNat : Int) = _
 rw [BitVec.toNat_xor, BitVec.ofInt_natCast, BitVec.ofInt_natCast, BitVec.toNat_ofNat, BitVec.toNat_ofNat, Nat.mod_eq_of_lt (by omega), Nat.mod_eq_of_lt (by omega)]
 have := Nat.xor_lt_two_pow ha hb
 exact wraps_i64 _ (by omega) (by exact_mod_cast this)
/-! the reference's product -/
theorem mulN_step {a b : Nat} (hb : b < 256) : QGF.mulN a b = QGF.pick b 0 a ^^^ QGF.mulN (QGF.xtN a) (b / 2) := by
 have hp : ∀ k x, QGF.pick (b / 2) k x = QGF.pick b (k + 1) x := by
  intro k x
  unfold QGF.pick
  rw [Nat.shiftRight_eq_div_pow, Nat.shiftRight_eq_div_pow, Nat.div_div_eq_div_mul, Nat.pow_succ, Nat.mul_comm (2 ^ k) 2]
 have h8 : ∀ x, QGF.pick b 8 x = 0 := by
  intro x
  unfold QGF.pick
  rw [Nat.shiftRight_eq_div_pow, Nat.div_eq_of_lt (by omega)]
  simp
 unfold QGF.mulN
 simp only [hp, h8, Nat.xor_zero]
theorem rmul_from : ∀ (n b : Nat), b < 2 ^ n → b < 256 → ∀ a x : Nat, a < 256 → x < 256 → Ev (fun k => quietusref04_Mul.l0 k (a : Int) (b : Int) (x : Int)) ((x ^^^ QGF.mulN a b : Nat) : Int) := by
 intro n
 induction n with
 | zero =>
  intro b hb _ a x ha hx
  obtain rfl : b = 0 := by simpa using hb
  refine Ev.step (f := fun _ => some (((x ^^^ QGF.mulN a 0 : Nat) : Int))) (fun k => ?_) (Ev.now _)
  simp only [quietusref04_Mul.l0]
  rw [if_neg (by omega), QGF.mul_zero, Nat.xor_zero]
  congr 1
  omega
 | succ n ih =>
  intro b hb hb2 a x ha hx
  by_cases h0 : b = 0
  ·subst h0
   refine Ev.step (f := fun _ => some (((x ^^^ QGF.mulN a 0 : Nat) : Int))) (fun k => ?_) (Ev.now _)
   simp only [quietusref04_Mul.l0]
   rw [if_neg (by omega), QGF.mul_zero, Nat.xor_zero]
   congr 1
   omega
  ·have hp : (2 : Nat) ^ (n + 1) = 2 * 2 ^ n := by rw [Nat.pow_succ, Nat.mul_comm]
   have hxt : (if wrap64 (2 * (a : Int)) > 255 then Go.bits .xor .i64 (wrap64 (2 * (a : Int))) 285 else wrap64 (2 * (a : Int))) = ((QGF.xtN a : Nat) : Int) := by
    have e : wrap64 (2 * (a : Int)) = ((2 * a : Nat) : Int) := by unfold wrap64; omega
    rw [e]
    unfold QGF.xtN
    by_cases c : 128 ≤ a
    ·rw [if_pos (by omega), show a / 128 = 1 by omega]
     exact i64_xor (2 * a) 285 (by omega) (by decide)
    ·rw [if_neg (by omega), show a / 128 = 0 by omega]
     simp
   have h2 : wrap64 (Int.tdiv (b : Int) 2) = ((b / 2 : Nat) : Int) := by
    rw [Int.tdiv_eq_ediv_of_nonneg (by omega)]
    unfold wrap64; omega
   have hm : Int.tmod (b : Int) 2 = ((b % 2 : Nat) : Int) := by
    rw [Int.tmod_eq_emod_of_nonneg (by omega)]; omega
   have hxa := i64_xor x a (by omega) (by omega)
   refine Ev.step (f := fun k => quietusref04_Mul.l0 k ((QGF.xtN a : Nat) : Int) ((b / 2 : Nat) : Int) ((x ^^^ QGF.pick b 0 a : Nat) : Int)) (fun k => ?_) (ev_eq (ih (b / 2) (by omega) (by omega) (QGF.xtN a) (x ^^^ QGF.pick b 0 a) (QGF.xt_lt ha) (QGF.xor_lt hx (QGF.pick_lt ha))) ?_)
   ·simp only [quietusref04_Mul.l0]
    rw [if_pos (by omega), hm, h2, hxa]
    have hpk : QGF.pick b 0 a = b % 2 * a := by unfold QGF.pick; simp
    rcases Nat.mod_two_eq_zero_or_one b with e | e
    ·rw [e, if_neg (by decide), hpk, e, Nat.zero_mul, Nat.xor_zero, ← hxt]
     split <;> rfl
    ·rw [e, if_pos (by decide), hpk, e, Nat.one_mul, ← hxt]
     split <;> rfl
   ·rw [mulN_step hb2, Nat.xor_assoc]
theorem rmul_ev {a b : Int} (ha : isB a = true) (hb : isB b = true) : Ev (fun k => quietusref04_Mul.f k a b) (imul a b) := by
 rw [isB_iff] at ha hb
 obtain ⟨m, rfl⟩ := Int.eq_ofNat_of_zero_le ha.1
 obtain ⟨n, rfl⟩ := Int.eq_ofNat_of_zero_le hb.1
 refine Ev.congr (f := fun k => quietusref04_Mul.l0 k (m : Int) (n : Int) ((0 : Nat) : Int)) (fun k => ?_) (ev_eq (rmul_from 8 n (by omega) (by omega) m 0 (by omega) (by decide)) ?_)
 ·unfold quietusref04_Mul.f
  rw [wrap_nat (by omega), wrap_nat (by omega)]
  rfl
 ·unfold imul
  rw [Nat.zero_xor, Int.toNat_natCast, Int.toNat_natCast]
/-! powers of 2 -/
theorem rexp_from (n : Nat) (hn : n < 2 ^ 62) : ∀ j i : Nat, i + j = n % 255 → Ev (fun k => quietusref04_Exp.l0 k (n : Int) ((QGF.xtp i 1 : Nat) : Int) (i : Int)) ((QGF.xtp (n % 255) 1 : Nat) : Int) := by
 have he : quietusref04_exponent.f (n : Int) = some ((n % 255 : Nat) : Int) := by
  unfold quietusref04_exponent.f
  rw [Int.tmod_eq_emod_of_nonneg (show (0 : Int) ≤ (n : Int) by omega)]
  have e : wrap64 ((n : Int) % 255 + 255) = ((n % 255 + 255 : Nat) : Int) := by unfold wrap64; omega
  rw [e, Int.tmod_eq_emod_of_nonneg (by omega)]
  congr 1
  omega
 intro j
 induction j with
 | zero =>
  intro i hi
  refine Ev.step (f := fun _ => some ((QGF.xtp (n % 255) 1 : Nat) : Int)) (fun k => ?_) (Ev.now _)
  simp only [quietusref04_Exp.l0, he, Option.bind_some]
  rw [if_neg (by omega), show i = n % 255 by omega]
 | succ j ih =>
  intro i hi
  have hb := rmul_ev (isB_nat (QGF.xtp_lt (a := 1) (by decide) i)) (show isB 2 = true by decide)
  refine Ev.step (f := fun k => (quietusref04_Mul.f k ((QGF.xtp i 1 : Nat) : Int) 2).bind fun t => quietusref04_Exp.l0 k (n : Int) t ((i + 1 : Nat) : Int)) (fun k => ?_) (Ev.bind hb ?_)
  ·simp only [quietusref04_Exp.l0, he, Option.bind_some]
   rw [if_pos (by omega), wrap_succ (by omega)]
  ·have e : imul ((QGF.xtp i 1 : Nat) : Int) 2 = ((QGF.xtp (i + 1) 1 : Nat) : Int) := by
    show ((QGF.mulN (QGF.xtp i 1) (QGF.xtp 1 1) : Nat) : Int) = _
    rw [QGF.mul_pow (QGF.xtp_lt (by decide) i), ← QGF.xtp_add]
   rw [e]
   exact ih (i + 1) (by omega)
theorem rexp_ev (n : Nat) (hn : n < 2 ^ 62) : Ev (fun k => quietusref04_Exp.f k (n : Int)) ((QGF.xtp n 1 : Nat) : Int) := by
 rw [QGF.xtp_mod n]
 exact rexp_from n hn _ 0 (Nat.zero_add _)
/-! a row of the reference -/
def elAt (D : Nat) (l : List (List Int)) (t i : Nat) : Int := if t < D then unitAt t i else if t < D + l.length then setAt (setOf (rd_L1 l ((t - D : Nat) : Int))) i else expAt (t - D - l.length) i
def rowAt (D : Nat) (l : List (List Int)) (t : Nat) : List Int := (List.range D).map (elAt D l t)
theorem setAt_has {g : List Int} (h : ∀ x ∈ g, 0 ≤ x ∧ x < 16) (i : Nat) : setAt (setOf g) i = if (i : Int) ∈ g then 1 else 0 := by
 have e : (setOf g).testBit i = g.any (fun x => x.toNat == i) := by
  have := orAll_bit g i 0
  rwa [Nat.zero_testBit, Bool.false_or] at this
 have hm : (g.any (fun x => x.toNat == i) = true) ↔ (i : Int) ∈ g := by
  rw [List.any_eq_true]
  constructor
  ·rintro ⟨x, hx, hz⟩
   have := (h x hx).1
   have hz : x.toNat = i := by simpa using hz
   rwa [show (i : Int) = x by omega]
  ·intro hx
   exact ⟨_, hx, by simp⟩
 unfold setAt
 rw [Nat.testBit_eq_decide_div_mod_eq, ← Nat.shiftRight_eq_div_pow] at e
 by_cases c : (i : Int) ∈ g
 ·rw [if_pos c]
  rw [hm.2 c, decide_eq_true_eq] at e
  rw [e]; rfl
 ·rw [if_neg c]
  have hf : g.any (fun x => x.toNat == i) = false := by
   cases hc : g.any (fun x => x.toNat == i)
   ·rfl
   ·exact absurd (hm.1 hc) c
  rw [hf, decide_eq_false_iff_not] at e
  have : setOf g >>> i % 2 = 0 := by omega
  rw [this]; rfl
theorem rrow_from (D : Nat) (l : List (List Int)) (m : Int) (hs : Small l) (hD : D ≤ 16) (hsum : l.length ≤ 24) (hel : Elems D l l.length) (t : Nat) (ht : t < 30) :
  ∀ n i, i + n = D → Ev (fun k => quietusref07_row.l0 k (t : Int) ((List.range i).map (elAt D l t)) (i : Int) (D : Int) l m) (rowAt D l t) := by
 intro n
 induction n with
 | zero =>
  intro i hi
  refine Ev.step (f := fun _ => some (rowAt D l t)) (fun k => ?_) (Ev.now _)
  simp only [quietusref07_row.l0]
  rw [if_neg (by omega), show i = D by omega]
  rfl
 | succ n ih =>
  intro i hi
  have hnx := ih (i + 1) (by omega)
  have hsnoc : (List.range (i + 1)).map (elAt D l t) = (List.range i).map (elAt D l t) ++ [elAt D l t i] := by rw [List.range_succ, List.map_append]; rfl
  rw [hsnoc] at hnx
  have hlen : ((List.range i).map (elAt D l t)).length < 140737488355328 := by simp; omega
  by_cases c1 : t < D
  ·refine Ev.step (f := fun k => quietusref07_row.l0 k (t : Int) ((List.range i).map (elAt D l t) ++ [elAt D l t i]) ((i + 1 : Nat) : Int) (D : Int) l m) (fun k => ?_) hnx
   simp only [quietusref07_row.l0]
   rw [if_pos (by omega), if_pos (by omega), if_pos hlen, if_pos hlen, wrap_succ (by omega)]
   unfold elAt unitAt
   rw [if_pos c1]
   by_cases e : i = t
   ·rw [if_pos (by omega), if_pos e]
   ·rw [if_neg (by omega), if_neg e]
  ·have hw1 : wrap64 ((D : Int) + (l.length : Int)) = ((D + l.length : Nat) : Int) := by unfold wrap64; omega
   have hw2 : wrap64 ((t : Int) - (D : Int)) = ((t - D : Nat) : Int) := by unfold wrap64; omega
   by_cases c2 : t < D + l.length
   ·have hg := hel (t - D) (by omega)
    have hhas := has_ev (rd_L1 l ((t - D : Nat) : Int)) (i : Int) (hs.2 _)
    have hset := setAt_has (g := rd_L1 l ((t - D : Nat) : Int)) (fun x hx => by have := hg x hx; omega) i
    have hea : elAt D l t i = if (i : Int) ∈ rd_L1 l ((t - D : Nat) : Int) then 1 else 0 := by
     unfold elAt
     rw [if_neg c1, if_pos c2, hset]
    refine Ev.step (f := fun k => (quietusref07_Has.f k (rd_L1 l ((t - D : Nat) : Int)) (i : Int)).bind fun b => if b = true then quietusref07_row.l0 k (t : Int) ((List.range i).map (elAt D l t) ++ [1]) ((i + 1 : Nat) : Int) (D : Int) l m else quietusref07_row.l0 k (t : Int) ((List.range i).map (elAt D l t) ++ [0]) ((i + 1 : Nat) : Int) (D : Int) l m) (fun k => ?_) (Ev.bind hhas ?_)
    ·simp only [quietusref07_row.l0]
     rw [if_pos (by omega), if_neg (by omega), hw1, if_pos (by omega), hw2, if_pos (by omega), if_pos (by omega), if_pos hlen, if_pos hlen, wrap_succ (by omega)]
    ·rw [hea] at hnx
     by_cases e : (i : Int) ∈ rd_L1 l ((t - D : Nat) : Int)
     ·simp only [e, decide_true, if_true] at hnx ⊢
      exact hnx
     ·simp only [e, decide_false, if_false, Bool.false_eq_true] at hnx ⊢
      exact hnx
   ·have hw3 : wrap64 (wrap64 (((t - D : Nat) : Int) - (l.length : Int)) + 1) = ((t - D - l.length + 1 : Nat) : Int) := by unfold wrap64; omega
    have hmul : i * (t - D - l.length + 1) ≤ 16 * 31 := Nat.mul_le_mul (by omega) (by omega)
    have hw4 : wrap64 ((i : Int) * ((t - D - l.length + 1 : Nat) : Int)) = ((i * (t - D - l.length + 1) : Nat) : Int) := by
     rw [show (i : Int) * ((t - D - l.length + 1 : Nat) : Int) = ((i * (t - D - l.length + 1) : Nat) : Int) by simp]
     exact wrap_nat (by omega)
    refine Ev.step (f := fun k => (quietusref04_Exp.f k ((i * (t - D - l.length + 1) : Nat) : Int)).bind fun z => quietusref07_row.l0 k (t : Int) ((List.range i).map (elAt D l t) ++ [z]) ((i + 1 : Nat) : Int) (D : Int) l m) (fun k => ?_) (Ev.bind (rexp_ev (i * (t - D - l.length + 1)) (Nat.lt_of_le_of_lt hmul (by decide))) ?_)
    ·simp only [quietusref07_row.l0]
     rw [if_pos (by omega), if_neg (by omega), hw1, if_neg (by omega), hw2, hw3, hw4]
     simp only [if_pos hlen]
     rw [wrap_succ (by omega)]
    ·have hea : elAt D l t i = ((QGF.xtp (i * (t - D - l.length + 1)) 1 : Nat) : Int) := by
      unfold elAt
      rw [if_neg c1, if_neg c2]
      rfl
     rw [hea] at hnx
     exact hnx
theorem rrow_ev (D : Nat) (l : List (List Int)) (m : Int) (hs : Small l) (hD : D ≤ 16) (hsum : l.length ≤ 24) (hel : Elems D l l.length) (t : Nat) (ht : t < 30) : Ev (fun k => quietusref07_row.f k (D : Int) l m (t : Int)) (rowAt D l t) :=
 Ev.congr (f := fun k => quietusref07_row.l0 k (t : Int) ((List.range 0).map (elAt D l t)) ((0 : Nat) : Int) (D : Int) l m) (fun k => by unfold quietusref07_row.f; rfl) (rrow_from D l m hs hD hsum hel t ht D 0 (Nat.zero_add _))
/-! all rows -/
theorem rowsOf_eq (D : Nat) (l : List (List Int)) (M : Nat) : rowsOf D l M = (List.range (D + l.length + M)).map (rowAt D l) := by
 unfold rowsOf unitRows groupRows expRows
 rw [List.take_length]
 apply List.ext_getElem?
 intro i
 by_cases c1 : i < D
 ·rw [List.append_assoc, List.getElem?_append_left (by simpa using c1), List.getElem?_map, List.getElem?_map, List.getElem?_range c1, List.getElem?_range (by omega)]
  simp only [Option.map_some]
  congr 1
  unfold unitRow rowAt
  apply List.map_congr_left
  intro j _
  unfold elAt
  rw [if_pos c1]
 ·by_cases c2 : i < D + l.length
  ·rw [List.append_assoc, List.getElem?_append_right (by simp; omega), List.getElem?_append_left (by simp; omega), List.getElem?_map, List.getElem?_map, List.getElem?_range (by omega)]
   simp only [List.length_map, List.length_range, Option.map_some]
   rw [List.getElem?_eq_getElem (by omega)]
   simp only [Option.map_some]
   congr 1
   unfold groupRow rowAt
   apply List.map_congr_left
   intro j _
   unfold elAt
   rw [if_neg c1, if_pos c2]
   have : rd_L1 l ((i - D : Nat) : Int) = l[i - D]'(by omega) := by simp [rd_L1, List.getD_eq_getElem?_getD, List.getElem?_eq_getElem (show i - D < l.length by omega)]
   rw [this]
  ·have hL : ((List.range D).map (unitRow D) ++ l.map (groupRow D)).length = D + l.length := by simp
   by_cases c3 : i < D + l.length + M
   ·rw [List.getElem?_append_right (by omega), hL, List.getElem?_map, List.getElem?_range (show i - (D + l.length) < M by omega), List.getElem?_map, List.getElem?_range c3]
    simp only [Option.map_some]
    congr 1
    unfold expRow rowAt
    apply List.map_congr_left
    intro j _
    unfold elAt
    rw [if_neg c1, if_neg c2, Nat.sub_add_eq]
   ·rw [List.getElem?_eq_none (by simp; omega), List.getElem?_eq_none (by simp; omega)]
theorem okCode_of {D : Nat} {l : List (List Int)} {M : Nat} (h : CodeOk (D : Int) l (M : Int)) : okCode (D : Int) l (M : Int) = true := by
 have h1 := h.d1; have h2 := h.d2; have h3 := h.m2; have h4 := h.sum; have h5 := h.elems
 simp only [okCode, Bool.and_eq_true, decide_eq_true_eq, List.all_eq_true]
 refine ⟨⟨⟨⟨⟨h1, h2⟩, by omega⟩, h3⟩, by omega⟩, fun g hg x hx => ?_⟩
 obtain ⟨t, ht, rfl⟩ := List.mem_iff_getElem.1 hg
 have e : rd_L1 l (t : Nat) = l[t] := by simp [rd_L1, List.getD_eq_getElem?_getD, List.getElem?_eq_getElem ht]
 have := h5 t ht x (by rw [e]; exact hx)
 omega
theorem CodeOk.nats {d : Int} {l : List (List Int)} {m : Int} (h : CodeOk d l m) : ∃ D M : Nat, d = D ∧ m = M := by
 have h1 := h.d1; have h3 := h.m1
 exact ⟨d.toNat, m.toNat, by omega, by omega⟩
/-- The rows of a code; none with an error. -/
def rowsFor (d : Int) (l : List (List Int)) (m : Int) : List (List Int) := if chk d l m = 0 then rowsOf d.toNat l m.toNat else []
theorem crows_ev (d : Int) (l : List (List Int)) (m : Int) (hs : Small l) : Ev (fun k => code_Rows.f k d l m) (rowsFor d l m, chk d l m) := by
 unfold rowsFor
 refine Ev.congr (f := fun k => (code_Check.f k d l m).bind fun e => if e = 0 then (if okCode d l m = true then some (rowsOf d.toNat l m.toNat, 0) else none) else some ([], e)) (fun k => rfl) (Ev.bind (cchk_ev d l m hs) ?_)
 by_cases e : chk d l m = 0
 ·have hok := chk_ok e
  obtain ⟨D, M, rfl, rfl⟩ := hok.nats
  simp only [e, if_true, okCode_of hok]
  exact Ev.now _
 ·simp only [e, if_false]
  exact Ev.now _
set_option linter.unusedSimpArgs false
theorem snoc_map {α : Type} (f : Nat → α) (i : Nat) : (List.range (i + 1)).map f = (List.range i).map f ++ [f i] := by rw [List.range_succ, List.map_append]; rfl
/-! Scale and Sum of the reference -/
/-! Combine of the reference -/
theorem all_map_isB {n : Nat} {f : Nat → Int} (h : ∀ i, i < n → isB (f i) = true) : ∀ x ∈ (List.range n).map f, isB x = true := by
 intro x hx
 obtain ⟨i, hi, rfl⟩ := List.mem_map.1 hx
 exact h i (List.mem_range.1 hi)
theorem ixor_zero {x : Int} (h : isB x = true) : ixor 0 x = x := by
 rw [isB_iff] at h
 unfold ixor
 rw [Int.toNat_zero, Nat.zero_xor]
 omega
/-! parts -/
theorem rowAt_length (D : Nat) (l : List (List Int)) (t : Nat) : (rowAt D l t).length = D := by simp [rowAt]
theorem elAt_isB (D : Nat) (l : List (List Int)) (t i : Nat) : isB (elAt D l t i) = true := by
 unfold elAt
 split
 ·unfold unitAt; split <;> decide
 ·split
  ·unfold setAt; exact isB_nat (by omega)
  ·unfold expAt; exact isB_nat (QGF.xtp_lt (by decide) _)
theorem rowAt_isB (D : Nat) (l : List (List Int)) (t : Nat) : (rowAt D l t).all isB = true := by
 rw [List.all_eq_true]
 exact all_map_isB (fun i _ => elAt_isB D l t i)
/-! the same lists -/
/-! the law -/
set_option linter.unusedSimpArgs false
theorem isB_ex {a : Int} (h : isB a = true) : ∃ m : Nat, a = (m : Int) ∧ m < 256 := by
  rw [isB_iff] at h
  exact ⟨a.toNat, by omega, by omega⟩
theorem ixor_comm (a b : Int) : ixor a b = ixor b a := by unfold ixor; rw [Nat.xor_comm]
theorem ixor_assoc (a b c : Int) : ixor (ixor a b) c = ixor a (ixor b c) := by unfold ixor; rw [Int.toNat_natCast, Int.toNat_natCast, Nat.xor_assoc]
theorem ixor_self (a : Int) : ixor a a = 0 := by unfold ixor; rw [Nat.xor_self]; rfl
theorem ixor_zero_right {a : Int} (h : isB a = true) : ixor a 0 = a := by rw [ixor_comm]; exact ixor_zero h
theorem ixor_four (a b c d : Int) : ixor (ixor a b) (ixor c d) = ixor (ixor a c) (ixor b d) := by
  rw [ixor_assoc, ixor_assoc, ← ixor_assoc b c d, ixor_comm b c, ixor_assoc c b d]
theorem imul_zero_right (a : Int) : imul a 0 = 0 := by unfold imul; rw [Int.toNat_zero, QGF.mul_zero]; rfl
theorem imul_zero_left {a : Int} (h : isB a = true) : imul 0 a = 0 := by
  obtain ⟨m, rfl, hm⟩ := isB_ex h
  unfold imul; rw [Int.toNat_zero, Int.toNat_natCast, QGF.zero_mul hm]; rfl
theorem imul_one_left {a : Int} (h : isB a = true) : imul 1 a = a := by
  obtain ⟨m, rfl, hm⟩ := isB_ex h
  show ((QGF.mulN 1 m : Nat) : Int) = _
  rw [QGF.one_mul hm]
theorem imul_comm {a b : Int} (ha : isB a = true) (hb : isB b = true) : imul a b = imul b a := by
  obtain ⟨m, rfl, hm⟩ := isB_ex ha
  obtain ⟨n, rfl, hn⟩ := isB_ex hb
  show ((QGF.mulN m n : Nat) : Int) = ((QGF.mulN n m : Nat) : Int)
  rw [QGF.mul_comm hm hn]
theorem imul_assoc {a b c : Int} (ha : isB a = true) (hb : isB b = true) (hc : isB c = true) : imul (imul a b) c = imul a (imul b c) := by
  obtain ⟨m, rfl, hm⟩ := isB_ex ha
  obtain ⟨n, rfl, hn⟩ := isB_ex hb
  obtain ⟨o, rfl, ho⟩ := isB_ex hc
  show ((QGF.mulN (QGF.mulN m n) o : Nat) : Int) = ((QGF.mulN m (QGF.mulN n o) : Nat) : Int)
  rw [QGF.mul_assoc hm hn ho]
theorem imul_xor (a b c : Int) : imul a (ixor b c) = ixor (imul a b) (imul a c) := by
  show ((QGF.mulN a.toNat (b.toNat ^^^ c.toNat) : Nat) : Int) = ((QGF.mulN a.toNat b.toNat ^^^ QGF.mulN a.toNat c.toNat : Nat) : Int)
  rw [QGF.mul_xor]
theorem xor_imul {a b c : Int} (ha : isB a = true) (hb : isB b = true) (hc : isB c = true) : imul (ixor a b) c = ixor (imul a c) (imul b c) := by
  rw [imul_comm (isB_xor ha hb) hc, imul_xor, imul_comm hc ha, imul_comm hc hb]
theorem imul_eq_zero {a b : Int} (ha : isB a = true) (hb : isB b = true) (h : imul a b = 0) : a = 0 ∨ b = 0 := by
  obtain ⟨m, rfl, hm⟩ := isB_ex ha
  obtain ⟨n, rfl, hn⟩ := isB_ex hb
  have h : ((QGF.mulN m n : Nat) : Int) = 0 := h
  rcases QGF.mul_eq_zero hm hn (by omega) with e | e
  · exact .inl (by omega)
  · exact .inr (by omega)
theorem imul_inv {a : Int} (ha : isB a = true) (h0 : a ≠ 0) : imul (iinv a) a = 1 := by
  obtain ⟨m, rfl, hm⟩ := isB_ex ha
  show ((QGF.mulN (QGF.invN m) m : Nat) : Int) = 1
  rw [QGF.mul_comm QGF.inv_lt hm, QGF.mul_inv hm (by omega)]
  rfl
/-! rows and vectors -/
abbrev Vec := Nat → Int
def IsV (x : Vec) : Prop := ∀ i, isB (x i) = true
def dotU (r : List Int) (x : Vec) : Nat → Int
  | 0 => 0
  | i + 1 => ixor (dotU r x i) (imul (rd r (i : Int)) (x i))
def RowB (w : Nat) (r : List Int) : Prop := r.all isB = true ∧ r.length = w
theorem RowB.at {w : Nat} {r : List Int} (h : RowB w r) {i : Nat} (hi : i < w) : isB (rd r (i : Int)) = true := isB_rd h.1 i (by rw [h.2]; exact hi)
theorem dotU_isB {w : Nat} {r : List Int} {x : Vec} (hr : RowB w r) : ∀ i, i ≤ w → isB (dotU r x i) = true
  | 0, _ => rfl
  | i + 1, h => isB_xor (dotU_isB hr i (by omega)) (isB_mul _ (hr.at (by omega)))
theorem dotU_congr {r : List Int} {x y : Vec} : ∀ i, (∀ j, j < i → x j = y j) → dotU r x i = dotU r y i
  | 0, _ => rfl
  | i + 1, h => by
    show ixor (dotU r x i) _ = ixor (dotU r y i) _
    rw [dotU_congr i (fun j hj => h j (by omega)), h i (Nat.lt_succ_self i)]
theorem dotU_sub {w : Nat} {f : Int} {x r : List Int} {v : Vec} (hf : isB f = true) (hr : RowB w r) (hx : RowB w x) (hv : IsV v) : ∀ i, i ≤ w → dotU (subRow f x r) v i = ixor (dotU r v i) (imul f (dotU x v i))
  | 0, _ => by show (0 : Int) = ixor 0 (imul f 0); rw [imul_zero_right]; rfl
  | i + 1, h => by
    have e : rd (subRow f x r) (i : Int) = ixor (rd r (i : Int)) (imul f (rd x (i : Int))) := by
      have hl : i < (subRow f x r).length := by rw [subRow_length, hr.2]; omega
      rw [rdi hl]
      simp [subRow]
    show ixor (dotU (subRow f x r) v i) (imul (rd (subRow f x r) (i : Int)) (v i)) = ixor (ixor (dotU r v i) (imul (rd r (i : Int)) (v i))) (imul f (ixor (dotU x v i) (imul (rd x (i : Int)) (v i))))
    rw [dotU_sub hf hr hx hv i (by omega), e, xor_imul (hr.at (by omega)) (isB_mul _ hf) (hv i), imul_xor, imul_assoc hf (hx.at (by omega)) (hv i), ixor_four]
theorem dotU_mul {w : Nat} {c : Int} {r : List Int} {v : Vec} (hc : isB c = true) (hr : RowB w r) (hv : IsV v) : ∀ i, i ≤ w → dotU (mulRow c r) v i = imul c (dotU r v i)
  | 0, _ => by show (0 : Int) = imul c 0; rw [imul_zero_right]
  | i + 1, h => by
    have e : rd (mulRow c r) (i : Int) = imul c (rd r (i : Int)) := by
      have hl : i < (mulRow c r).length := by rw [mulRow_length, hr.2]; omega
      rw [rdi hl]
      simp [mulRow]
    show ixor (dotU (mulRow c r) v i) (imul (rd (mulRow c r) (i : Int)) (v i)) = imul c (ixor (dotU r v i) (imul (rd r (i : Int)) (v i)))
    rw [dotU_mul hc hr hv i (by omega), e, imul_xor, imul_assoc hc (hr.at (by omega)) (hv i)]
theorem dotU_add {w : Nat} {r : List Int} {u v : Vec} (hr : RowB w r) : ∀ i, i ≤ w → dotU r (fun j => ixor (u j) (v j)) i = ixor (dotU r u i) (dotU r v i)
  | 0, _ => (by show (0 : Int) = ixor 0 0; rfl)
  | i + 1, h => by
    show ixor (dotU r _ i) (imul (rd r (i : Int)) (ixor (u i) (v i))) = ixor (ixor (dotU r u i) (imul (rd r (i : Int)) (u i))) (ixor (dotU r v i) (imul (rd r (i : Int)) (v i)))
    rw [dotU_add hr i (by omega), imul_xor, ixor_four]
/-- What leads: all before it is 0. -/
theorem fst_zero (r : List Int) {i : Nat} (h : i < fstIdx r) : rd r (i : Int) = 0 := by
  have hl : i < r.length := Nat.lt_of_lt_of_le h (fstIdx_le r)
  rw [rdi hl]
  have := List.not_of_lt_findIdx h
  simpa using this
theorem fst_ne (r : List Int) (h : fstIdx r < r.length) : rd r ((fstIdx r : Nat) : Int) ≠ 0 := by
  rw [rdi h]
  have := List.findIdx_getElem (w := h) (p := fun x => x != 0) (xs := r)
  intro e
  have h2 : (r[fstIdx r] != 0) = true := this
  rw [e] at h2
  cases h2
theorem fst_of {r : List Int} {p : Nat} (hp : p < r.length) (h0 : ∀ i, i < p → rd r (i : Int) = 0) (h1 : rd r (p : Int) ≠ 0) : fstIdx r = p := by
  rcases Nat.lt_trichotomy (fstIdx r) p with h | h | h
  · exact absurd (h0 _ h) (fst_ne r (by omega))
  · exact h
  · exact absurd (fst_zero r h) h1
theorem dotU_below {w : Nat} {r : List Int} {v : Vec} (hr : RowB w r) (hv : IsV v) {p : Nat} (h0 : ∀ i, i < p → rd r (i : Int) = 0) : ∀ i, i ≤ p → dotU r v i = 0
  | 0, _ => rfl
  | i + 1, h => by
    show ixor (dotU r v i) _ = 0
    rw [dotU_below hr hv h0 i (by omega), h0 i (by omega), imul_zero_left (hv i)]
    rfl
theorem dotU_zeros {r : List Int} {v : Vec} {p : Nat} : ∀ i, p ≤ i → (∀ j, p ≤ j → j < i → v j = 0) → isB (dotU r v p) = true → dotU r v i = dotU r v p
  | 0, h, _, _ => by obtain rfl : p = 0 := by omega
                     rfl
  | i + 1, h, hz, hb => by
    by_cases e : p = i + 1
    · rw [e]
    · have ih := dotU_zeros i (by omega) (fun j h1 h2 => hz j h1 (by omega)) hb
      show ixor (dotU r v i) (imul _ (v i)) = _
      rw [ih, hz i (by omega) (by omega), imul_zero_right, ixor_zero_right hb]
/-- Rows that lead at different places. -/
structure Leads (w : Nat) (S : List (List Int)) : Prop where
  rows : ∀ r ∈ S, RowB w r ∧ fstIdx r < w
  apart : (S.map fstIdx).Nodup
def Ker (w : Nat) (S : List (List Int)) (v : Vec) : Prop := ∀ r ∈ S, dotU r v w = 0
/-- Only 0 is sent to 0 by all rows. -/
def Full (w : Nat) (S : List (List Int)) : Prop := ∀ v, IsV v → Ker w S v → ∀ i, i < w → v i = 0
theorem nodup_sub {α : Type} [DecidableEq α] : ∀ (a l : List α), a.Nodup → (∀ x ∈ a, x ∈ l) → a.length ≤ l.length
  | [], _, _, _ => Nat.zero_le _
  | x :: a, l, hn, hs => by
    have hn := List.nodup_cons.1 hn
    have hx := hs x List.mem_cons_self
    have := nodup_sub a (l.erase x) hn.2 (fun y hy => (List.mem_erase_of_ne (fun (e : y = x) => hn.1 (e ▸ hy))).2 (hs y (List.mem_cons_of_mem _ hy)))
    rw [List.length_erase_of_mem hx] at this
    have hp := List.length_pos_of_mem hx
    simp only [List.length_cons]
    omega
theorem nodup_inj {α β : Type} {f : α → β} : ∀ {S : List α}, (S.map f).Nodup → ∀ a ∈ S, ∀ b ∈ S, f a = f b → a = b
  | [], _, a, ha, _, _, _ => by cases ha
  | x :: S, hn, a, ha, b, hb, e => by
    rw [List.map_cons] at hn
    have hn := List.nodup_cons.1 hn
    rcases List.mem_cons.1 ha with h1 | h1
    · rcases List.mem_cons.1 hb with h2 | h2
      · rw [h1, h2]
      · exact absurd (h1 ▸ e ▸ List.mem_map_of_mem h2) hn.1
    · rcases List.mem_cons.1 hb with h2 | h2
      · exact absurd (h2 ▸ e ▸ List.mem_map_of_mem h1) hn.1
      · exact nodup_inj hn.2 a h1 b h2 e
theorem Leads.all {w : Nat} {S : List (List Int)} (h : Leads w S) (hl : S.length = w) {p : Nat} (hp : p < w) : ∃ r ∈ S, fstIdx r = p := by
  by_cases hm : p ∈ S.map fstIdx
  · obtain ⟨r, hr, e⟩ := List.mem_map.1 hm
    exact ⟨r, hr, e⟩
  · have := nodup_sub (p :: S.map fstIdx) (List.range w) (List.nodup_cons.2 ⟨hm, h.apart⟩) (fun q hq => by
      rcases List.mem_cons.1 hq with rfl | hq
      · exact List.mem_range.2 hp
      · obtain ⟨r, hr, rfl⟩ := List.mem_map.1 hq
        exact List.mem_range.2 (h.rows r hr).2)
    simp [hl] at this
    omega
theorem Leads.missing {w : Nat} {S : List (List Int)} (h : Leads w S) (hl : S.length < w) : ∃ p, p < w ∧ ∀ r ∈ S, fstIdx r ≠ p := by
  by_cases hc : ∃ p, p < w ∧ p ∉ S.map fstIdx
  · obtain ⟨p, hp, hn⟩ := hc
    exact ⟨p, hp, fun r hr e => hn (List.mem_map.2 ⟨r, hr, e⟩)⟩
  · have := nodup_sub (List.range w) (S.map fstIdx) List.nodup_range (fun p hp => by
      by_cases h3 : p ∈ S.map fstIdx
      · exact h3
      · exact absurd ⟨p, List.mem_range.1 hp, h3⟩ hc)
    simp at this
    omega
theorem Leads.full {w : Nat} {S : List (List Int)} (h : Leads w S) (hl : S.length = w) : Full w S := by
  intro v hv hk
  have key : ∀ n, n ≤ w → ∀ i, w - n ≤ i → i < w → v i = 0 := by
    intro n
    induction n with
    | zero => intro _ i h1 h2; omega
    | succ n ih =>
      intro hn i h1 h2
      by_cases e : i = w - (n + 1)
      · obtain ⟨r, hr, he⟩ := h.all hl h2
        obtain ⟨hb, hf⟩ := h.rows r hr
        have h3 := hk r hr
        have h4 := dotU_zeros (r := r) (v := v) (p := i + 1) w (by omega) (fun j h5 h6 => ih (by omega) j (by omega) h6) (dotU_isB hb (i + 1) (by omega))
        rw [h3] at h4
        have h5 : dotU r v (i + 1) = ixor (dotU r v i) (imul (rd r (i : Int)) (v i)) := rfl
        rw [dotU_below hb hv (p := i) (fun j hj => fst_zero r (by omega)) i (Nat.le_refl _), ixor_zero (isB_mul _ (hb.at h2)), ← h4] at h5
        rcases imul_eq_zero (hb.at h2) (hv i) h5.symm with h6 | h6
        · exact absurd h6 (by have := fst_ne r (by rw [hb.2]; omega); rw [he] at this; exact this)
        · exact h6
      · exact ih (by omega) i (by omega) h2
  exact fun i hi => key w (Nat.le_refl _) i (by omega) hi
/-- What is sent to 0 by rows that leave a place free. -/
theorem Leads.free {w : Nat} {S : List (List Int)} (h : Leads w S) {p : Nat} (hp : p < w) (hfree : ∀ r ∈ S, fstIdx r ≠ p) : ∃ v, IsV v ∧ Ker w S v ∧ v p = 1 := by
  -- from the last place down: the places from w - n on are told so that all rows that lead there are met
  have key : ∀ n, n ≤ w → ∃ v : Vec, IsV v ∧ (∀ r ∈ S, w - n ≤ fstIdx r → dotU r v w = 0) ∧ (w - n ≤ p → v p = 1) ∧ (∀ i, i < w - n → v i = 0) := by
    intro n
    induction n with
    | zero => exact fun _ => ⟨fun _ => 0, fun _ => rfl, fun r hr h1 => by have := (h.rows r hr).2; omega, fun h1 => by omega, fun _ _ => rfl⟩
    | succ n ih =>
      intro hn
      obtain ⟨v, hv, hk, h1, h0⟩ := ih (by omega)
      obtain ⟨q, hq⟩ : ∃ q, q = w - (n + 1) := ⟨_, rfl⟩
      have hqw : q < w := by omega
      -- the value at q
      have main : ∃ c : Int, isB c = true ∧ (q = p → c = 1) ∧ ∀ r ∈ S, fstIdx r = q → ixor (dotU r v w) (imul (rd r (q : Int)) c) = 0 := by
        by_cases e : q = p
        · exact ⟨1, rfl, fun _ => rfl, fun r hr he => absurd (he.trans e) (hfree r hr)⟩
        · by_cases hx : ∃ r ∈ S, fstIdx r = q
          · obtain ⟨r, hr, he⟩ := hx
            obtain ⟨hb, hf⟩ := h.rows r hr
            have hbq := hb.at hqw
            have hne : rd r (q : Int) ≠ 0 := by have := fst_ne r (by rw [hb.2]; omega); rwa [he] at this
            have hd := dotU_isB (x := v) hb w (Nat.le_refl _)
            refine ⟨imul (iinv (rd r (q : Int))) (dotU r v w), isB_mul _ (isB_inv _), fun h => absurd h e, fun r' hr' he' => ?_⟩
            have : r' = r := nodup_inj h.apart r' hr' r hr (he'.trans he.symm)
            subst this
            rw [← imul_assoc hbq (isB_inv _) hd, imul_comm hbq (isB_inv _), imul_inv hbq hne, imul_one_left hd, ixor_self]
          · exact ⟨0, rfl, fun h => absurd h e, fun r hr he => absurd ⟨r, hr, he⟩ hx⟩
      obtain ⟨c, hc, hcp, hcr⟩ := main
      have hadd : ∀ r ∈ S, q ≤ fstIdx r ∨ True → dotU r (fun i => if i = q then c else v i) w = ixor (dotU r v w) (imul (rd r (q : Int)) c) := by
        intro r hr _
        obtain ⟨hb, _⟩ := h.rows r hr
        have he : dotU r (fun i => if i = q then c else v i) w = dotU r (fun i => ixor (v i) (if i = q then c else 0)) w := dotU_congr w (fun j hj => by
          by_cases e : j = q
          · subst e; rw [if_pos rfl, if_pos rfl, h0 j (by omega), ixor_zero hc]
          · rw [if_neg e, if_neg e, ixor_zero_right (hv j)])
        rw [he, dotU_add hb w (Nat.le_refl _)]
        congr 1
        have hone : ∀ i, i ≤ w → dotU r (fun i => if i = q then c else 0) i = if q < i then imul (rd r (q : Int)) c else 0 := by
          intro i
          induction i with
          | zero => intro _; rw [if_neg (by omega)]; rfl
          | succ i ih2 =>
            intro hi
            show ixor (dotU r _ i) (imul (rd r (i : Int)) (if i = q then c else 0)) = _
            rw [ih2 (by omega)]
            by_cases e : i = q
            · subst e
              rw [if_neg (by omega), if_pos rfl, if_pos (by omega), ixor_zero (isB_mul _ (hb.at (by omega)))]
            · rw [if_neg e, imul_zero_right]
              by_cases e2 : q < i
              · rw [if_pos e2, if_pos (by omega), ixor_zero_right (isB_mul _ (hb.at hqw))]
              · rw [if_neg e2, if_neg (by omega)]; rfl
        rw [hone w (Nat.le_refl _), if_pos hqw]
      refine ⟨fun i => if i = q then c else v i, fun i => ?_, fun r hr hle => ?_, fun hle => ?_, fun i hi => ?_⟩
      · by_cases e : i = q
        · simp only [e, if_true]; exact hc
        · simp only [e, if_false]; exact hv i
      · rw [hadd r hr (.inr trivial)]
        by_cases e : fstIdx r = q
        · exact hcr r hr e
        · have hz : rd r (q : Int) = 0 := fst_zero r (by omega)
          rw [hk r hr (by omega), hz, imul_zero_left hc]
          rfl
      · by_cases e : p = q
        · simp only [e, if_true]; exact hcp e.symm
        · simp only [e, if_false]; exact h1 (by omega)
      · have e : i ≠ q := by omega
        simp only [e, if_false]; exact h0 i (by omega)
  obtain ⟨v, hv, hk, h1, _⟩ := key w (Nat.le_refl _)
  exact ⟨v, hv, fun r hr => hk r hr (by omega), h1 (by omega)⟩
theorem Full.mono {w : Nat} {S T : List (List Int)} (h : Full w S) (hs : ∀ v, IsV v → Ker w T v → Ker w S v) : Full w T := fun v hv hk => h v hv (hs v hv hk)
end Go.Proofs.YtkadfidmfnpohaaDoor.XB
