/- Lemmas for the claim Dist: functions of the program as plain Lean functions, each with its contract, and what is proved of them. -/
import Derived.Test.YtkadfidmfnpohaaDoorQDist1
namespace Go.Proofs.YtkadfidmfnpohaaDoor.XB
open Go.RowKit Go.Proofs.YtkadfidmfnpohaaDoorW.PrintWords Go.Proofs.YtkadfidmfnpohaaDoorW.PrintLast Go.Proofs.YtkadfidmfnpohaaDoorW.PrintMore
set_option linter.unusedVariables false
set_option linter.unusedSimpArgs false

/-! ### gf_times: function 102 -/
def gf_times.l0 : Nat → Int → Int → Int → Int → Option (Int)
 | 0, _, _, _, _ => none
 | k + 1, x0, x1, x5, x7 => if x7 < 4 then (if 0 ≤ x7 then (if (Go.bits .and .u64 (shr .u64 x1 x7) 1) = 1 then (gf_times.l0 k x0 x1 (Go.bits .xor .u64 x5 (shl .u64 (IntKind.u64.wrap (x0)) x7)) (wrap64 (x7 + 1))) else (gf_times.l0 k x0 x1 x5 (wrap64 (x7 + 1)))) else (none)) else ((gf_reduce.f x5).bind fun t249 => (some t249))
def gf_times.f (k : Nat) (a0 : Int) (a1 : Int) : Option (Int) := gf_times.l0 k a0 a1 0 0
set_option maxHeartbeats 8000000 in
set_option maxRecDepth 100000 in
theorem gf_times.calls (k : Nat) (a0 : Int) (a1 : Int) (r : Int) (w : World) (hG : HG w) (h : gf_times.f k a0 a1 = some r) :
  Calls Tryd.prog 102 #[.int .u8 a0, .int .u64 a1] w fun e w' => e = .returned (.int .u8 r) ∧ Drawn0 w w' := by
 have HGw := Aside0.mk hG
 clear hG
 have H : (gf_times.l0 k a0 a1 0 0) = some r := h
 clear h
 have H' := Aside0.mk H
 clear H
 go_enter Tryd.func102, Tryd.ntmps102
 go_wp2
 go_loopg [5, 7] k (fun kq v5 v7 w' => ∃ (x5_1 : Int) (x7_1 : Int), v5 = .int .u64 x5_1 ∧ v7 = .int .i64 x7_1 ∧ Aside0 (gf_times.l0 kq a0 a1 x5_1 x7_1 = some r) ∧ Aside0 (kq ≤ k) ∧ Drawn0 w w')
 case atStart => exact ⟨(0), (0), (by first | rfl | (simp; done) | (simp [*]; done)), (by first | rfl | (simp; done) | (simp [*]; done)), H', ⟨Nat.le_refl _⟩, by repeat (first | exact Drawn0.refl _ | apply Drawn0.step)⟩
 case round =>
  clear H'
  try clear c1
  try clear p2
  obtain ⟨x5_1, x7_1, rfl, rfl, HA, HK1, ⟨m1, rfl⟩⟩ := hrel
  cases gk with
  | zero => exact absurd HA.out (by simp [gf_times.l0])
  | succ k1 =>
   have H := HA.out
   clear HA
   simp only [gf_times.l0] at H
   by_cases c3 : x7_1 < 4
   ·rw [if_pos c3] at H
    have c3b0 : decide (x7_1 < 4) = true := decide_eq_true c3
    clear c3
    by_cases c4 : 0 ≤ x7_1
    ·rw [if_pos c4] at H
     have c4b0 := eq_true c4
     have c4b1 : decide (0 ≤ x7_1) = true := decide_eq_true c4
     clear c4
     obtain ⟨ji5, hji5⟩ : ∃ j_ : Int, (shr .u64 a1 x7_1) = j_ := ⟨_, rfl⟩
     replace H : (if (Go.bits .and .u64 (ji5) 1) = 1 then (gf_times.l0 k1 a0 a1 (Go.bits .xor .u64 x5_1 (shl .u64 (IntKind.u64.wrap (a0)) x7_1)) (wrap64 (x7_1 + 1))) else (gf_times.l0 k1 a0 a1 x5_1 (wrap64 (x7_1 + 1)))) = some r := by first | (rw [hji5] at H; exact H) | (simp only [hji5] at H ⊢; exact H)
     have hji5_ : (a1 / 2 ^ min x7_1.toNat 64) = ji5 := hji5
     have hji5z : x7_1 ≤ 64 → (a1 / 2 ^ x7_1.toNat) = ji5 := shr_small hji5
     by_cases c6 : (Go.bits .and .u64 (ji5) 1) = 1
     ·rw [if_pos c6] at H
      have c6b0 : ((Go.bits .and .u64 (ji5) 1) == 1) = true := beq_iff_eq.mpr c6
      have c6b1 : ((Go.bits .and .u64 (ji5) 1) != 1) = false := bne_eq_false_iff_eq.mpr c6
      clear c6
      have c7b0 := eq_true (of_decide_eq_true (by first | (with_reducible assumption) | assumption) : 0 ≤ x7_1)
      obtain ⟨ji8, hji8⟩ : ∃ j_ : Int, (shl .u64 (IntKind.u64.wrap (a0)) x7_1) = j_ := ⟨_, rfl⟩
      replace H : (gf_times.l0 k1 a0 a1 (Go.bits .xor .u64 x5_1 (ji8)) (wrap64 (x7_1 + 1))) = some r := by first | (rw [hji8] at H; exact H) | (simp only [hji8] at H ⊢; exact H)
      have hji8_ : (IntKind.u64.wrap ((IntKind.u64.wrap (a0)) * 2 ^ min x7_1.toNat 64)) = ji8 := hji8
      have hji8z : x7_1 ≤ 64 → (IntKind.u64.wrap ((IntKind.u64.wrap (a0)) * 2 ^ x7_1.toNat)) = ji8 := shl_small hji8
      have H' := Aside0.mk H
      clear H
      go_wp2
      go_roundg k1
      case measure => have := HK1.out; omega
      case rel => exact ⟨(Go.bits .xor .u64 x5_1 (ji8)), (wrap64 (x7_1 + 1)), (by first | rfl | (simp; done) | (simp only [← hji8] <;> (first | rfl | simp)) | (simp [*]; done)), (by first | rfl | (simp; done) | (simp [*]; done)), H', ⟨by have := HK1.out; omega⟩, by repeat (first | exact Drawn0.refl _ | apply Drawn0.step)⟩
     ·rw [if_neg c6] at H
      have c6b0 : ((Go.bits .and .u64 (ji5) 1) == 1) = false := beq_eq_false_iff_ne.mpr c6
      have c6b1 : ((Go.bits .and .u64 (ji5) 1) != 1) = true := bne_iff_ne.mpr c6
      have H' := Aside0.mk H
      clear H
      go_wp2
      go_roundg k1
      case measure => have := HK1.out; omega
      case rel => exact ⟨(x5_1), (wrap64 (x7_1 + 1)), (by first | rfl | (simp; done) | (simp [*]; done)), (by first | rfl | (simp; done) | (simp [*]; done)), H', ⟨by have := HK1.out; omega⟩, by repeat (first | exact Drawn0.refl _ | apply Drawn0.step)⟩
    ·rw [if_neg c4] at H
     exact absurd H (by simp)
   ·rw [if_neg c3] at H
    have c3b0 : decide (x7_1 < 4) = false := decide_eq_false c3
    clear c3
    replace H := Option.bind_eq_some_iff.mp H
    obtain ⟨t249, A90, H⟩ := H
    replace H : (some t249) = some r := H
    have A9 := Aside0.mk A90
    clear A90
    obtain rfl := Option.some.inj H
    go_wp2_with (first | ((with_reducible refine gate_callee (f := 101) rfl ?_); refine goesL_ (some 23) rfl rfl Tryd.func101 (by kernel_rfl) rfl #[.int .u64 x5_1] rfl (by (try simp only [List.map_toArray, List.map_cons, List.map_nil]); first | done | rfl | (simp only [List.length_drop, List.length_take]; rfl)) ?_; (with_reducible refine (gf_reduce.calls x5_1 t249 _ ?side1 A9.out).mono ?_); (case side1 => first | exact HGw.out | (repeat (first | exact HGw.out | apply HG.drewN | apply HG.drew))); rintro e w' ⟨rfl, ⟨nd, rfl⟩⟩; refine ⟨_, rfl, ?_⟩))
    go_ret
    exact ⟨by first | rfl | (simp; done) | (simp [*]; done), by repeat (first | exact Drawn0.refl _ | apply Drawn0.step)⟩


/-! ### gf_Mul: function 87 -/
def gf_Mul.f (k : Nat) (a0 : Int) (a1 : Int) : Option (Int) := (gf_times.f k a0 (IntKind.u64.wrap (a1 / 16))).bind fun t250 => ((gf_reduce.f (IntKind.u64.wrap ((IntKind.u64.wrap (t250)) * 16))).bind fun t251 => ((gf_times.f k a0 (IntKind.u64.wrap (Go.bits .and .u8 a1 15))).bind fun t252 => (some (Go.bits .xor .u8 t251 t252))))
set_option maxHeartbeats 8000000 in
set_option maxRecDepth 100000 in
theorem gf_Mul.calls (k : Nat) (a0 : Int) (a1 : Int) (r : Int) (w : World) (hG : HG w) (h : gf_Mul.f k a0 a1 = some r) :
  Calls Tryd.prog 87 #[.int .u8 a0, .int .u8 a1] w fun e w' => e = .returned (.int .u8 r) ∧ Drawn0 w w' := by
 have HGw := Aside0.mk hG
 clear hG
 have H : ((gf_times.f k a0 (IntKind.u64.wrap (a1 / 16))).bind fun t250 => ((gf_reduce.f (IntKind.u64.wrap ((IntKind.u64.wrap (t250)) * 16))).bind fun t251 => ((gf_times.f k a0 (IntKind.u64.wrap (Go.bits .and .u8 a1 15))).bind fun t252 => (some (Go.bits .xor .u8 t251 t252))))) = some r := h
 clear h
 replace H := Option.bind_eq_some_iff.mp H
 obtain ⟨t250, A30, H⟩ := H
 replace H : ((gf_reduce.f (IntKind.u64.wrap ((IntKind.u64.wrap (t250)) * 16))).bind fun t251 => ((gf_times.f k a0 (IntKind.u64.wrap (Go.bits .and .u8 a1 15))).bind fun t252 => (some (Go.bits .xor .u8 t251 t252)))) = some r := H
 have A3 := Aside0.mk A30
 clear A30
 replace H := Option.bind_eq_some_iff.mp H
 obtain ⟨t251, A40, H⟩ := H
 replace H : ((gf_times.f k a0 (IntKind.u64.wrap (Go.bits .and .u8 a1 15))).bind fun t252 => (some (Go.bits .xor .u8 t251 t252))) = some r := H
 have A4 := Aside0.mk A40
 clear A40
 replace H := Option.bind_eq_some_iff.mp H
 obtain ⟨t252, A50, H⟩ := H
 replace H : (some (Go.bits .xor .u8 t251 t252)) = some r := H
 have A5 := Aside0.mk A50
 clear A50
 obtain rfl := Option.some.inj H
 go_enter Tryd.func87, Tryd.ntmps87
 go_wp2_with (first | ((with_reducible refine gate_callee (f := 102) rfl ?_); refine goesL_ (some 9) rfl rfl Tryd.func102 (by kernel_rfl) rfl #[.int .u8 a0, .int .u64 (IntKind.u64.wrap (a1 / 16))] rfl (by (try simp only [List.map_toArray, List.map_cons, List.map_nil]); first | done | rfl | (simp only [List.length_drop, List.length_take]; rfl)) ?_; (with_reducible refine (gf_times.calls k a0 (IntKind.u64.wrap (a1 / 16)) t250 _ ?side1 A3.out).mono ?_); (case side1 => first | exact HGw.out | (repeat (first | exact HGw.out | apply HG.drewN | apply HG.drew))); rintro e w' ⟨rfl, ⟨nd, rfl⟩⟩; refine ⟨_, rfl, ?_⟩) | ((with_reducible refine gate_callee (f := 101) rfl ?_); refine goesL_ (some 12) rfl rfl Tryd.func101 (by kernel_rfl) rfl #[.int .u64 (IntKind.u64.wrap ((IntKind.u64.wrap (t250)) * 16))] rfl (by (try simp only [List.map_toArray, List.map_cons, List.map_nil]); first | done | rfl | (simp only [List.length_drop, List.length_take]; rfl)) ?_; (with_reducible refine (gf_reduce.calls (IntKind.u64.wrap ((IntKind.u64.wrap (t250)) * 16)) t251 _ ?side1 A4.out).mono ?_); (case side1 => first | exact HGw.out | (repeat (first | exact HGw.out | apply HG.drewN | apply HG.drew))); rintro e w' ⟨rfl, ⟨nd, rfl⟩⟩; refine ⟨_, rfl, ?_⟩) | ((with_reducible refine gate_callee (f := 102) rfl ?_); refine goesL_ (some 17) rfl rfl Tryd.func102 (by kernel_rfl) rfl #[.int .u8 a0, .int .u64 (IntKind.u64.wrap (Go.bits .and .u8 a1 15))] rfl (by (try simp only [List.map_toArray, List.map_cons, List.map_nil]); first | done | rfl | (simp only [List.length_drop, List.length_take]; rfl)) ?_; (with_reducible refine (gf_times.calls k a0 (IntKind.u64.wrap (Go.bits .and .u8 a1 15)) t252 _ ?side1 A5.out).mono ?_); (case side1 => first | exact HGw.out | (repeat (first | exact HGw.out | apply HG.drewN | apply HG.drew))); rintro e w' ⟨rfl, ⟨nd, rfl⟩⟩; refine ⟨_, rfl, ?_⟩))
 go_ret
 exact ⟨by first | rfl | (simp; done) | (simp [*]; done), by repeat (first | exact Drawn0.refl _ | apply Drawn0.step)⟩


/-! ### gf_power: function 84 -/
def gf_power.l0 : Nat → Int → Int → Int → Option (Int)
 | 0, _, _, _ => none
 | k + 1, x0, x1, x5 => if x1 > 0 then (if (Go.bits .and .i64 x1 1) = 1 then ((gf_Mul.f k x5 x0).bind fun t253 => ((gf_Mul.f k x0 x0).bind fun t254 => (gf_power.l0 k t254 (x1 / 2) t253))) else ((gf_Mul.f k x0 x0).bind fun t255 => (gf_power.l0 k t255 (x1 / 2) x5))) else (some x5)
def gf_power.f (k : Nat) (a0 : Int) (a1 : Int) : Option (Int) := gf_power.l0 k a0 a1 1
set_option maxHeartbeats 8000000 in
set_option maxRecDepth 100000 in
theorem gf_power.calls (k : Nat) (a0 : Int) (a1 : Int) (r : Int) (w : World) (hG : HG w) (h : gf_power.f k a0 a1 = some r) :
  Calls Tryd.prog 84 #[.int .u8 a0, .int .i64 a1] w fun e w' => e = .returned (.int .u8 r) ∧ Drawn0 w w' := by
 have HGw := Aside0.mk hG
 clear hG
 have H : (gf_power.l0 k a0 a1 1) = some r := h
 clear h
 have H' := Aside0.mk H
 clear H
 go_enter Tryd.func84, Tryd.ntmps84
 go_wp2
 go_loopg [0, 1, 5] k (fun kq v0 v1 v5 w' => ∃ (x0_1 : Int) (x1_1 : Int) (x5_1 : Int), v0 = .int .u8 x0_1 ∧ v1 = .int .i64 x1_1 ∧ v5 = .int .u8 x5_1 ∧ Aside0 (gf_power.l0 kq x0_1 x1_1 x5_1 = some r) ∧ Aside0 (kq ≤ k) ∧ Drawn0 w w')
 case atStart => exact ⟨(a0), (a1), (1), (by first | rfl | (simp; done) | (simp [*]; done)), (by first | rfl | (simp; done) | (simp [*]; done)), (by first | rfl | (simp; done) | (simp [*]; done)), H', ⟨Nat.le_refl _⟩, by repeat (first | exact Drawn0.refl _ | apply Drawn0.step)⟩
 case round =>
  clear H'
  try clear p2
  obtain ⟨x0_1, x1_1, x5_1, rfl, rfl, rfl, HA, HK1, ⟨m1, rfl⟩⟩ := hrel
  cases gk with
  | zero => exact absurd HA.out (by simp [gf_power.l0])
  | succ k1 =>
   have H := HA.out
   clear HA
   simp only [gf_power.l0] at H
   by_cases c3 : x1_1 > 0
   ·rw [if_pos c3] at H
    have c3b0 : decide (0 < x1_1) = true := decide_eq_true c3
    clear c3
    by_cases c4 : (Go.bits .and .i64 x1_1 1) = 1
    ·rw [if_pos c4] at H
     have c4b0 : ((Go.bits .and .i64 x1_1 1) == 1) = true := beq_iff_eq.mpr c4
     have c4b1 : ((Go.bits .and .i64 x1_1 1) != 1) = false := bne_eq_false_iff_eq.mpr c4
     clear c4
     replace H := Option.bind_eq_some_iff.mp H
     obtain ⟨t253, A50, H⟩ := H
     replace H : ((gf_Mul.f k1 x0_1 x0_1).bind fun t254 => (gf_power.l0 k1 t254 (x1_1 / 2) t253)) = some r := H
     have A5 := Aside0.mk A50
     clear A50
     replace H := Option.bind_eq_some_iff.mp H
     obtain ⟨t254, A60, H⟩ := H
     replace H : (gf_power.l0 k1 t254 (x1_1 / 2) t253) = some r := H
     have A6 := Aside0.mk A60
     clear A60
     have H' := Aside0.mk H
     clear H
     go_wp2_with (first | ((with_reducible refine gate_callee (f := 87) rfl ?_); refine goesL_ (some 15) rfl rfl Tryd.func87 (by kernel_rfl) rfl #[.int .u8 x5_1, .int .u8 x0_1] rfl (by (try simp only [List.map_toArray, List.map_cons, List.map_nil]); first | done | rfl | (simp only [List.length_drop, List.length_take]; rfl)) ?_; (with_reducible refine (gf_Mul.calls k1 x5_1 x0_1 t253 _ ?side1 A5.out).mono ?_); (case side1 => first | exact HGw.out | (repeat (first | exact HGw.out | apply HG.drewN | apply HG.drew))); rintro e w' ⟨rfl, ⟨nd, rfl⟩⟩; refine ⟨_, rfl, ?_⟩) | ((with_reducible refine gate_callee (f := 87) rfl ?_); refine goesL_ (some 18) rfl rfl Tryd.func87 (by kernel_rfl) rfl #[.int .u8 x0_1, .int .u8 x0_1] rfl (by (try simp only [List.map_toArray, List.map_cons, List.map_nil]); first | done | rfl | (simp only [List.length_drop, List.length_take]; rfl)) ?_; (with_reducible refine (gf_Mul.calls k1 x0_1 x0_1 t254 _ ?side1 A6.out).mono ?_); (case side1 => first | exact HGw.out | (repeat (first | exact HGw.out | apply HG.drewN | apply HG.drew))); rintro e w' ⟨rfl, ⟨nd, rfl⟩⟩; refine ⟨_, rfl, ?_⟩))
     go_roundg k1
     case measure => have := HK1.out; omega
     case rel => exact ⟨(t254), (x1_1 / 2), (t253), (by first | rfl | (simp; done) | (simp [*]; done)), (by first | rfl | (simp; done) | (simp [*]; done)), (by first | rfl | (simp; done) | (simp [*]; done)), H', ⟨by have := HK1.out; omega⟩, by repeat (first | exact Drawn0.refl _ | apply Drawn0.step)⟩
    ·rw [if_neg c4] at H
     have c4b0 : ((Go.bits .and .i64 x1_1 1) == 1) = false := beq_eq_false_iff_ne.mpr c4
     have c4b1 : ((Go.bits .and .i64 x1_1 1) != 1) = true := bne_iff_ne.mpr c4
     replace H := Option.bind_eq_some_iff.mp H
     obtain ⟨t255, A70, H⟩ := H
     replace H : (gf_power.l0 k1 t255 (x1_1 / 2) x5_1) = some r := H
     have A7 := Aside0.mk A70
     clear A70
     have H' := Aside0.mk H
     clear H
     go_wp2_with (first | ((with_reducible refine gate_callee (f := 87) rfl ?_); refine goesL_ (some 18) rfl rfl Tryd.func87 (by kernel_rfl) rfl #[.int .u8 x0_1, .int .u8 x0_1] rfl (by (try simp only [List.map_toArray, List.map_cons, List.map_nil]); first | done | rfl | (simp only [List.length_drop, List.length_take]; rfl)) ?_; (with_reducible refine (gf_Mul.calls k1 x0_1 x0_1 t255 _ ?side1 A7.out).mono ?_); (case side1 => first | exact HGw.out | (repeat (first | exact HGw.out | apply HG.drewN | apply HG.drew))); rintro e w' ⟨rfl, ⟨nd, rfl⟩⟩; refine ⟨_, rfl, ?_⟩))
     go_roundg k1
     case measure => have := HK1.out; omega
     case rel => exact ⟨(t255), (x1_1 / 2), (x5_1), (by first | rfl | (simp; done) | (simp [*]; done)), (by first | rfl | (simp; done) | (simp [*]; done)), (by first | rfl | (simp; done) | (simp [*]; done)), H', ⟨by have := HK1.out; omega⟩, by repeat (first | exact Drawn0.refl _ | apply Drawn0.step)⟩
   ·rw [if_neg c3] at H
    have c3b0 : decide (0 < x1_1) = false := decide_eq_false c3
    clear c3
    obtain rfl := Option.some.inj H
    go_wp2
    go_ret
    exact ⟨by first | rfl | (simp; done) | (simp [*]; done), by repeat (first | exact Drawn0.refl _ | apply Drawn0.step)⟩


/-! ### gf_modulo: function 85 -/
def gf_modulo.f (a0 : Int) : Option (Int) := if (Int.tmod a0 255) < 0 then (some (wrap64 ((Int.tmod a0 255) + 255))) else (some (Int.tmod a0 255))
set_option maxHeartbeats 8000000 in
set_option maxRecDepth 100000 in
theorem gf_modulo.calls (a0 : Int) (r : Int) (w : World) (hG : HG w) (h : gf_modulo.f a0 = some r) :
  Calls Tryd.prog 85 #[.int .i64 a0] w fun e w' => e = .returned (.int .i64 r) ∧ Drawn0 w w' := by
 have HGw := Aside0.mk hG
 clear hG
 have H : (if (Int.tmod a0 255) < 0 then (some (wrap64 ((Int.tmod a0 255) + 255))) else (some (Int.tmod a0 255))) = some r := h
 clear h
 by_cases c2 : (Int.tmod a0 255) < 0
 ·rw [if_pos c2] at H
  have c2b0 : decide ((Int.tmod a0 255) < 0) = true := decide_eq_true c2
  clear c2
  obtain rfl := Option.some.inj H
  go_enter Tryd.func85, Tryd.ntmps85
  go_wp2
  go_ret
  exact ⟨by first | rfl | (simp; done) | (simp [*]; done), by repeat (first | exact Drawn0.refl _ | apply Drawn0.step)⟩
 ·rw [if_neg c2] at H
  have c2b0 : decide ((Int.tmod a0 255) < 0) = false := decide_eq_false c2
  clear c2
  obtain rfl := Option.some.inj H
  go_enter Tryd.func85, Tryd.ntmps85
  go_wp2
  go_ret
  exact ⟨by first | rfl | (simp; done) | (simp [*]; done), by repeat (first | exact Drawn0.refl _ | apply Drawn0.step)⟩


/-! ### gf_Exp: function 62 -/
def gf_Exp.f (k : Nat) (a0 : Int) : Option (Int) := (gf_modulo.f a0).bind fun t256 => ((gf_power.f k 2 t256).bind fun t257 => (some t257))
set_option maxHeartbeats 8000000 in
set_option maxRecDepth 100000 in
theorem gf_Exp.calls (k : Nat) (a0 : Int) (r : Int) (w : World) (hG : HG w) (h : gf_Exp.f k a0 = some r) :
  Calls Tryd.prog 62 #[.int .i64 a0] w fun e w' => e = .returned (.int .u8 r) ∧ Drawn0 w w' := by
 have HGw := Aside0.mk hG
 clear hG
 have H : ((gf_modulo.f a0).bind fun t256 => ((gf_power.f k 2 t256).bind fun t257 => (some t257))) = some r := h
 clear h
 replace H := Option.bind_eq_some_iff.mp H
 obtain ⟨t256, A20, H⟩ := H
 replace H : ((gf_power.f k 2 t256).bind fun t257 => (some t257)) = some r := H
 have A2 := Aside0.mk A20
 clear A20
 replace H := Option.bind_eq_some_iff.mp H
 obtain ⟨t257, A30, H⟩ := H
 replace H : (some t257) = some r := H
 have A3 := Aside0.mk A30
 clear A30
 obtain rfl := Option.some.inj H
 go_enter Tryd.func62, Tryd.ntmps62
 go_wp2_with (first | ((with_reducible refine gate_callee (f := 85) rfl ?_); refine goesL_ (some 4) rfl rfl Tryd.func85 (by kernel_rfl) rfl #[.int .i64 a0] rfl (by (try simp only [List.map_toArray, List.map_cons, List.map_nil]); first | done | rfl | (simp only [List.length_drop, List.length_take]; rfl)) ?_; (with_reducible refine (gf_modulo.calls a0 t256 _ ?side1 A2.out).mono ?_); (case side1 => first | exact HGw.out | (repeat (first | exact HGw.out | apply HG.drewN | apply HG.drew))); rintro e w' ⟨rfl, ⟨nd, rfl⟩⟩; refine ⟨_, rfl, ?_⟩) | ((with_reducible refine gate_callee (f := 84) rfl ?_); refine goesL_ (some 5) rfl rfl Tryd.func84 (by kernel_rfl) rfl #[.int .u8 2, .int .i64 t256] rfl (by (try simp only [List.map_toArray, List.map_cons, List.map_nil]); first | done | rfl | (simp only [List.length_drop, List.length_take]; rfl)) ?_; (with_reducible refine (gf_power.calls k 2 t256 t257 _ ?side1 A3.out).mono ?_); (case side1 => first | exact HGw.out | (repeat (first | exact HGw.out | apply HG.drewN | apply HG.drew))); rintro e w' ⟨rfl, ⟨nd, rfl⟩⟩; refine ⟨_, rfl, ?_⟩))
 go_ret
 exact ⟨by first | rfl | (simp; done) | (simp [*]; done), by repeat (first | exact Drawn0.refl _ | apply Drawn0.step)⟩


/-! ### gf_Sum_1: function 75 -/
/-! the product, as the document defines it -/
theorem shr_u64_nat (n j : Nat) (hj : j ≤ 64) : shr .u64 (n : Int) (j : Int) = ((n >>> j : Nat) : Int) := by
 unfold shr
 rw [show min (j : Int).toNat IntKind.u64.bits = j by simp [IntKind.bits]; omega, Nat.shiftRight_eq_div_pow]
 simp
theorem shl_u64_nat (n j : Nat) (hj : j ≤ 64) (h : n * 2 ^ j < 18446744073709551616) : shl .u64 (n : Int) (j : Int) = ((n * 2 ^ j : Nat) : Int) := by
 unfold shl
 rw [show min (j : Int).toNat IntKind.u64.bits = j by simp [IntKind.bits]; omega, IntKind.wrap_u64]
 have e : ((n : Int) * 2 ^ j) = ((n * 2 ^ j : Nat) : Int) := by simp
 rw [e]; omega
theorem gf_times.step (k a n x j : Nat) (hj : j < 4) (ha : a < 256) (hn : n < 16) (hx : x < 4096) :
  gf_times.l0 (k + 1) a n x j = gf_times.l0 k a n ((x ^^^ QGF.pick n j (2 ^ j * a) : Nat) : Int) ((j + 1 : Nat) : Int) := by
 have hw : wrap64 ((j : Int) + 1) = ((j + 1 : Nat) : Int) := by unfold wrap64; omega
 have e1 : Go.bits .and .u64 (shr .u64 (n : Int) (j : Int)) 1 = (((n >>> j) % 2 : Nat) : Int) := by
  rw [shr_u64_nat n j (by omega)]
  have := u64_and (n >>> j) 1 (by have := Nat.shiftRight_le n j; omega) (by decide)
  rw [show ((1 : Nat) : Int) = 1 from rfl] at this
  rw [this, Nat.and_one_is_mod]
 have hp : a * 2 ^ j < 4096 := by
  have : 2 ^ j ≤ 2 ^ 3 := Nat.pow_le_pow_right (by decide) (by omega)
  have := Nat.mul_le_mul (show a ≤ 255 by omega) this
  omega
 have e2 : shl .u64 (IntKind.u64.wrap (a : Int)) (j : Int) = ((a * 2 ^ j : Nat) : Int) := by
  rw [show IntKind.u64.wrap (a : Int) = (a : Int) by rw [IntKind.wrap_u64]; omega]
  exact shl_u64_nat a j (by omega) (by omega)
 conv => lhs; unfold gf_times.l0
 rw [if_pos (by omega), if_pos (by omega), e1, e2, hw, u64_xor x _ (by omega) (by omega)]
 unfold QGF.pick
 rcases Nat.mod_two_eq_zero_or_one (n >>> j) with e | e
 ·rw [e, if_neg (by decide)]; simp
 ·rw [e, if_pos (by decide), Nat.one_mul, Nat.mul_comm]
theorem gf_reduce.nat (x : Nat) (hx : x < 65536) : gf_reduce.f (x : Int) = some ((QGF.redN x : Nat) : Int) := by
 have e1 : Go.bits .and .u64 ((x : Int) / 256) 15 = ((x / 256 % 16 : Nat) : Int) := by
  have e := u64_and (x / 256) 15 (by omega) (by decide)
  rw [show ((x / 256 : Nat) : Int) = (x : Int) / 256 by omega, show ((15 : Nat) : Int) = 15 from rfl] at e
  rw [e, show (15 : Nat) = 2 ^ 4 - 1 by decide, Nat.and_two_pow_sub_one_eq_mod]
 unfold gf_reduce.f
 rw [e1]
 have hl : x / 256 % 16 < 16 := by omega
 have ht : rd tab_high ((x / 256 % 16 : Nat) : Int) = ((QGF.highN.getD (x / 256 % 16) 0 : Nat) : Int) ∧ QGF.highN.getD (x / 256 % 16) 0 < 256 := by
  generalize x / 256 % 16 = m at hl
  have : ∀ m, m < 16 → rd tab_high ((m : Nat) : Int) = ((QGF.highN.getD m 0 : Nat) : Int) ∧ QGF.highN.getD m 0 < 256 := by decide
  exact this m hl
 rw [ht.1, show (x : Int) % 256 = ((x % 256 : Nat) : Int) by omega, bits_xor_u8 (isB_nat (by omega)) (isB_nat ht.2)]
 rfl
theorem gf_times.nat (k a n : Nat) (ha : a < 256) (hn : n < 16) : gf_times.f (k + 5) a n = some ((QGF.timesN a n : Nat) : Int) := by
 have pl : ∀ j, j < 4 → QGF.pick n j (2 ^ j * a) < 4096 := by
  intro j hj
  unfold QGF.pick
  have : 2 ^ j ≤ 2 ^ 3 := Nat.pow_le_pow_right (by decide) (by omega)
  have := Nat.mul_le_mul this (show a ≤ 255 by omega)
  rcases Nat.mod_two_eq_zero_or_one (n >>> j) with e | e <;> rw [e] <;> omega
 have xl : ∀ x y : Nat, x < 4096 → y < 4096 → x ^^^ y < 4096 := fun x y hx hy => Nat.xor_lt_two_pow (n := 12) hx hy
 unfold gf_times.f
 have s0 := gf_times.step (k + 4) a n 0 0 (by decide) ha hn (by decide)
 have s1 := gf_times.step (k + 3) a n (0 ^^^ QGF.pick n 0 (2 ^ 0 * a)) 1 (by decide) ha hn (xl _ _ (by decide) (pl 0 (by decide)))
 have s2 := gf_times.step (k + 2) a n (0 ^^^ QGF.pick n 0 (2 ^ 0 * a) ^^^ QGF.pick n 1 (2 ^ 1 * a)) 2 (by decide) ha hn (xl _ _ (xl _ _ (by decide) (pl 0 (by decide))) (pl 1 (by decide)))
 have s3 := gf_times.step (k + 1) a n (0 ^^^ QGF.pick n 0 (2 ^ 0 * a) ^^^ QGF.pick n 1 (2 ^ 1 * a) ^^^ QGF.pick n 2 (2 ^ 2 * a)) 3 (by decide) ha hn (xl _ _ (xl _ _ (xl _ _ (by decide) (pl 0 (by decide))) (pl 1 (by decide))) (pl 2 (by decide)))
 refine s0.trans (s1.trans (s2.trans (s3.trans ?_)))
 conv => lhs; unfold gf_times.l0
 rw [if_neg (by omega), gf_reduce.nat _ (by have := xl _ _ (xl _ _ (xl _ _ (xl 0 _ (by decide) (pl 0 (by decide))) (pl 1 (by decide))) (pl 2 (by decide))) (pl 3 (by decide)); omega)]
 simp only [Option.bind_some, QGF.timesN, Nat.zero_xor, Nat.xor_assoc]
 rw [show 2 ^ 0 * a = a by omega, show 2 ^ 1 * a = 2 * a by omega, show 2 ^ 2 * a = 4 * a by omega, show 2 ^ 3 * a = 8 * a by omega]
theorem gf_Mul.nat (k a b : Nat) (ha : a < 256) (hb : b < 256) : gf_Mul.f (k + 5) a b = some ((QGF.mulN a b : Nat) : Int) := by
 unfold gf_Mul.f
 have w1 : ∀ m : Nat, m < 65536 → IntKind.u64.wrap (m : Int) = (m : Int) := fun m hm => by rw [IntKind.wrap_u64]; omega
 have t1 : QGF.timesN a (b / 16) < 256 := by rw [QGF.times_eq ha (by omega)]; exact QGF.mul_lt _ ha
 have t2 : QGF.timesN a (b % 16) < 256 := by rw [QGF.times_eq ha (by omega)]; exact QGF.mul_lt _ ha
 have t3 : QGF.redN (QGF.timesN a (b / 16) * 16) < 256 := by rw [QGF.red16 t1]; exact QGF.xtp_lt t1 4
 rw [show ((b : Int) / 16) = ((b / 16 : Nat) : Int) by omega, w1 _ (by omega), gf_times.nat k a (b / 16) ha (by omega)]
 simp only [Option.bind_some]
 rw [w1 _ (by omega), show ((QGF.timesN a (b / 16) : Nat) : Int) * 16 = ((QGF.timesN a (b / 16) * 16 : Nat) : Int) by omega, w1 _ (by omega), gf_reduce.nat _ (by omega)]
 simp only [Option.bind_some]
 rw [bits_and_u8_15 (isB_nat hb), show ((b : Int) % 16) = ((b % 16 : Nat) : Int) by omega, w1 _ (by omega), gf_times.nat k a (b % 16) ha (by omega)]
 simp only [Option.bind_some]
 rw [bits_xor_u8 (isB_nat t3) (isB_nat t2)]
 unfold ixor
 rw [Int.toNat_natCast, Int.toNat_natCast, QGF.mul_prog ha hb]
theorem gf_Mul.eq (k : Nat) {a b : Int} (ha : isB a = true) (hb : isB b = true) : gf_Mul.f (k + 5) a b = some (imul a b) := by
 rw [isB_iff] at ha hb
 obtain ⟨m, rfl⟩ := Int.eq_ofNat_of_zero_le ha.1
 obtain ⟨n, rfl⟩ := Int.eq_ofNat_of_zero_le hb.1
 exact gf_Mul.nat k m n (by omega) (by omega)
theorem gf_Mul.mul {a b : Int} (ha : isB a = true) (hb : isB b = true) (w : World) (hG : HG w) :
  Calls Tryd.prog 87 #[.int .u8 a, .int .u8 b] w fun e w' => e = .returned (.int .u8 (imul a b)) ∧ Drawn0 w w' :=
 gf_Mul.calls 5 a b _ w hG (gf_Mul.eq 0 ha hb)
/-! Sum's closure -/
def gsum (x y : ByteArray) (k : Nat) : Int := if k < y.size then ixor (bt x (k : Int)) (bt y (k : Int)) else bt x (k : Int)
set_option maxRecDepth 100000 in
theorem gf_Sum_1.calls (x y : ByteArray) (px py : Nat) (k : Nat) (w : World) (hk : k < x.size) (hm : x.size ≤ 140737488351232)
  (hx : w.cell? ⟨px, 0, none⟩ = some (.string x)) (hy : w.cell? ⟨py, 0, none⟩ = some (.string y)) :
  Calls Tryd.prog 75 #[.int .i64 (k : Int), .pointer (some ⟨py, 0, none⟩), .pointer (some ⟨px, 0, none⟩)] w fun e w' => e = .returned (.int .u8 (gsum x y k)) ∧ Drawn0 w w' := by
 have e1 := bt_nat x k
 have e2 := bt_nat y k
 have x1 := bits_xor_u8 (isB_bt x (k : Int)) (isB_bt y (k : Int))
 by_cases h : k < y.size
 ·have hg : gsum x y k = ixor (bt x (k : Int)) (bt y (k : Int)) := if_pos h
  rw [hg, ← x1]
  clear x1 hg
  go_enter Tryd.func75, Tryd.ntmps75
  go_wp2
  go_quiet (fail)
  go_wp2
  go_ret
  exact ⟨rfl, ⟨_, rfl⟩⟩
 ·have hg : gsum x y k = bt x (k : Int) := if_neg h
  rw [hg]
  clear x1 hg
  go_enter Tryd.func75, Tryd.ntmps75
  go_wp2
  go_ret
  exact ⟨rfl, Drawn0.refl _⟩


/-! ### code_Rows_2: function 59 -/
theorem gf_power.nat (f : Nat) : ∀ (n a x : Nat), n < 2 ^ f → n < 2 ^ 62 → a < 256 → x < 256 → gf_power.l0 (f + 6) (a : Int) (n : Int) (x : Int) = some ((QGF.mulN x (QGF.powN n a) : Nat) : Int) := by
 induction f with
 | zero =>
  intro n a x hn _ ha hx
  obtain rfl : n = 0 := by simpa using hn
  conv => lhs; unfold gf_power.l0
  rw [if_neg (by decide)]
  show some (x : Int) = some ((QGF.mulN x 1 : Nat) : Int)
  rw [QGF.mul_one hx]
 | succ f ih =>
  intro n a x hn hn2 ha hx
  by_cases h0 : n = 0
  ·subst h0
   conv => lhs; unfold gf_power.l0
   rw [if_neg (by decide)]
   show some (x : Int) = some ((QGF.mulN x 1 : Nat) : Int)
   rw [QGF.mul_one hx]
  ·have hp : (2 : Nat) ^ (f + 1) = 2 * 2 ^ f := by rw [Nat.pow_succ, Nat.mul_comm]
   have haa := QGF.mul_lt a ha
   rw [show f + 1 + 6 = (f + 6) + 1 by omega]
   conv => lhs; unfold gf_power.l0
   rw [if_pos (by omega), i64_and1 n (by omega), show ((n : Int) / 2) = ((n / 2 : Nat) : Int) by omega]
   have h2 : 2 * (n / 2) + n % 2 = n := Nat.div_add_mod n 2
   rcases Nat.mod_two_eq_zero_or_one n with e | e
   ·rw [e, if_neg (by decide), show f + 6 = (f + 1) + 5 by omega, gf_Mul.nat (f + 1) a a ha ha]
    simp only [Option.bind_some]
    rw [show f + 1 + 5 = f + 6 by omega, ih (n / 2) _ x (by omega) (by omega) haa hx, QGF.pow_sq ha, show 2 * (n / 2) = n by omega]
   ·rw [e, if_pos (by decide), show f + 6 = (f + 1) + 5 by omega, gf_Mul.nat (f + 1) x a hx ha]
    simp only [Option.bind_some]
    rw [gf_Mul.nat (f + 1) a a ha ha]
    simp only [Option.bind_some]
    rw [show f + 1 + 5 = f + 6 by omega, ih (n / 2) _ _ (by omega) (by omega) haa (QGF.mul_lt _ hx), QGF.pow_sq ha]
    have e2 : QGF.powN n a = QGF.mulN (QGF.powN (2 * (n / 2)) a) a := by
     conv => lhs; rw [show n = 2 * (n / 2) + 1 by omega]
     rfl
    rw [e2, QGF.mul_assoc hx ha (QGF.pow_lt ha _), QGF.mul_comm (QGF.pow_lt ha _) ha]
theorem gf_Exp.nat (n : Nat) (hn : n < 2 ^ 62) : gf_Exp.f 14 (n : Int) = some ((QGF.xtp n 1 : Nat) : Int) := by
 unfold gf_Exp.f gf_modulo.f gf_power.f
 have e : Int.tmod (n : Int) 255 = ((n % 255 : Nat) : Int) := by
  rw [Int.tmod_eq_emod_of_nonneg (by omega)]; omega
 rw [e, if_neg (by omega)]
 simp only [Option.bind_some]
 have := gf_power.nat 8 (n % 255) 2 1 (by omega) (by omega) (by decide) (by decide)
 rw [show ((2 : Nat) : Int) = 2 from rfl, show ((1 : Nat) : Int) = 1 from rfl] at this
 rw [show (14 : Nat) = 8 + 6 from rfl, this]
 simp only [Option.bind_some]
 rw [QGF.pow_two, QGF.one_mul (QGF.xtp_lt (by decide) _), ← QGF.xtp_mod]
theorem gf_Inv.nat (a : Nat) (ha : a < 256) (h0 : a ≠ 0) : gf_power.f 14 (a : Int) 254 = some ((QGF.invN a : Nat) : Int) := by
 have := gf_power.nat 8 254 a 1 (by decide) (by decide) ha (by decide)
 unfold gf_power.f
 rw [show ((254 : Nat) : Int) = 254 from rfl, show ((1 : Nat) : Int) = 1 from rfl] at this
 rw [show (14 : Nat) = 8 + 6 from rfl, this, QGF.one_mul (QGF.pow_lt ha _), QGF.pow_254 ha h0]
/-! the elements of the rows -/
def unitAt (k i : Nat) : Int := if i = k then 1 else 0
def setAt (set i : Nat) : Int := ((set >>> i % 2 : Nat) : Int)
def expAt (j i : Nat) : Int := ((QGF.xtp (i * (j + 1)) 1 : Nat) : Int)
set_option maxRecDepth 100000 in
theorem code_Rows_2.calls (k i : Nat) (p : Nat) (w : World) (hc : w.cell? ⟨p, 0, none⟩ = some (.int .i64 (k : Int))) :
  Calls Tryd.prog 59 #[.int .i64 (i : Int), .pointer (some ⟨p, 0, none⟩)] w fun e w' => e = .returned (.int .u8 (unitAt k i)) ∧ Drawn0 w w' := by
 unfold unitAt
 by_cases h : i = k
 ·subst h
  rw [if_pos rfl]
  go_enter Tryd.func59, Tryd.ntmps59
  go_wp2
  go_ret
  exact ⟨rfl, Drawn0.refl _⟩
 ·rw [if_neg h]
  have h1 : ((i : Int) == (k : Int)) = false := beq_eq_false_iff_ne.2 (fun h_ => h (by omega))
  have h2 : (i == k) = false := beq_eq_false_iff_ne.2 h
  go_enter Tryd.func59, Tryd.ntmps59
  go_wp2
  go_ret
  exact ⟨rfl, Drawn0.refl _⟩
set_option maxRecDepth 100000 in
theorem code_Rows_3.calls (set i : Nat) (p : Nat) (w : World) (hs : set < 2 ^ 62) (hi : i ≤ 64) (hc : w.cell? ⟨p, 0, none⟩ = some (.int .i64 (set : Int))) :
  Calls Tryd.prog 60 #[.int .i64 (i : Int), .pointer (some ⟨p, 0, none⟩)] w fun e w' => e = .returned (.int .u8 (setAt set i)) ∧ Drawn0 w w' := by
 have e1 : Go.bits .and .i64 ((set : Int) / 2 ^ i) 1 % 256 = setAt set i := by
  rw [show ((set : Int) / 2 ^ i) = ((set >>> i : Nat) : Int) by rw [Nat.shiftRight_eq_div_pow]; simp, i64_and1 _ (by have := Nat.shiftRight_le set i; omega)]
  show (((set >>> i % 2 : Nat) : Int)) % 256 = ((set >>> i % 2 : Nat) : Int)
  omega
 rw [← e1]
 clear e1
 go_enter Tryd.func60, Tryd.ntmps60
 go_wp2
 go_ret
 exact ⟨rfl, Drawn0.refl _⟩
set_option maxRecDepth 100000 in
theorem code_Rows_4.calls (j i : Nat) (p : Nat) (w : World) (hG : HG w) (hj : j ≤ 4) (hi : i ≤ 16) (hc : w.cell? ⟨p, 0, none⟩ = some (.int .i64 (j : Int))) :
  Calls Tryd.prog 61 #[.int .i64 (i : Int), .pointer (some ⟨p, 0, none⟩)] w fun e w' => e = .returned (.int .u8 (expAt j i)) ∧ Drawn0 w w' := by
 have hij : i * (j + 1) ≤ 16 * 5 := Nat.mul_le_mul hi (by omega)
 have e : ((i : Int) * ((j : Int) + 1)) = ((i * (j + 1) : Nat) : Int) := by simp
 have HM := Aside0.mk (gf_Exp.calls 14 ((i : Int) * ((j : Int) + 1)) _ w hG (by rw [e]; exact gf_Exp.nat (i * (j + 1)) (by omega)))
 have e1 : wrap64 ((i : Int) * ((j : Int) + 1)) = (i : Int) * ((j : Int) + 1) := by
  rw [e]; unfold wrap64; omega
 clear hG hij e
 go_enter Tryd.func61, Tryd.ntmps61
 go_wp2_with (go_at_call 62; (with_reducible refine HM.out.mono ?_); rintro e w' ⟨rfl, ⟨nd, rfl⟩⟩)
 go_ret
 exact ⟨rfl, ⟨_, rfl⟩⟩


/-! ### code_Rows: function 17 -/
def setOf (g : List Int) : Nat := g.foldl (fun s i => s ||| 2 ^ i.toNat) 0
def unitRow (d k : Nat) : List Int := (List.range d).map (unitAt k)
def groupRow (d : Nat) (g : List Int) : List Int := (List.range d).map (setAt (setOf g))
def expRow (d j : Nat) : List Int := (List.range d).map (expAt j)
def unitRows (d n : Nat) : List (List Int) := (List.range n).map (unitRow d)
def groupRows (d : Nat) (l : List (List Int)) (n : Nat) : List (List Int) := (l.take n).map (groupRow d)
def expRows (d n : Nat) : List (List Int) := (List.range n).map (expRow d)
def rowsOf (d : Nat) (l : List (List Int)) (gl : Nat) : List (List Int) := unitRows d d ++ groupRows d l l.length ++ expRows d gl
def okCode (d : Int) (l : List (List Int)) (gl : Int) : Bool := decide (1 ≤ d) && decide (d ≤ 16) && decide (0 ≤ gl) && decide (gl ≤ 4) && decide (l.length ≤ 24) && l.all fun g => g.all fun x => decide (0 ≤ x) && decide (x < 16)
def code_Rows.f (k : Nat) (a0_0 : Int) (l0_1 : List (List Int)) (a0_2 : Int) : Option (List (List Int) × Int) :=
 (code_Check.f k a0_0 l0_1 a0_2).bind fun e => if e = 0 then (if okCode a0_0 l0_1 a0_2 = true then some (rowsOf a0_0.toNat l0_1 a0_2.toNat, 0) else none) else some ([], e)
theorem unitRows_succ (d n : Nat) : unitRows d (n + 1) = unitRows d n ++ [unitRow d n] := by simp [unitRows, List.range_succ]
theorem expRows_succ (d n : Nat) : expRows d (n + 1) = expRows d n ++ [expRow d n] := by simp [expRows, List.range_succ]
theorem groupRows_succ (d : Nat) (l : List (List Int)) (n : Nat) (h : n < l.length) : groupRows d l (n + 1) = groupRows d l n ++ [groupRow d (rd_L1 l (n : Int))] := by
 unfold groupRows
 rw [List.take_succ_eq_append_getElem h, List.map_append]
 simp [rd_L1, List.getD_eq_getElem?_getD, List.getElem?_eq_getElem h]
/-- What Rows has between two rounds: the code and the rows in their variables. -/
def RowsInv (gc go : Nat) (d : Int) (u1 u2 : Value) (w0 W : World) (xs : List (List Int)) : Prop :=
 W.heap[gc]? = some (.cells #[.int .i64 d, u1, u2] 24 (0, 0)) ∧ gc ≠ go ∧ w0.heap.size ≤ go ∧ (∃ v, W.heap[go]? = some (.cells #[v] 29 (0, 0)) ∧ Kd.S (Kd.slice 5 (Kd.int .u8)) 57 W w0.heap.size (fun _ => True) v xs) ∧ Below w0.heap.size w0 W
theorem RowsInv.below {gc go : Nat} {d : Int} {u1 u2 : Value} {w0 W W1 : World} {xs : List (List Int)} (h : RowsInv gc go d u1 u2 w0 W xs) (hb : Below W.heap.size W W1) : RowsInv gc go d u1 u2 w0 W1 xs := by
 obtain ⟨h1, h2, h3, ⟨v, h4, h5⟩, h6⟩ := h
 exact ⟨blk_below h1 hb, h2, h3, ⟨v, blk_below h4 hb, Kd.S_below h5 hb⟩, below_step h6 hb⟩
theorem RowsInv.alloc {gc go : Nat} {d : Int} {u1 u2 : Value} {w0 W : World} {xs : List (List Int)} (h : RowsInv gc go d u1 u2 w0 W xs) (o : Obj) : RowsInv gc go d u1 u2 w0 (W.alloc o) xs := h.below (below_alloc (Below.refl _ _) o)
theorem RowsInv.add {gc go : Nat} {d : Nat} {u1 u2 : Value} {w0 W : World} {xs : List (List Int)} (h : RowsInv gc go (d : Int) u1 u2 w0 W xs) (F : FuncId) (caps : Array Value) (g : Nat → Int) (hd : d ≤ 16)
  (he : ∀ args W, (callFunc F args).run Tryd.prog W = .ok (.enter F args) W)
  (hF : ∀ k, k < d → ∀ W', Below W.heap.size W W' → Calls Tryd.prog F (#[.int .i64 (k : Int)] ++ caps) W' fun e W2 => e = .returned (.int .u8 (g k)) ∧ Drawn0 W' W2) (hl : xs.length < 1000) :
  Calls Tryd.prog 58 #[.func (.func F) #[] caps, .pointer (some ⟨gc, 0, none⟩), .pointer (some ⟨go, 0, none⟩)] W fun e W' => e = .returned (.tuple #[]) ∧ RowsInv gc go (d : Int) u1 u2 w0 W' (xs ++ [(List.range d).map g]) ∧ W.heap.size ≤ W'.heap.size := by
 obtain ⟨h1, h2, h3, ⟨v, h4, h5⟩, h6⟩ := h
 refine (code_Rows_1.calls d F caps g gc go w0.heap.size u1 u2 xs v w0 W hd he hF h1 h4 h5 h6 h3 h6.size hl).mono ?_
 rintro e W' ⟨he, v1, h7, h8, h9, h10⟩
 exact ⟨he, ⟨h10.blk h1 h2 (Kd.S_ne h5 h1 (by decide)), h2, h3, ⟨v1, h7, h8⟩, h9⟩, h10.1⟩
theorem enters59 : ∀ args W, (callFunc 59 args).run Tryd.prog W = .ok (.enter 59 args) W := enters_of Tryd.func59 (by kernel_rfl) rfl
theorem enters60 : ∀ args W, (callFunc 60 args).run Tryd.prog W = .ok (.enter 60 args) W := enters_of Tryd.func60 (by kernel_rfl) rfl
theorem enters61 : ∀ args W, (callFunc 61 args).run Tryd.prog W = .ok (.enter 61 args) W := enters_of Tryd.func61 (by kernel_rfl) rfl
theorem RowsInv.unit {gc go : Nat} {d : Nat} {u1 u2 : Value} {w0 W : World} {xs : List (List Int)} (h : RowsInv gc go (d : Int) u1 u2 w0 W xs) (k p : Nat) (hd : d ≤ 16) (hc : W.cell? ⟨p, 0, none⟩ = some (.int .i64 (k : Int))) (hl : xs.length < 1000) :
  Calls Tryd.prog 58 #[.func (.func 59) #[] #[.pointer (some ⟨p, 0, none⟩)], .pointer (some ⟨gc, 0, none⟩), .pointer (some ⟨go, 0, none⟩)] W fun e W' => e = .returned (.tuple #[]) ∧ RowsInv gc go (d : Int) u1 u2 w0 W' (xs ++ [unitRow d k]) ∧ W.heap.size ≤ W'.heap.size :=
 h.add _ _ (unitAt k) hd enters59 (fun i _ W' hb => code_Rows_2.calls k i p W' (pw_cell_below hb hc)) hl
theorem RowsInv.group {gc go : Nat} {d : Nat} {u1 u2 : Value} {w0 W : World} {xs : List (List Int)} (h : RowsInv gc go (d : Int) u1 u2 w0 W xs) (g : List Int) (p : Nat) (hd : d ≤ 16) (hs : setOf g < 2 ^ 62) (hc : W.cell? ⟨p, 0, none⟩ = some (.int .i64 (setOf g : Int))) (hl : xs.length < 1000) :
  Calls Tryd.prog 58 #[.func (.func 60) #[] #[.pointer (some ⟨p, 0, none⟩)], .pointer (some ⟨gc, 0, none⟩), .pointer (some ⟨go, 0, none⟩)] W fun e W' => e = .returned (.tuple #[]) ∧ RowsInv gc go (d : Int) u1 u2 w0 W' (xs ++ [groupRow d g]) ∧ W.heap.size ≤ W'.heap.size :=
 h.add _ _ (setAt (setOf g)) hd enters60 (fun i hi W' hb => code_Rows_3.calls (setOf g) i p W' hs (by omega) (pw_cell_below hb hc)) hl
theorem RowsInv.exp {gc go : Nat} {d : Nat} {u1 u2 : Value} {w0 W : World} {xs : List (List Int)} (h : RowsInv gc go (d : Int) u1 u2 w0 W xs) (hG : HG W) (j p : Nat) (hd : d ≤ 16) (hj : j ≤ 4) (hc : W.cell? ⟨p, 0, none⟩ = some (.int .i64 (j : Int))) (hl : xs.length < 1000) :
  Calls Tryd.prog 58 #[.func (.func 61) #[] #[.pointer (some ⟨p, 0, none⟩)], .pointer (some ⟨gc, 0, none⟩), .pointer (some ⟨go, 0, none⟩)] W fun e W' => e = .returned (.tuple #[]) ∧ RowsInv gc go (d : Int) u1 u2 w0 W' (xs ++ [expRow d j]) ∧ W.heap.size ≤ W'.heap.size :=
 h.add _ _ (expAt j) hd enters61 (fun i hi W' hb => code_Rows_4.calls j i p W' (hG.below hb) hj (by omega) (pw_cell_below hb hc)) hl
theorem okCode_iff {d gl : Int} {l : List (List Int)} (h : okCode d l gl = true) : (1 ≤ d ∧ d ≤ 16) ∧ (0 ≤ gl ∧ gl ≤ 4) ∧ l.length ≤ 24 ∧ ∀ g ∈ l, ∀ x ∈ g, 0 ≤ x ∧ x < 16 := by
 simp only [okCode, Bool.and_eq_true, decide_eq_true_eq, List.all_eq_true] at h
 obtain ⟨⟨⟨⟨⟨h1, h2⟩, h3⟩, h4⟩, h5⟩, h6⟩ := h
 exact ⟨⟨h1, h2⟩, ⟨h3, h4⟩, h5, fun g hg x hx => h6 g hg x hx⟩
theorem setOf_take_succ (g : List Int) (n : Nat) (h : n < g.length) : setOf (g.take (n + 1)) = setOf (g.take n) ||| 2 ^ (rd g (n : Int)).toNat := by
 unfold setOf
 rw [List.take_succ_eq_append_getElem h, List.foldl_append]
 simp [rd, List.getD_eq_getElem?_getD, List.getElem?_eq_getElem h]
theorem setOf_lt (g : List Int) (h : ∀ x ∈ g, 0 ≤ x ∧ x < 16) : setOf g < 2 ^ 16 := by
 unfold setOf
 have : ∀ (l : List Int) (s : Nat), s < 2 ^ 16 → (∀ x ∈ l, 0 ≤ x ∧ x < 16) → l.foldl (fun s i => s ||| 2 ^ i.toNat) s < 2 ^ 16 := by
  intro l
  induction l with
  | nil => intro s hs _; exact hs
  | cons a l ih =>
   intro s hs hl
   have ha := hl a (List.mem_cons_self)
   have hp : 2 ^ a.toNat < 2 ^ 16 := Nat.pow_lt_pow_right (by decide) (by omega)
   exact ih _ (Nat.or_lt_two_pow hs hp) (fun x hx => hl x (List.mem_cons_of_mem _ hx))
 exact this g 0 (by decide) h
theorem rd_mem {g : List Int} {n : Nat} (h : n < g.length) : rd g (n : Int) ∈ g := by
 have : rd g (n : Int) = g[n] := by simp [rd, List.getD_eq_getElem?_getD, List.getElem?_eq_getElem h]
 rw [this]; exact List.getElem_mem h
theorem rdL_mem {l : List (List Int)} {n : Nat} (h : n < l.length) : rd_L1 l (n : Int) ∈ l := by
 have : rd_L1 l (n : Int) = l[n] := by simp [rd_L1, List.getD_eq_getElem?_getD, List.getElem?_eq_getElem h]
 rw [this]; exact List.getElem_mem h
theorem at_list_nat {w : World} {A : Option Addr} {n : Nat} {xs : List (List Int)} (h : Kd.C (Kd.slice 3 (Kd.int .i64)) w A n xs) (k : Nat) (hk : k < n) : ∃ ad A0 c0, A = some ad ∧ w.cell? (ad.add k) = some (.slice A0 (rd_L1 xs (k : Int)).length c0) ∧ (rd_L1 xs (k : Int)).length ≤ c0 ∧ (Kd.int .i64).C w A0 (rd_L1 xs (k : Int)).length (rd_L1 xs (k : Int)) := by
 obtain ⟨ad, A0, c0, e, h1, h2, h3⟩ := at_L1 h (k : Int) (by omega) (by omega)
 exact ⟨ad, A0, c0, e, by rwa [Int.toNat_natCast] at h1, h2, h3⟩
set_option maxHeartbeats 4000000 in
set_option maxRecDepth 100000 in
theorem code_Rows.calls (k : Nat) (a0_0 : Int) (A0_1 : Option Addr) (c0_1 : Nat) (l0_1 : List (List Int)) (a0_2 : Int) (r1 : List (List Int)) (r2 : Int) (w : World) (hG : HG w) (hr0_1 : Kd.C (Kd.slice 3 (Kd.int .i64)) w A0_1 l0_1.length l0_1) (hc0_1 : l0_1.length ≤ c0_1) (h : code_Rows.f k a0_0 l0_1 a0_2 = some (r1, r2)) :
  Calls Tryd.prog 17 #[.agg #[.int .i64 a0_0, .slice A0_1 l0_1.length c0_1, .int .i64 a0_2]] w fun e w' => ∃ v0_ : Value, e = .returned (.tuple #[v0_, .int .i64 r2]) ∧ Kd.S (Kd.slice 5 (Kd.int .u8)) 57 w' w.heap.size (fun _ => True) v0_ r1 ∧ Below w.heap.size w w' := by
 have hm := Kd.C_max hr0_1
 obtain ⟨e0, hchk, h2⟩ := Option.bind_eq_some_iff.1 h
 have HCK := Aside0.mk (fun W (hb : Below w.heap.size w W) => code_Check.calls k a0_0 A0_1 c0_1 l0_1 a0_2 e0 W (hG.below hb) (Kd.C_below hr0_1 hb) hc0_1 hchk)
 have HR := Aside0.mk hr0_1
 have HGw := Aside0.mk hG
 have hmf := run_mf Tryd.prog
 have hu24 := Tryd.underlying24
 clear hr0_1 hG hchk h
 by_cases he0 : e0 = 0
 ·subst he0
  rw [if_pos rfl] at h2
  by_cases hok : okCode a0_0 l0_1 a0_2 = true
  ·rw [if_pos hok] at h2
   obtain ⟨rfl, rfl⟩ := Prod.mk.inj (Option.some.inj h2)
   obtain ⟨hd, hg, hn, hel⟩ := okCode_iff hok
   have HE := Aside0.mk hel
   obtain ⟨d, rfl⟩ := Int.eq_ofNat_of_zero_le (show 0 ≤ a0_0 by omega)
   obtain ⟨gl, rfl⟩ := Int.eq_ofNat_of_zero_le hg.1
   rw [Int.toNat_natCast, Int.toNat_natCast]
   have HD := Aside0.mk (show d ≤ 16 by omega)
   clear h2 hok hel
   go_enter Tryd.func17, Tryd.ntmps17
   go_wp2_with (go_at_call 20; (with_reducible refine (HCK.out _ (by repeat (first | exact Below.refl _ _ | apply below_alloc))).mono ?_); rintro e w1 ⟨rfl, hb1⟩; have hbc : w1.heap[w.heap.size]? = some (.cells #[.int .i64 (d : Int), .slice A0_1 l0_1.length c0_1, .int .i64 (gl : Int)] 24 (0, 0)) := blk_below (blk_new w _) hb1; have hlt1 : w.heap.size < w1.heap.size := blk_lt hbc; have HBC := Aside0.mk hbc; have HB1 := Aside0.mk (below_step (below_alloc (Below.refl w.heap.size w) _) hb1); have hcz0 : w1.cell? ⟨w.heap.size, 0, none⟩ = some (.int .i64 (d : Int)) := blk_cell hbc 0; have hcz1 : w1.cell? ⟨w.heap.size, 1, none⟩ = some (.slice A0_1 l0_1.length c0_1) := blk_cell hbc 1; have hcz2 : w1.cell? ⟨w.heap.size, 2, none⟩ = some (.int .i64 (gl : Int)) := blk_cell hbc 2; clear hbc hb1)
   have hI0 : RowsInv w.heap.size w1.heap.size (d : Int) (.slice A0_1 l0_1.length c0_1) (.int .i64 (gl : Int)) w (w1.alloc (.cells #[.slice none 0 0] 29)) (unitRows d 0) :=
    ⟨blk_alloc HBC.out _, by omega, by omega, ⟨_, blk_new _ _, Kd.S_nil _ _ _ _ _⟩, below_alloc HB1.out _⟩
   have HI0 := Aside0.mk hI0
   clear hI0 hcz0 hcz1 hcz2
   go_loopw [22] (fun x W => ∃ n : Nat, n ≤ d ∧ x = .int .i64 (n : Int) ∧ Aside0 (RowsInv w.heap.size w1.heap.size (d : Int) (.slice A0_1 l0_1.length c0_1) (.int .i64 (gl : Int)) w W (unitRows d n))) (fun x _ => d - (intOf x).toNat)
   case atStart => exact ⟨0, Nat.zero_le _, rfl, HI0⟩
   case round =>
    clear HI0
    obtain ⟨n, hn', rfl, HI⟩ := hrel
    have HLU := Aside0.mk (show (unitRows d n).length < 1000 by simp [unitRows]; omega)
    by_cases hlt : n < d
    ·go_wp2_with (go_at_call 58; (with_reducible refine (RowsInv.unit (HI.out.alloc (.cells #[.int .i64 (n : Int)] 3)) n wr.heap.size HD.out ?uA2 HLU.out).mono ?_); (case uA2 => (go_simp; done)); rintro e w' ⟨rfl, hI, hsz⟩; have HI' := Aside0.mk hI; clear hI hsz)
     go_roundw
     case rel => exact ⟨n + 1, by omega, by go_num, ⟨by rw [unitRows_succ]; exact HI'.out⟩⟩
     case measure => simp [intOf]; omega
    ·obtain rfl : d = n := by omega
     have hbc := HI.out.1
     have hcz1 : wr.cell? ⟨w.heap.size, 1, none⟩ = some (.slice A0_1 l0_1.length c0_1) := blk_cell hbc 1
     clear hbc
     go_wp2
     go_loopw [32] (fun x W => ∃ n : Nat, n ≤ l0_1.length ∧ x = .int .i64 (n : Int) ∧ Aside0 (RowsInv w.heap.size w1.heap.size (d : Int) (.slice A0_1 l0_1.length c0_1) (.int .i64 (gl : Int)) w W (unitRows d d ++ groupRows d l0_1 n))) (fun x _ => l0_1.length - (intOf x).toNat)
     case atStart => exact ⟨0, Nat.zero_le _, rfl, ⟨by rw [show groupRows d l0_1 0 = [] from rfl, List.append_nil]; exact HI.out⟩⟩
     case round =>
      clear HI hcz1
      obtain ⟨wo, rfl⟩ : ∃ wo : World, wo = wr := ⟨_, rfl⟩
      obtain ⟨n, hn', rfl, HI⟩ := hrel
      by_cases hlt : n < l0_1.length
      ·obtain ⟨ad0, A0, c0, rfl, hx0, hx1, hx2⟩ := at_list_nat HR.out n hlt
       have hx0 := pw_cell_below HI.out.2.2.2.2 hx0
       have hmem := HE.out _ (rdL_mem hlt)
       have hqm := Kd.C_max hx2
       generalize hq : rd_L1 l0_1 (n : Int) = q at hx0 hx1 hx2 hmem hqm
       go_wp2
       go_loopw [38] (fun x W => ∃ m : Nat, m ≤ q.length ∧ x = .int .i64 (m : Int) ∧ Aside0 (W.heap[wo.heap.size]? = some (.cells #[.int .i64 (setOf (q.take m) : Int)] 3 (0, 0))) ∧ Aside0 (Below wo.heap.size wo W)) (fun x _ => q.length - (intOf x).toNat)
       case atStart => exact ⟨0, Nat.zero_le _, rfl, ⟨blk_new _ _⟩, ⟨below_alloc (Below.refl _ _) _⟩⟩
       case round =>
        obtain ⟨m, hm', rfl, HS, HBo⟩ := hrel
        by_cases hlt2 : m < q.length
        ·obtain ⟨ad1, rfl, hx3⟩ := at_int_nat hx2 m hlt2
         have hx3 := pw_cell_below HBo.out (pw_cell_below HI.out.2.2.2.2 hx3)
         obtain ⟨hy0, hy1⟩ := hmem _ (rd_mem hlt2)
         have hcz := blk_cell HS.out 0
         have hfz := blk_frozen HS.out 0
         have HT := Aside0.mk (setOf_take_succ q m hlt2)
         generalize hy : rd q (m : Int) = y at hx3 hy0 hy1
         have HV := Aside0.mk (show Go.bits .or .i64 ((setOf (q.take m) : Nat) : Int) (wrap64 (2 ^ y.toNat)) = ((setOf (q.take (m + 1)) : Nat) : Int) by
          have hy2 : 2 ^ y.toNat < 2 ^ 16 := Nat.pow_lt_pow_right (by decide) (by omega)
          have hs := setOf_lt (q.take m) (fun x hx => hmem x (List.mem_of_mem_take hx))
          have e : (2 : Int) ^ y.toNat = ((2 ^ y.toNat : Nat) : Int) := by simp
          rw [e, show wrap64 ((2 ^ y.toNat : Nat) : Int) = ((2 ^ y.toNat : Nat) : Int) by generalize 2 ^ y.toNat = z at hy2; unfold wrap64; omega, i64_or _ _ (by omega) (by omega), HT.out, hy])
         go_wp2
         go_region
         go_wp2
         go_roundw
         case rel => exact ⟨m + 1, by omega, by go_num, ⟨by rw [← HV.out]; exact blk_drew (blk_set HS.out 0 _)⟩, ⟨below_drew (HBo.out.setCell (p := ⟨wo.heap.size, 0, none⟩) (Nat.le_refl _) _)⟩⟩
         case measure => simp [intOf]; omega
        ·obtain rfl : m = q.length := by omega
         have hs := HS.out
         rw [List.take_length] at hs
         have hc3 : wr.cell? ⟨wo.heap.size, 0, none⟩ = some (.int .i64 (setOf q : Int)) := blk_cell hs 0
         have HI3 := Aside0.mk (HI.out.below HBo.out)
         have HC3 := Aside0.mk hc3
         have HS3 := Aside0.mk (show setOf q < 2 ^ 62 from Nat.lt_trans (setOf_lt q hmem) (by decide))
         have HLU2 := Aside0.mk (show (unitRows d d ++ groupRows d l0_1 n).length < 1000 by have := HD.out; simp [unitRows, groupRows]; omega)
         have HQ := Aside0.mk hq
         clear hs hc3 hq
         go_wp2_with (go_at_call 58; (with_reducible refine (RowsInv.group HI3.out q wo.heap.size HD.out HS3.out HC3.out HLU2.out).mono ?_); rintro e w' ⟨rfl, hI, hsz⟩; have HI' := Aside0.mk hI; clear hI hsz)
         go_roundw
         case rel => exact ⟨n + 1, by omega, by go_num, ⟨by rw [groupRows_succ d l0_1 n hlt, HQ.out, ← List.append_assoc]; exact HI'.out⟩⟩
         case measure => simp [intOf]; omega
      ·obtain rfl : n = l0_1.length := by omega
       have hbc := HI.out.1
       have hcz2 : wo.cell? ⟨w.heap.size, 2, none⟩ = some (.int .i64 (gl : Int)) := blk_cell hbc 2
       clear hbc
       go_wp2
       go_loopw [53] (fun x W => ∃ n : Nat, n ≤ gl ∧ x = .int .i64 (n : Int) ∧ Aside0 (RowsInv w.heap.size w1.heap.size (d : Int) (.slice A0_1 l0_1.length c0_1) (.int .i64 (gl : Int)) w W (unitRows d d ++ groupRows d l0_1 l0_1.length ++ expRows d n))) (fun x _ => gl - (intOf x).toNat)
       case atStart => exact ⟨0, Nat.zero_le _, rfl, ⟨by rw [show expRows d 0 = [] from rfl, List.append_nil]; exact HI.out⟩⟩
       case round =>
        clear HI hcz2
        obtain ⟨n, hn', rfl, HI⟩ := hrel
        have HLU3 := Aside0.mk (show (unitRows d d ++ groupRows d l0_1 l0_1.length ++ expRows d n).length < 1000 by have := HD.out; simp [unitRows, groupRows, expRows]; omega)
        by_cases hlt : n < gl
        ·have HJ := Aside0.mk (show n ≤ 4 by omega)
         have HG3 := Aside0.mk ((HGw.out.below HI.out.2.2.2.2).alloc (.cells #[.int .i64 (n : Int)] 3))
         go_wp2_with (go_at_call 58; (with_reducible refine (RowsInv.exp (HI.out.alloc (.cells #[.int .i64 (n : Int)] 3)) HG3.out n wr.heap.size HD.out HJ.out ?uA3 HLU3.out).mono ?_); (case uA3 => (go_simp; done)); rintro e w' ⟨rfl, hI, hsz⟩; have HI' := Aside0.mk hI; clear hI hsz)
         go_roundw
         case rel => exact ⟨n + 1, by omega, by go_num, ⟨by rw [expRows_succ, ← List.append_assoc]; exact HI'.out⟩⟩
         case measure => simp [intOf]; omega
        ·obtain rfl : n = gl := by omega
         obtain ⟨_, _, _, ⟨v, hv, hS⟩, hB⟩ := HI.out
         have hcv := blk_cell hv 0
         have HS := Aside0.mk hS
         have HB := Aside0.mk hB
         clear hv hS hB HI
         go_wp2
         go_ret2
         exact ⟨_, rfl, HS.out, HB.out⟩
  ·rw [if_neg hok] at h2
   cases h2
 ·rw [if_neg he0] at h2
  obtain ⟨rfl, rfl⟩ := Prod.mk.inj (Option.some.inj h2)
  have he1 : (e0 == 0) = false := beq_eq_false_iff_ne.2 he0
  clear h2
  go_enter Tryd.func17, Tryd.ntmps17
  go_wp2_with (go_at_call 20; (with_reducible refine (HCK.out _ (by repeat (first | exact Below.refl _ _ | apply below_alloc))).mono ?_); rintro e w1 ⟨rfl, hb1⟩; have HB1 := Aside0.mk hb1; clear hb1)
  go_ret2
  exact ⟨_, rfl, Kd.S_nil _ _ _ _ _, below_step (below_alloc (Below.refl _ _) _) HB1.out⟩


/-! ### code_Size: function 23 -/
def code_Size.f (k : Nat) (a0_0 : Int) (l0_1 : List (List Int)) (a0_2 : Int) (a1 : Int) : Option (Int) := if a1 < 0 then (some 0) else (if a1 > 4096 then (some 0) else ((code_Check.f k a0_0 l0_1 a0_2).bind fun t259 => (if t259 = 0 then (if a0_0 = 0 then (none) else (some (wrap64 (Int.tdiv (wrap64 ((wrap64 (a1 + a0_0)) - 1)) a0_0)))) else (some 0))))
set_option maxHeartbeats 8000000 in
set_option maxRecDepth 100000 in
theorem code_Size.calls (k : Nat) (a0_0 : Int) (A0_1 : Option Addr) (c0_1 : Nat) (l0_1 : List (List Int)) (a0_2 : Int) (a1 : Int) (r : Int) (w : World) (hG : HG w) (hr0_1 : Kd.C (Kd.slice 3 (Kd.int .i64)) w A0_1 l0_1.length l0_1) (hc0_1 : l0_1.length ≤ c0_1) (h : code_Size.f k a0_0 l0_1 a0_2 a1 = some r) :
  Calls Tryd.prog 23 #[.agg #[.int .i64 a0_0, .slice A0_1 l0_1.length c0_1, .int .i64 a0_2], .int .i64 a1] w fun e w' => e = .returned (.int .i64 r) ∧ Below w.heap.size w w' := by
 have HGw := Aside0.mk hG
 clear hG
 have hu24 := Tryd.underlying24
 have HR0_1 := Aside0.mk hr0_1
 have HC0_1 := Aside0.mk hc0_1
 clear hr0_1 hc0_1
 have HB := Aside0.mk (Below.refl w.heap.size w)
 have H : (if a1 < 0 then (some 0) else (if a1 > 4096 then (some 0) else ((code_Check.f k a0_0 l0_1 a0_2).bind fun t259 => (if t259 = 0 then (if a0_0 = 0 then (none) else (some (wrap64 (Int.tdiv (wrap64 ((wrap64 (a1 + a0_0)) - 1)) a0_0)))) else (some 0))))) = some r := h
 clear h
 by_cases c3 : a1 < 0
 ·rw [if_pos c3] at H
  have c3b0 : decide (a1 < 0) = true := decide_eq_true c3
  clear c3
  obtain rfl := Option.some.inj H
  go_enter Tryd.func23, Tryd.ntmps23
  go_wp2_with (first | ((with_reducible refine gate_dst (N := 2) rfl ?_); refine box_event ?hg (N := 2) ?hd (cs := #[.int .i64 a0_0, .slice A0_1 l0_1.length c0_1, .int .i64 a0_2]) (t := 24) ?hr ?_; (case hd => rfl); (case hg => rfl); (case hr => first | (go_simp; done) | (go_simp; rfl)); intro gb258 hg w4 hbox hb; have n0_ := Aside0.mk (below_step (by repeat (first | (with_reducible first | exact HB.out | apply below_alloc | apply pw_below_drewN | apply below_drew1) | exact HB.out)) hb); have n1_ := Aside0.mk (hbox); have n2_ := Aside0.mk ((by rw [hg]; exact (below_size (by repeat (first | (with_reducible first | exact HB.out | apply below_alloc | apply pw_below_drewN | apply below_drew1) | exact HB.out))) : w.heap.size ≤ gb258)); have n3_ := Aside0.mk ((by rw [hg]; exact (below_size (by repeat (first | (with_reducible first | exact HB.out | apply below_alloc | apply pw_below_drewN | apply below_drew1) | exact HB.out))) : w.heap.size ≤ gb258)); clear HB; have HB := n0_; have BK258 := n1_; have GW258 := n2_; have GE258 := n3_; clear n0_ n1_ n2_ n3_; clear hb hbox hg))
  go_ret
  exact ⟨by first | rfl | (simp [errW_none, errW_some] <;> rfl) | (simp [*, errW_none, errW_some] <;> rfl), by repeat (first | (with_reducible first | exact HB.out | apply below_alloc | apply pw_below_drewN | apply below_drew1 | refine below_set ?_ GE258.out) | exact HB.out)⟩
 ·rw [if_neg c3] at H
  have c3b0 : decide (a1 < 0) = false := decide_eq_false c3
  clear c3
  by_cases c5 : a1 > 4096
  ·rw [if_pos c5] at H
   have c5b0 : decide (4096 < a1) = true := decide_eq_true c5
   clear c5
   obtain rfl := Option.some.inj H
   go_enter Tryd.func23, Tryd.ntmps23
   go_wp2_with (first | ((with_reducible refine gate_dst (N := 2) rfl ?_); refine box_event ?hg (N := 2) ?hd (cs := #[.int .i64 a0_0, .slice A0_1 l0_1.length c0_1, .int .i64 a0_2]) (t := 24) ?hr ?_; (case hd => rfl); (case hg => rfl); (case hr => first | (go_simp; done) | (go_simp; rfl)); intro gb258 hg w6 hbox hb; have n0_ := Aside0.mk (below_step (by repeat (first | (with_reducible first | exact HB.out | apply below_alloc | apply pw_below_drewN | apply below_drew1) | exact HB.out)) hb); have n1_ := Aside0.mk (hbox); have n2_ := Aside0.mk ((by rw [hg]; exact (below_size (by repeat (first | (with_reducible first | exact HB.out | apply below_alloc | apply pw_below_drewN | apply below_drew1) | exact HB.out))) : w.heap.size ≤ gb258)); have n3_ := Aside0.mk ((by rw [hg]; exact (below_size (by repeat (first | (with_reducible first | exact HB.out | apply below_alloc | apply pw_below_drewN | apply below_drew1) | exact HB.out))) : w.heap.size ≤ gb258)); clear HB; have HB := n0_; have BK258 := n1_; have GW258 := n2_; have GE258 := n3_; clear n0_ n1_ n2_ n3_; clear hb hbox hg))
   go_ret
   exact ⟨by first | rfl | (simp [errW_none, errW_some] <;> rfl) | (simp [*, errW_none, errW_some] <;> rfl), by repeat (first | (with_reducible first | exact HB.out | apply below_alloc | apply pw_below_drewN | apply below_drew1 | refine below_set ?_ GE258.out) | exact HB.out)⟩
  ·rw [if_neg c5] at H
   have c5b0 : decide (4096 < a1) = false := decide_eq_false c5
   clear c5
   replace H := Option.bind_eq_some_iff.mp H
   obtain ⟨t259, A70, H⟩ := H
   replace H : (if t259 = 0 then (if a0_0 = 0 then (none) else (some (wrap64 (Int.tdiv (wrap64 ((wrap64 (a1 + a0_0)) - 1)) a0_0)))) else (some 0)) = some r := H
   have A7 := Aside0.mk A70
   clear A70
   by_cases c8 : t259 = 0
   ·rw [if_pos c8] at H
    have c8b0 : (t259 == 0) = true := beq_iff_eq.mpr c8
    have c8b1 : (t259 != 0) = false := bne_eq_false_iff_eq.mpr c8
    clear c8
    by_cases c9 : a0_0 = 0
    ·rw [if_pos c9] at H
     exact absurd H (by simp)
    ·rw [if_neg c9] at H
     have c9b0 : (a0_0 == 0) = false := beq_eq_false_iff_ne.mpr c9
     have c9b1 : (a0_0 != 0) = true := bne_iff_ne.mpr c9
     obtain rfl := Option.some.inj H
     go_enter Tryd.func23, Tryd.ntmps23
     go_wp2_with (first | ((with_reducible refine gate_dst (N := 2) rfl ?_); refine box_event ?hg (N := 2) ?hd (cs := #[.int .i64 a0_0, .slice A0_1 l0_1.length c0_1, .int .i64 a0_2]) (t := 24) ?hr ?_; (case hd => rfl); (case hg => rfl); (case hr => first | (go_simp; done) | (go_simp; rfl)); intro gb258 hg w10 hbox hb; have n0_ := Aside0.mk (below_step (by repeat (first | (with_reducible first | exact HB.out | apply below_alloc | apply pw_below_drewN | apply below_drew1) | exact HB.out)) hb); have n1_ := Aside0.mk (hbox); have n2_ := Aside0.mk ((by rw [hg]; exact (below_size (by repeat (first | (with_reducible first | exact HB.out | apply below_alloc | apply pw_below_drewN | apply below_drew1) | exact HB.out))) : w.heap.size ≤ gb258)); have n3_ := Aside0.mk ((by rw [hg]; exact (below_size (by repeat (first | (with_reducible first | exact HB.out | apply below_alloc | apply pw_below_drewN | apply below_drew1) | exact HB.out))) : w.heap.size ≤ gb258)); clear HB; have HB := n0_; have BK258 := n1_; have GW258 := n2_; have GE258 := n3_; clear n0_ n1_ n2_ n3_; clear hb hbox hg; have hcz11_0 : w10.cell? ⟨gb258, 0, none⟩ = some (.int .i64 a0_0) := (blk_cell BK258.out 0).trans rfl; have hcz11_1 : w10.cell? ⟨gb258, 1, none⟩ = some (.slice A0_1 l0_1.length c0_1) := (blk_cell BK258.out 1).trans rfl; have hcz11_2 : w10.cell? ⟨gb258, 2, none⟩ = some (.int .i64 a0_2) := (blk_cell BK258.out 2).trans rfl; have hfz11_0 := blk_frozen BK258.out 0; have hfz11_1 := blk_frozen BK258.out 1; have hfz11_2 := blk_frozen BK258.out 2) | (go_at_call 20; (with_reducible refine (code_Check.calls k a0_0 _ _ l0_1 a0_2 t259 _ ?side1 ?side2 ?side3 A7.out).mono ?_); (case side1 => exact HG.below HGw.out (by repeat (first | (with_reducible first | exact HB.out | apply below_alloc | apply pw_below_drewN | apply below_drew1 | refine below_set ?_ GE258.out) | exact HB.out))); (case side2 => repeat (first | exact (Kd.C_below HR0_1.out HB.out) | (with_reducible refine Kd.C_alloc ?_ _) | (with_reducible refine Kd.C_drewN ?_ _) | (with_reducible refine Kd.C_drew ?_))); (case side3 => exact HC0_1.out); rintro e w12 ⟨rfl, hb⟩; have n0_ := Aside0.mk (blk_below (g := gb258) (o := .cells #[.int .i64 a0_0, .slice A0_1 l0_1.length c0_1, .int .i64 a0_2] 24 (0, 0)) (by (with_reducible repeat (first | refine blk_drewN ?_ _ | refine blk_drew ?_ | refine blk_alloc ?_ _)); exact BK258.out) hb); have n1_ := Aside0.mk (below_step (by repeat (first | (with_reducible first | exact HB.out | apply below_alloc | apply pw_below_drewN | apply below_drew1 | refine below_set ?_ GE258.out) | exact HB.out)) hb); clear BK258; clear HB; have BK258 := n0_; have HB := n1_; clear n0_ n1_; (try clear hb); (try clear hb2); (try clear hk); (try clear hi); have hcz13_0 : w12.cell? ⟨gb258, 0, none⟩ = some (.int .i64 a0_0) := (blk_cell BK258.out 0).trans rfl; have hcz13_1 : w12.cell? ⟨gb258, 1, none⟩ = some (.slice A0_1 l0_1.length c0_1) := (blk_cell BK258.out 1).trans rfl; have hcz13_2 : w12.cell? ⟨gb258, 2, none⟩ = some (.int .i64 a0_2) := (blk_cell BK258.out 2).trans rfl; have hfz13_0 := blk_frozen BK258.out 0; have hfz13_1 := blk_frozen BK258.out 1; have hfz13_2 := blk_frozen BK258.out 2))
     go_ret
     exact ⟨by first | rfl | (simp [errW_none, errW_some] <;> rfl) | (simp [*, errW_none, errW_some] <;> rfl), by repeat (first | (with_reducible first | exact HB.out | apply below_alloc | apply pw_below_drewN | apply below_drew1 | refine below_set ?_ GE258.out) | exact HB.out)⟩
   ·rw [if_neg c8] at H
    have c8b0 : (t259 == 0) = false := beq_eq_false_iff_ne.mpr c8
    have c8b1 : (t259 != 0) = true := bne_iff_ne.mpr c8
    obtain rfl := Option.some.inj H
    go_enter Tryd.func23, Tryd.ntmps23
    go_wp2_with (first | ((with_reducible refine gate_dst (N := 2) rfl ?_); refine box_event ?hg (N := 2) ?hd (cs := #[.int .i64 a0_0, .slice A0_1 l0_1.length c0_1, .int .i64 a0_2]) (t := 24) ?hr ?_; (case hd => rfl); (case hg => rfl); (case hr => first | (go_simp; done) | (go_simp; rfl)); intro gb258 hg w14 hbox hb; have n0_ := Aside0.mk (below_step (by repeat (first | (with_reducible first | exact HB.out | apply below_alloc | apply pw_below_drewN | apply below_drew1) | exact HB.out)) hb); have n1_ := Aside0.mk (hbox); have n2_ := Aside0.mk ((by rw [hg]; exact (below_size (by repeat (first | (with_reducible first | exact HB.out | apply below_alloc | apply pw_below_drewN | apply below_drew1) | exact HB.out))) : w.heap.size ≤ gb258)); have n3_ := Aside0.mk ((by rw [hg]; exact (below_size (by repeat (first | (with_reducible first | exact HB.out | apply below_alloc | apply pw_below_drewN | apply below_drew1) | exact HB.out))) : w.heap.size ≤ gb258)); clear HB; have HB := n0_; have BK258 := n1_; have GW258 := n2_; have GE258 := n3_; clear n0_ n1_ n2_ n3_; clear hb hbox hg; have hcz15_0 : w14.cell? ⟨gb258, 0, none⟩ = some (.int .i64 a0_0) := (blk_cell BK258.out 0).trans rfl; have hcz15_1 : w14.cell? ⟨gb258, 1, none⟩ = some (.slice A0_1 l0_1.length c0_1) := (blk_cell BK258.out 1).trans rfl; have hcz15_2 : w14.cell? ⟨gb258, 2, none⟩ = some (.int .i64 a0_2) := (blk_cell BK258.out 2).trans rfl; have hfz15_0 := blk_frozen BK258.out 0; have hfz15_1 := blk_frozen BK258.out 1; have hfz15_2 := blk_frozen BK258.out 2) | (go_at_call 20; (with_reducible refine (code_Check.calls k a0_0 _ _ l0_1 a0_2 t259 _ ?side1 ?side2 ?side3 A7.out).mono ?_); (case side1 => exact HG.below HGw.out (by repeat (first | (with_reducible first | exact HB.out | apply below_alloc | apply pw_below_drewN | apply below_drew1 | refine below_set ?_ GE258.out) | exact HB.out))); (case side2 => repeat (first | exact (Kd.C_below HR0_1.out HB.out) | (with_reducible refine Kd.C_alloc ?_ _) | (with_reducible refine Kd.C_drewN ?_ _) | (with_reducible refine Kd.C_drew ?_))); (case side3 => exact HC0_1.out); rintro e w16 ⟨rfl, hb⟩; have n0_ := Aside0.mk (blk_below (g := gb258) (o := .cells #[.int .i64 a0_0, .slice A0_1 l0_1.length c0_1, .int .i64 a0_2] 24 (0, 0)) (by (with_reducible repeat (first | refine blk_drewN ?_ _ | refine blk_drew ?_ | refine blk_alloc ?_ _)); exact BK258.out) hb); have n1_ := Aside0.mk (below_step (by repeat (first | (with_reducible first | exact HB.out | apply below_alloc | apply pw_below_drewN | apply below_drew1 | refine below_set ?_ GE258.out) | exact HB.out)) hb); clear BK258; clear HB; have BK258 := n0_; have HB := n1_; clear n0_ n1_; (try clear hb); (try clear hb2); (try clear hk); (try clear hi)))
    go_ret
    exact ⟨by first | rfl | (simp [errW_none, errW_some] <;> rfl) | (simp [*, errW_none, errW_some] <;> rfl), by repeat (first | (with_reducible first | exact HB.out | apply below_alloc | apply pw_below_drewN | apply below_drew1 | refine below_set ?_ GE258.out) | exact HB.out)⟩


/-! ### gf_build: function 74 -/
set_option maxHeartbeats 1000000 in
set_option maxRecDepth 100000 in
theorem gf_build.calls (n : Nat) (F : FuncId) (caps : Array Value) (g : Nat → Int) (w : World) (hn : n ≤ 140737488351232)
  (he : ∀ args W, (callFunc F args).run Tryd.prog W = .ok (.enter F args) W)
  (hF : ∀ k, k < n → ∀ W, Below w.heap.size w W → Calls Tryd.prog F (#[.int .i64 (k : Int)] ++ caps) W fun e W' => e = .returned (.int .u8 (g k)) ∧ Drawn0 W W') :
  Calls Tryd.prog 74 #[.int .i64 (n : Int), .func (.func F) #[] caps] w fun e w' => e = .returned (.string (strOfNums ((List.range n).map g))) ∧ Below w.heap.size w w' := by
 have hmk := print_make_int (P := Tryd.prog) 57 5 (.int .u8 0) 1 Tryd.underlying57 info5 rfl (by decide) (n : Int) (by omega) (by simp; omega)
 go_enter Tryd.func74, Tryd.ntmps74
 go_wp2
 go_loopw [10] (fun v W => ∃ k : Nat, k ≤ n ∧ v = .int .i64 (k : Int) ∧ Aside0 (W.heap[w.heap.size]? = some (.cells (arr .u8 (upto n g k)) 5 (0, 0))) ∧ Aside0 (Below w.heap.size w W)) (fun v _ => n - (intOf v).toNat)
 case atStart =>
  exact ⟨0, Nat.zero_le _, rfl, ⟨by rw [blk_new, made_arr, upto_zero]⟩, ⟨below_alloc (Below.refl _ _) _⟩⟩
 case round =>
  obtain ⟨k, hk, rfl, HO, HB⟩ := hrel
  have HM := Aside0.mk hmk
  clear hmk
  by_cases hlt : k < n
  ·have hkl : k < (upto n g k).length := by rw [upto_length]; exact hlt
   go_wp2_with ((with_reducible refine (hF k hlt _ HB.out).mono ?_); rintro e w' ⟨rfl, ⟨nd, rfl⟩⟩; have hcz := arr_cell (blk_drewN HO.out nd) k hkl; have hfz := blk_frozen (blk_drewN HO.out nd) k)
   go_roundw
   case rel => exact ⟨k + 1, by omega, by go_num, ⟨by rw [← upto_set, ← arr_set]; exact blk_set (blk_drewN HO.out _) _ _⟩, ⟨below_set (pw_below_drewN HB.out _) (Nat.le_refl _)⟩⟩
   case measure => simp [intOf]; omega
  ·obtain rfl : n = k := by omega
   have hl := upto_length n g n
   have hcv := string_of_reads (c := n) Tryd.underlying57 Tryd.underlying5 Tryd.underlying9 (arr_reads HO.out (by omega))
   rw [hl, upto_all] at hcv
   go_wp2
   go_ret
   exact ⟨rfl, HB.out⟩


/-! ### gf_Combine_1: function 86 -/
def gcomb (coef : List Int) (parts : List ByteArray) (k : Nat) : Nat → Int
 | 0 => 0
 | i + 1 => ixor (gcomb coef parts k i) (imul (rd coef (i : Int)) (bt (rdOf ByteArray.empty parts (i : Int)) (k : Int)))
theorem isB_comb (coef : List Int) (parts : List ByteArray) (k : Nat) (hc : coef.all isB = true) : ∀ i, i ≤ coef.length → isB (gcomb coef parts k i) = true
 | 0, _ => rfl
 | i + 1, h => isB_xor (isB_comb coef parts k hc i (by omega)) (isB_mul _ (by
   have : rd coef (i : Int) = coef[i] := by simp [rd, List.getD_eq_getElem?_getD, List.getElem?_eq_getElem (show i < coef.length by omega)]
   rw [this]; exact List.all_eq_true.1 hc _ (List.getElem_mem _)))
theorem isB_rd {coef : List Int} (hc : coef.all isB = true) (i : Nat) (h : i < coef.length) : isB (rd coef (i : Int)) = true := by
 have : rd coef (i : Int) = coef[i] := by simp [rd, List.getD_eq_getElem?_getD, List.getElem?_eq_getElem h]
 rw [this]; exact List.all_eq_true.1 hc _ (List.getElem_mem _)
set_option maxRecDepth 100000 in
theorem gf_Combine_1.calls (coef : List Int) (parts : List ByteArray) (n k : Nat) (A0 A1 : Option Addr) (c0 c1 : Nat) (p0 p1 : Nat) (w : World) (hG : HG w) (hB : coef.all isB = true) (hl : coef.length = parts.length)
  (hs : ∀ i : Nat, i < parts.length → (rdOf ByteArray.empty parts (i : Int)).size = n) (hk : k < n) (hm : n ≤ 9223372036854775807)
  (hr0 : (Kd.int .u8).C w A0 coef.length coef) (hr1 : Kd.string.C w A1 parts.length parts)
  (h0 : w.cell? ⟨p0, 0, none⟩ = some (.slice A0 coef.length c0)) (h1 : w.cell? ⟨p1, 0, none⟩ = some (.slice A1 parts.length c1)) :
  Calls Tryd.prog 86 #[.int .i64 (k : Int), .pointer (some ⟨p0, 0, none⟩), .pointer (some ⟨p1, 0, none⟩)] w fun e w' => e = .returned (.int .u8 (gcomb coef parts k coef.length)) ∧ Drawn0 w w' := by
 have hm0 := Kd.C_max hr0
 have HR0 := Aside0.mk hr0
 have HR1 := Aside0.mk hr1
 have HL := Aside0.mk hl
 have HS := Aside0.mk hs
 have HGw := Aside0.mk hG
 clear hr0 hr1 hl hs hG
 go_enter Tryd.func86, Tryd.ntmps86
 go_wp2
 go_loopw [5, 10] (fun x v W => ∃ i : Nat, i ≤ coef.length ∧ x = .int .u8 (gcomb coef parts k i) ∧ v = .int .i64 (i : Int) ∧ Drawn0 w W) (fun _ v _ => coef.length - (intOf v).toNat)
 case atStart => exact ⟨0, Nat.zero_le _, rfl, rfl, Drawn0.refl _⟩
 case round =>
  obtain ⟨i, hi, rfl, rfl, ⟨nd, rfl⟩⟩ := hrel
  by_cases hlt : i < coef.length
  ·obtain ⟨ad0, rfl, hx0⟩ := at_int_nat HR0.out i hlt
   have hlt1 : i < parts.length := by have := HL.out; omega
   obtain ⟨ad1, rfl, hx1⟩ := at_string_nat HR1.out i hlt1
   have hz := HS.out i hlt1
   have hkz : k < (rdOf ByteArray.empty parts (i : Int)).size := by omega
   clear hz
   have e1 := bt_nat (rdOf ByteArray.empty parts (i : Int)) k
   have HM := Aside0.mk (fun n => gf_Mul.mul (isB_rd hB i hlt) (isB_bt (rdOf ByteArray.empty parts (i : Int)) (k : Int)) (w.drewN n) (HGw.out.drewN n))
   have HX := Aside0.mk (bits_xor_u8 (isB_comb coef parts k hB i (by omega)) (isB_mul (bt (rdOf ByteArray.empty parts (i : Int)) (k : Int)) (isB_rd hB i hlt)))
   go_wp2_with (go_at_call 87; (with_reducible refine (HM.out _).mono ?_); rintro e w' ⟨rfl, ⟨nd2, rfl⟩⟩)
   go_roundw
   case rel => exact ⟨i + 1, by omega, by show _ = Value.int .u8 (ixor _ _); rw [← HX.out], by go_num, ⟨_, rfl⟩⟩
   case measure => simp [intOf]; omega
  ·obtain rfl : i = coef.length := by omega
   go_wp2
   go_ret
   exact ⟨rfl, ⟨_, rfl⟩⟩


/-! ### gf_Combine: function 63 -/
def sameSize (n : Nat) (parts : List ByteArray) : Bool := parts.all fun s => s.size == n
def combBytes (coef : List Int) (parts : List ByteArray) (n : Nat) : ByteArray := strOfNums ((List.range n).map fun k => gcomb coef parts k coef.length)
def partSize (parts : List ByteArray) : Nat := (parts.headD ByteArray.empty).size
def gf_Combine.f (l0 : List Int) (l1 : List ByteArray) : Option (ByteArray × Int) :=
 if l0.length = l1.length then (if l0.all isB = true ∧ partSize l1 ≤ 140737488351232 then (if sameSize (partSize l1) l1 = true then some (combBytes l0 l1 (partSize l1), 0) else some (⟨#[]⟩, 1)) else none) else some (⟨#[]⟩, 1)
theorem sameSize_iff {n : Nat} {parts : List ByteArray} : sameSize n parts = true ↔ ∀ i : Nat, i < parts.length → (rdOf ByteArray.empty parts (i : Int)).size = n := by
 have hr : ∀ i (h : i < parts.length), rdOf ByteArray.empty parts (i : Int) = parts[i] := fun i h => by simp [rdOf, List.getD_eq_getElem?_getD, List.getElem?_eq_getElem h]
 unfold sameSize
 rw [List.all_eq_true]
 constructor
 ·intro h i hi
  rw [hr i hi]
  exact eq_of_beq (h _ (List.getElem_mem hi))
 ·intro h x hx
  obtain ⟨i, hi, rfl⟩ := List.mem_iff_getElem.1 hx
  have := h i hi
  rw [hr i hi] at this
  exact beq_iff_eq.2 this
theorem partSize_zero {parts : List ByteArray} (h : 0 < parts.length) : (rdOf ByteArray.empty parts ((0 : Nat) : Int)).size = partSize parts := by
 cases parts with
 | nil => simp at h
 | cons a l => rfl
theorem enters86 : ∀ args W, (callFunc 86 args).run Tryd.prog W = .ok (.enter 86 args) W := enters_of Tryd.func86 (by kernel_rfl) rfl
set_option maxRecDepth 100000 in
theorem gf_Combine.calls (A0 : Option Addr) (c0 : Nat) (l0 : List Int) (A1 : Option Addr) (c1 : Nat) (l1 : List ByteArray) (r1 : ByteArray) (r2 : Int) (w : World) (hG : HG w) (hr0 : Kd.C (Kd.int .u8) w A0 l0.length l0) (hc0 : l0.length ≤ c0) (hr1 : Kd.C Kd.string w A1 l1.length l1) (hc1 : l1.length ≤ c1) (h : gf_Combine.f l0 l1 = some (r1, r2)) :
  Calls Tryd.prog 63 #[.slice A0 l0.length c0, .slice A1 l1.length c1] w fun e w' => e = .returned (.tuple #[.string r1, .int .i64 r2]) ∧ Below w.heap.size w w' := by
 have hm0 := Kd.C_max hr0
 have hm1 := Kd.C_max hr1
 unfold gf_Combine.f at h
 by_cases hl : l0.length = l1.length
 ·rw [if_pos hl] at h
  by_cases hB : l0.all isB = true ∧ partSize l1 ≤ 140737488351232
  ·rw [if_pos hB] at h
   obtain ⟨hB, hP⟩ := hB
   have hd : ((l0.length : Int) != (l1.length : Int)) = false := by rw [hl]; simp
   have hd2 : (l0.length != l1.length) = false := by rw [hl]; simp
   have key : ∀ W, Below w.heap.size w W → sameSize (partSize l1) l1 = true → ∀ px py, W.cell? ⟨px, 0, none⟩ = some (.slice A0 l0.length c0) → W.cell? ⟨py, 0, none⟩ = some (.slice A1 l1.length c1) →
     Calls Tryd.prog 74 #[.int .i64 (partSize l1 : Int), .func (.func 86) #[] #[.pointer (some ⟨px, 0, none⟩), .pointer (some ⟨py, 0, none⟩)]] W fun e w' => e = .returned (.string (combBytes l0 l1 (partSize l1))) ∧ Below W.heap.size W w' :=
    fun W hb hs px py hx hy => gf_build.calls (partSize l1) _ _ (fun k => gcomb l0 l1 k l0.length) W hP enters86 fun k hk W' hb' => gf_Combine_1.calls l0 l1 (partSize l1) k A0 A1 c0 c1 px py W' ((hG.below hb).below hb') hB hl (sameSize_iff.1 hs) hk (by omega) (Kd.C_below (Kd.C_below hr0 hb) hb') (Kd.C_below (Kd.C_below hr1 hb) hb') (pw_cell_below hb' hx) (pw_cell_below hb' hy)
   have HK := Aside0.mk key
   have HR1 := Aside0.mk hr1
   have hmf := run_mf Tryd.prog
   have HH := Aside0.mk h
   clear key hr0 hr1 hl h hB
   go_enter Tryd.func63, Tryd.ntmps63
   go_wp2
   go_loop [6, 16] (fun x v => ∃ i : Nat, i ≤ l1.length ∧ v = .int .i64 (i : Int) ∧ x = .int .i64 (if i = 0 then 0 else (partSize l1 : Int)) ∧ Aside0 (∀ j : Nat, j < i → (rdOf ByteArray.empty l1 (j : Int)).size = partSize l1)) (fun _ v => l1.length - (intOf v).toNat)
   case atStart => exact ⟨0, Nat.zero_le _, rfl, rfl, ⟨fun j hj => absurd hj (Nat.not_lt_zero j)⟩⟩
   case round =>
    obtain ⟨i, hi, rfl, rfl, HA⟩ := hrel
    by_cases hlt : i < l1.length
    ·obtain ⟨ad1, rfl, hx1⟩ := at_string_nat HR1.out i hlt
     have hx2 : ((w.alloc (.cells #[.slice A0 l0.length c0] 57)).alloc (.cells #[.slice (some ad1) l1.length c1] 32)).cell? (ad1.add i) = some (.string (rdOf ByteArray.empty l1 (i : Int))) :=
      pw_cell_below (below_alloc (below_alloc (Below.refl _ _) _) _) hx1
     clear hx1
     by_cases h0 : i = 0
     ·subst h0
      have hz := partSize_zero hlt
      generalize hq : rdOf ByteArray.empty l1 ((0 : Nat) : Int) = q at hx2 hz
      have HQ := Aside0.mk hq
      have HZ := Aside0.mk hz
      have hz1 : ((q.size : Int) != (q.size : Int)) = false := by simp
      rw [show ad1.add 0 = ad1 by unfold Addr.add; rfl] at hx2
      clear hq hz
      go_wp2
      go_round
      case rel => exact ⟨1, by omega, by go_num, by rw [if_neg (by decide), ← HZ.out], ⟨fun j hj => by
       have e : j = 0 := (by omega)
       subst e
       exact (congrArg ByteArray.size HQ.out).trans HZ.out⟩⟩
      case measure => simp [intOf]; omega
     ·rw [if_neg h0]
      have h0b : ((i : Int) == 0) = false := by simpa using h0
      by_cases hz : (rdOf ByteArray.empty l1 (i : Int)).size = partSize l1
      ·generalize hq : rdOf ByteArray.empty l1 (i : Int) = q at hx2 hz
       have HQ := Aside0.mk hq
       have HZ := Aside0.mk hz
       have hz1 : ((q.size : Int) != (partSize l1 : Int)) = false := by rw [hz]; simp
       have hz2 : (q.size != partSize l1) = false := by rw [hz]; simp
       clear hq hz
       go_wp2
       go_round
       case rel => exact ⟨i + 1, by omega, by go_num, by rw [if_neg (by omega)], ⟨fun j hj => by
        rcases Nat.lt_or_eq_of_le (Nat.le_of_lt_succ hj) with hj | rfl
        ·exact HA.out j hj
        ·rw [HQ.out]; exact HZ.out⟩⟩
       case measure => simp [intOf]; omega
      ·have hs : ¬ sameSize (partSize l1) l1 = true := fun hs => hz (sameSize_iff.1 hs i hlt)
       have h := HH.out
       rw [if_neg hs] at h
       obtain ⟨rfl, rfl⟩ := Prod.mk.inj (Option.some.inj h)
       generalize rdOf ByteArray.empty l1 (i : Int) = q at hx2 hz
       have hz2 : (q.size == partSize l1) = false := by simpa using hz
       have hz1 : ((q.size : Int) == (partSize l1 : Int)) = false := beq_eq_false_iff_ne.2 (fun h_ => hz (by omega))
       clear h HH hz hs HK
       go_wp2
       go_ret2
       exact ⟨rfl, below_alloc (below_alloc (Below.refl _ _) _) _⟩
    ·obtain rfl : i = l1.length := by omega
     have hs : sameSize (partSize l1) l1 = true := sameSize_iff.2 HA.out
     have h := HH.out
     rw [if_pos hs] at h
     obtain ⟨rfl, rfl⟩ := Prod.mk.inj (Option.some.inj h)
     have hp : (if l1.length = 0 then (0 : Int) else (partSize l1 : Int)) = (partSize l1 : Int) := by
      split
      ·rename_i h0; rw [List.eq_nil_of_length_eq_zero h0]; rfl
      ·rfl
     rw [hp]
     have HS := Aside0.mk hs
     clear h HH hp hs
     go_wp2_with (go_at_call 74; refine (HK.out _ ?b HS.out _ _ ?c1 ?c2).mono ?_; (case b => (repeat (first | exact Below.refl _ _ | apply below_alloc))); (case c1 => (go_simp; done)); (case c2 => (go_simp; done)); rintro e w' ⟨rfl, hb'⟩)
     go_ret2
     exact ⟨rfl, below_step (by repeat (first | exact Below.refl _ _ | apply below_alloc)) hb'⟩
  ·rw [if_neg hB] at h
   cases h
 ·rw [if_neg hl] at h
  obtain ⟨rfl, rfl⟩ := Prod.mk.inj (Option.some.inj h)
  have hd2 : (l0.length == l1.length) = false := by simpa using hl
  clear hl h hG hr0 hr1
  go_enter Tryd.func63, Tryd.ntmps63
  go_wp2
  go_ret2
  exact ⟨rfl, below_alloc (below_alloc (Below.refl _ _) _) _⟩


/-! ### code_Encode: function 18 -/
theorem exec_copy {P : Program} {o : Oper} {a : Act} {W W' : World} (d s : Operand) (t t' : TypeId) (ho : o.op = .call { callee := .builtin .copy, args := #[d, s], argTypes := #[t, t'] }) (v u : Value) (hd : a.eval d = v) (hs : a.eval s = u) {v' : Value}
  (hr : (Builtin.copy_ #[t, t'] o.type #[v, u]).run P W = .ok v' W') : (execOp a.eval o).run P W = .ok (.value v') W' := by
 unfold execOp
 simp only [ho, resolve, invoke, builtin, Sem.run_bind, Sem.run_pure, Result.andThen_ok, List.map_toArray, List.map_cons, List.map_nil, hd, hs, hr]
/-- The bytes of a string, and zeros behind them. -/
def padTo (s : ByteArray) (n : Nat) : List Int := (List.range n).map fun i => if i < s.size then bt s (i : Int) else 0
theorem padTo_length (s : ByteArray) (n : Nat) : (padTo s n).length = n := by simp [padTo]
theorem run_copy_pad {P : Program} (w : World) (dT sT ty elem g n : Nat) (s : ByteArray) (t : TypeId) (hu : P.underlying dT = some (.slice elem)) (hs : (P.info? elem).map (·.size) = some 1)
  (hg : w.heap[g]? = some (.cells (arr .u8 (List.replicate n 0)) t (0, 0))) (hle : s.size ≤ n) :
  ∃ w', (Builtin.copy_ #[dT, sT] ty #[.slice (some ⟨g, 0, none⟩) n n, .string s]).run P w = .ok (goInt s.size) w' ∧ w'.heap[g]? = some (.cells (arr .u8 (padTo s n)) t (0, 0)) ∧ ∀ w0 : World, Below w0.heap.size w0 w → w0.heap.size ≤ g → Below w0.heap.size w0 w' := by
 have h := Go.Lib.run_copy_row_string (P := P) w dT sT ty elem g 0 n n s _ t hu hs hg hle (by rw [arr_size]; simp; omega)
 refine ⟨_, h, ?_, fun w0 hb hle0 => ⟨hb.os, hb.tape, hb.output, by rw [setRow_size]; exact hb.size, fun k hk => (setRow_other _ _ _ _ (by omega)).trans (hb.block k hk)⟩⟩
 rw [setRow_heap w g _ _ t (0, 0) hg]
 congr 2
 apply Array.ext_getElem?
 intro i
 simp only [arr, nums, padTo, Go.Lib.byteCells, List.take_zero, List.nil_append, Nat.zero_add, List.getElem?_toArray]
 have hz : s.data.toList.length = s.size := Array.length_toList
 by_cases h1 : i < s.size
 ·rw [List.getElem?_append_left (by simpa [hz] using h1), List.getElem?_map, List.getElem?_map, List.getElem?_map, List.getElem?_range (by omega), List.getElem?_eq_getElem (by omega)]
  simp only [Option.map_some, if_pos h1]
  rw [← bt_nat s i h1]
  rfl
 ·rw [List.getElem?_append_right (by simp [hz]; omega)]
  simp only [List.length_map, hz, List.getElem?_drop, List.getElem?_map]
  by_cases h2 : i < n
  ·rw [List.getElem?_range h2]
   simp only [Option.map_some, if_neg h1]
   have : s.size + (i - s.size) = i := by omega
   rw [this]
   simp [h2]
  ·have : s.size + (i - s.size) = i := by omega
   rw [this, List.getElem?_eq_none (by simp; omega)]
   rw [List.getElem?_eq_none (show (List.range n).length ≤ i by simp; omega)]
   rfl

def partOf (s : ByteArray) (size i : Nat) : ByteArray := strOfNums ((List.range size).map fun j => if i * size + j < s.size then bt s ((i * size + j : Nat) : Int) else 0)
def partsOf (s : ByteArray) (size n : Nat) : List ByteArray := (List.range n).map (partOf s size)
def combRows (parts : List ByteArray) : List (List Int) → Option (List ByteArray)
 | [] => some []
 | r :: l => (gf_Combine.f r parts).bind fun x => (combRows parts l).bind fun o => some (x.1 :: o)
def encodeWith (d size : Nat) (rows : List (List Int)) (s : ByteArray) : Option (List ByteArray × Int) :=
 if d ≤ 16 ∧ s.size ≤ d * size ∧ size ≤ 4096 ∧ rows.length ≤ 100 then (combRows (partsOf s size d) rows).bind fun o => some (o, 0) else none
def code_Encode.f (k : Nat) (a0_0 : Int) (l0_1 : List (List Int)) (a0_2 : Int) (a1 : ByteArray) : Option (List ByteArray × Int) :=
 (code_Rows.f k a0_0 l0_1 a0_2).bind fun r => if r.2 = 0 then (if (a1.size : Int) > 4096 then some ([], 2) else (code_Size.f k a0_0 l0_1 a0_2 (a1.size : Int)).bind fun size => if 0 ≤ a0_0 ∧ 0 ≤ size then encodeWith a0_0.toNat size.toNat r.1 a1 else none) else some ([], r.2)
theorem partsOf_succ (s : ByteArray) (size n : Nat) : partsOf s size (n + 1) = partsOf s size n ++ [partOf s size n] := by simp [partsOf, List.range_succ]
theorem at_bytes_nat {w : World} {A : Option Addr} {n : Nat} {xs : List (List Int)} (h : Kd.C (Kd.slice 5 (Kd.int .u8)) w A n xs) (k : Nat) (hk : k < n) : ∃ ad A0 c0, A = some ad ∧ w.cell? (ad.add k) = some (.slice A0 (rd_L4 xs (k : Int)).length c0) ∧ (rd_L4 xs (k : Int)).length ≤ c0 ∧ (Kd.int .u8).C w A0 (rd_L4 xs (k : Int)).length (rd_L4 xs (k : Int)) := by
 obtain ⟨ad, A0, c0, e, h1, h2, h3⟩ := at_L4 h (k : Int) (by omega) (by omega)
 exact ⟨ad, A0, c0, e, by rwa [Int.toNat_natCast] at h1, h2, h3⟩
set_option maxHeartbeats 4000000 in
set_option maxRecDepth 100000 in
theorem code_Encode.calls (k : Nat) (a0_0 : Int) (A0_1 : Option Addr) (c0_1 : Nat) (l0_1 : List (List Int)) (a0_2 : Int) (a1 : ByteArray) (r1 : List ByteArray) (r2 : Int) (w : World) (hG : HG w) (hr0_1 : Kd.C (Kd.slice 3 (Kd.int .i64)) w A0_1 l0_1.length l0_1) (hc0_1 : l0_1.length ≤ c0_1) (h : code_Encode.f k a0_0 l0_1 a0_2 a1 = some (r1, r2)) :
  Calls Tryd.prog 18 #[.agg #[.int .i64 a0_0, .slice A0_1 l0_1.length c0_1, .int .i64 a0_2], .string a1] w fun e w' => ∃ v0_ : Value, e = .returned (.tuple #[v0_, .int .i64 r2]) ∧ Kd.R Kd.string 9 w' w.heap.size (fun _ => True) v0_ r1 ∧ Below w.heap.size w w' := by
 obtain ⟨⟨rows, e0⟩, hrows, h2⟩ := Option.bind_eq_some_iff.1 h
 have HRW := Aside0.mk (fun W (hb : Below w.heap.size w W) => code_Rows.calls k a0_0 A0_1 c0_1 l0_1 a0_2 rows e0 W (hG.below hb) (Kd.C_below hr0_1 hb) hc0_1 hrows)
 have hu24 := Tryd.underlying24
 clear hrows h
 by_cases he0 : e0 = 0
 ·subst he0
  rw [if_pos rfl] at h2
  by_cases hbig : (a1.size : Int) > 4096
  ·rw [if_pos hbig] at h2
   obtain ⟨rfl, rfl⟩ := Prod.mk.inj (Option.some.inj h2)
   clear h2 hG hr0_1
   go_enter Tryd.func18, Tryd.ntmps18
   go_wp2_with (go_at_call 17; (with_reducible refine (HRW.out _ (by repeat (first | exact Below.refl _ _ | apply below_alloc))).mono ?_); rintro e w1 ⟨v0, rfl, hS, hb1⟩; have HB1 := Aside0.mk hb1; clear hS hb1)
   go_ret2
   exact ⟨_, rfl, Kd.R_nil _ _ _ _ _, below_step (below_alloc (Below.refl _ _) _) HB1.out⟩
  ·rw [if_neg hbig] at h2
   obtain ⟨size0, hsz, h3⟩ := Option.bind_eq_some_iff.1 h2
   by_cases hpos : 0 ≤ a0_0 ∧ 0 ≤ size0
   ·rw [if_pos hpos] at h3
    obtain ⟨d, rfl⟩ := Int.eq_ofNat_of_zero_le hpos.1
    obtain ⟨size, rfl⟩ := Int.eq_ofNat_of_zero_le hpos.2
    rw [Int.toNat_natCast, Int.toNat_natCast] at h3
    unfold encodeWith at h3
    by_cases hok : d ≤ 16 ∧ a1.size ≤ d * size ∧ size ≤ 4096 ∧ rows.length ≤ 100
    ·rw [if_pos hok] at h3
     obtain ⟨o, ho, h4⟩ := Option.bind_eq_some_iff.1 h3
     obtain ⟨rfl, rfl⟩ := Prod.mk.inj (Option.some.inj h4)
     have HSZ := Aside0.mk (fun W (hb : Below w.heap.size w W) => code_Size.calls k (d : Int) A0_1 c0_1 l0_1 a0_2 (a1.size : Int) (size : Int) W (hG.below hb) (Kd.C_below hr0_1 hb) hc0_1 hsz)
     obtain ⟨hd16, hfit, hs4, hrl⟩ := hok
     have hds : d * size ≤ 16 * 4096 := Nat.mul_le_mul hd16 hs4
     have HGw := Aside0.mk hG
     have HO := Aside0.mk ho
     obtain ⟨N, hN⟩ : ∃ N : Nat, N = d * size := ⟨_, rfl⟩
     have hw1 : wrap64 ((d : Int) * (size : Int)) = (N : Int) := by
      have e : ((d : Int) * (size : Int)) = ((d * size : Nat) : Int) := by simp
      rw [e, hN]; unfold wrap64; omega
     rw [← hN] at hfit hds
     have HN := Aside0.mk hN
     clear hN
     have hmk : ∀ W : World, (Instr.makeSlice 57 (.int .i64 (N : Int)) (.int .i64 (N : Int))).run Tryd.prog W = .ok (.slice (some ⟨W.heap.size, 0, none⟩) N N) (W.alloc (.cells (arr .u8 (List.replicate N 0)) 5)) := by
      intro W
      have := print_make_int (P := Tryd.prog) 57 5 (.int .u8 0) 1 Tryd.underlying57 info5 rfl (by decide) (N : Int) (by omega) (by simp; omega) W
      rw [Int.toNat_natCast, made_arr] at this
      exact this
     have hi5 : (Tryd.prog.info? 5).map (·.size) = some 1 := by
      have := congrArg (Option.map (fun x : Option Value × Nat × Nat => x.2.1)) info5
      rw [Option.map_map] at this
      exact this
     clear h2 h3 h4 hG hr0_1 hsz ho
     go_enter Tryd.func18, Tryd.ntmps18
     go_wp2_with (first | (go_at_call 17; (with_reducible refine (HRW.out _ (by repeat (first | exact Below.refl _ _ | apply below_alloc))).mono ?_); rintro e w1 ⟨v0, rfl, hS, hb1⟩; obtain ⟨Ar, cr, rfl, hcr, hCr⟩ := Kd.S_reads hS; have HCR := Aside0.mk hCr; have hbc : w1.heap[w.heap.size]? = some (.cells #[.int .i64 (d : Int), .slice A0_1 l0_1.length c0_1, .int .i64 a0_2] 24 (0, 0)) := blk_below (blk_new w _) hb1; have HBC := Aside0.mk hbc; have HB1 := Aside0.mk (below_step (below_alloc (Below.refl w.heap.size w) _) hb1); have hcz0 : w1.cell? ⟨w.heap.size, 0, none⟩ = some (.int .i64 (d : Int)) := blk_cell hbc 0; have hcz1 : w1.cell? ⟨w.heap.size, 1, none⟩ = some (.slice A0_1 l0_1.length c0_1) := blk_cell hbc 1; have hcz2 : w1.cell? ⟨w.heap.size, 2, none⟩ = some (.int .i64 a0_2) := blk_cell hbc 2; have hlt1 : w.heap.size < w1.heap.size := blk_lt hbc; clear hbc hb1 hS hCr) | (go_at_call 23; (with_reducible refine (HSZ.out _ HB1.out).mono ?_); rintro e w2 ⟨rfl, hb2⟩; have hbc := blk_below HBC.out hb2; have HBC2 := Aside0.mk hbc; have HB2 := Aside0.mk (below_step HB1.out hb2); have HBS := Aside0.mk hb2; have hcy0 : w2.cell? ⟨w.heap.size, 0, none⟩ = some (.int .i64 (d : Int)) := blk_cell hbc 0; have hlt2 : w.heap.size < w2.heap.size := blk_lt hbc; clear hbc hb2) | (obtain ⟨w3, hr3, hg3, hB3⟩ := run_copy_pad (P := Tryd.prog) (w2.alloc (.cells (arr .u8 (List.replicate N 0)) 5)) 57 9 3 5 w2.heap.size N a1 5 Tryd.underlying57 hi5 (blk_new _ _) hfit; refine Kd.event_run rfl (exec_copy (.tmp 37) (.tmp 38) 57 9 rfl _ _ rfl rfl hr3) ?_; have HG3 := Aside0.mk hg3; have HB3 := Aside0.mk (hB3 w (below_alloc HB2.out _) (by have := HB2.out.size; omega)); have HB3' := Aside0.mk (hB3 w2 (below_alloc (Below.refl _ _) _) (Nat.le_refl _)); have hbc := blk_below HBC2.out HB3'.out; have HBC3 := Aside0.mk hbc; have hcx0 : w3.cell? ⟨w.heap.size, 0, none⟩ = some (.int .i64 (d : Int)) := blk_cell hbc 0; clear hr3 hg3 hB3 hbc))
     have hI0 := Aside0.mk (Kd.R_nil Kd.string 9 w3 w3.heap.size (fun _ => True))
     have HLU := Aside0.mk hds
     clear hcx0
     go_loopw [10, 42] (fun v x W => ∃ n : Nat, n ≤ d ∧ x = .int .i64 (n : Int) ∧ Aside0 (Kd.R Kd.string 9 W w3.heap.size (fun _ => True) v (partsOf a1 size n)) ∧ Aside0 (Below w3.heap.size w3 W)) (fun _ x _ => d - (intOf x).toNat)
     case atStart => exact ⟨0, Nat.zero_le _, rfl, hI0, ⟨Below.refl _ _⟩⟩
     case round =>
      clear hI0 hw1
      obtain ⟨n, hn', rfl, HR, HB⟩ := hrel
      have HG := Aside0.mk (blk_below HG3.out HB.out)
      by_cases hlt : n < d
      ·obtain ⟨lo, hlo⟩ : ∃ lo : Nat, lo = n * size := ⟨_, rfl⟩
       obtain ⟨hi, hhi⟩ : ∃ hi : Nat, hi = (n + 1) * size := ⟨_, rfl⟩
       have h1 : hi = lo + size := by rw [hlo, hhi, Nat.succ_mul]
       have h2 : hi ≤ N := by rw [hhi, HN.out]; exact Nat.mul_le_mul_right _ hlt
       have HW2 := Aside0.mk (show wrap64 ((n : Int) * (size : Int)) = (lo : Int) by
        have e : ((n : Int) * (size : Int)) = ((n * size : Nat) : Int) := by simp
        rw [e, ← hlo]; unfold wrap64; omega)
       have HW3 := Aside0.mk (show wrap64 (((n : Int) + 1) * (size : Int)) = (hi : Int) by
        have e : (((n : Int) + 1) * (size : Int)) = (((n + 1) * size : Nat) : Int) := by simp
        rw [e, ← hhi]; unfold wrap64; omega)
       obtain ⟨i5, hi5a, hi5b⟩ := Option.map_eq_some_iff.1 hi5
       have hcut := cut_mid (P := Tryd.prog) 57 5 .i64 .i64 Tryd.underlying57 hi5a 1 hi5b (some ⟨w2.heap.size, 0, none⟩) N N (lo : Int) (hi : Int) (by omega) (by omega) (by omega) (Nat.le_refl _)
       have hC := Kd.C_mid (c := N) (lo := lo) (hi := hi) (arr_C HG.out (by rw [padTo_length]; omega)) (by omega) (by rw [padTo_length]; exact h2) (by rw [padTo_length]; exact Nat.le_refl _)
       rw [Int.toNat_natCast, Int.toNat_natCast] at hcut
       have hk1 : (Kd.int .u8).sz = 1 := rfl
       rw [hk1] at hC
       generalize (if N = lo then some (⟨w2.heap.size, 0, none⟩ : Addr) else (some (⟨w2.heap.size, 0, none⟩ : Addr)).map (·.add (lo * 1))) = A' at hcut hC
       have hpl : (((padTo a1 N).take hi).drop lo).length = hi - lo := by rw [List.length_drop, List.length_take, padTo_length]; omega
       have hpart : strOfNums (((padTo a1 N).take hi).drop lo) = partOf a1 size n := by
        unfold partOf
        congr 1
        apply List.ext_getElem?
        intro j
        rw [List.getElem?_drop, List.getElem?_take, ← hlo]
        by_cases hj : j < size
        ·rw [if_pos (by omega)]
         simp only [padTo, List.getElem?_map]
         rw [List.getElem?_range (by omega), List.getElem?_range hj]
         rfl
        ·rw [if_neg (by omega), List.getElem?_eq_none (by simp; omega)]
       rw [hpl] at hC
       have hcv := Kd.C_string (P := Tryd.prog) (c := N - lo) Tryd.underlying57 Tryd.underlying5 Tryd.underlying9 hC
       rw [hpart] at hcv
       have h1' : lo ≤ hi := by omega
       have hw2 := HW2.out
       have hw3 := HW3.out
       clear hlo hhi hC hpl hpart hk1 hi5a hi5b h1 HW2 HW3
       go_wp2_with (at_builtin; refine Kd.R_append Kd.string (w0 := w3) w3.heap.size rfl (.tmp 45) (.tmp 56) 32 9 (.string ⟨#[]⟩) 16 rfl Tryd.underlying32 info9 rfl (by decide) (by omega) u10 (partsOf a1 size n) (partOf a1 size n) [.string (partOf a1 size n)] (fun _ => True) (fun _ => False) rfl rfl ?aP (fun _ hk => hk.elim) ?aF ?aO ?aB ?aS ?aL ?_; (case aP => exact rfl); (case aB => exact HB.out); (case aF => exact (fun _ _ => trivial)); (case aO => exact HR.out); (case aS => exact HB.out.size); (case aL => (have := HLU.out; simp [partsOf]; omega)); intro v1 w4 ho hb hg hat; have HR1 := Aside0.mk ho; have HB1' := Aside0.mk hb; clear ho hb hg hat)
       exact ⟨⟨n + 1, by omega, by go_num, ⟨by rw [partsOf_succ]; exact HR1.out⟩, HB1'⟩, by simp [intOf]; omega⟩
      ·obtain rfl : n = d := by omega
       obtain ⟨Ap, cp, rfl, hcp, hCp⟩ := Kd.R_reads HR.out
       have HCP := Aside0.mk hCp
       have hpl : (partsOf a1 size n).length = n := by simp [partsOf]
       rw [hpl] at hcp
       have HPL := Aside0.mk hpl
       have HBX := Aside0.mk (below_step (below_step HBS.out (HB3'.out)) HB.out)
       obtain ⟨wo, rfl⟩ : ∃ wo : World, wo = wr := ⟨_, rfl⟩
       clear hCp hpl HG
       go_wp2
       go_loopw [11, 61] (fun v x W => ∃ (m : Nat) (xs rest : List ByteArray), m ≤ rows.length ∧ x = .int .i64 (m : Int) ∧ Aside0 (xs.length = m ∧ combRows (partsOf a1 size n) (rows.drop m) = some rest ∧ xs ++ rest = o) ∧ Aside0 (Kd.R Kd.string 9 W wo.heap.size (fun _ => True) v xs) ∧ Aside0 (Below wo.heap.size wo W)) (fun _ x _ => rows.length - (intOf x).toNat)
       case atStart => exact ⟨0, [], o, Nat.zero_le _, rfl, ⟨rfl, by rw [List.drop_zero]; exact HO.out, rfl⟩, ⟨Kd.R_nil _ _ _ _ _⟩, ⟨Below.refl _ _⟩⟩
       case round =>
        obtain ⟨m, xs, rest, hm', rfl, HX, HR2, HB2'⟩ := hrel
        by_cases hlt2 : m < rows.length
        ·obtain ⟨ad, A0, c0, rfl, hx0, hx1, hx2⟩ := at_bytes_nat HCR.out m hlt2
         have hx0 := pw_cell_below HB2'.out (pw_cell_below HBX.out hx0)
         have HX2 := Aside0.mk (Kd.C_below (Kd.C_below hx2 HBX.out) HB2'.out)
         have HP2 := Aside0.mk (Kd.C_below HCP.out HB2'.out)
         have hcomb := HX.out.2.1
         have hdrop : rows.drop m = rd_L4 rows (m : Int) :: rows.drop (m + 1) := by
          rw [List.drop_eq_getElem_cons hlt2]
          simp [rd_L4, List.getD_eq_getElem?_getD, List.getElem?_eq_getElem hlt2]
         rw [hdrop] at hcomb
         generalize hq : rd_L4 rows (m : Int) = q at hx0 hx1 hcomb HX2
         obtain ⟨⟨s1, e1⟩, hc1, hc2⟩ := Option.bind_eq_some_iff.1 hcomb
         obtain ⟨o1, hc3, hc4⟩ := Option.bind_eq_some_iff.1 hc2
         have HC4 := Aside0.mk (Option.some.inj hc4)
         have HC3 := Aside0.mk hc3
         have HGG := Aside0.mk (HGw.out.below (below_step HB3.out (below_step HB.out HB2'.out)))
         have HCB := Aside0.mk (gf_Combine.calls A0 c0 q Ap cp (partsOf a1 size n) s1 e1 wr HGG.out HX2.out hx1 HP2.out (by rw [HPL.out]; exact hcp) hc1)
         have hle : xs.length < 100 := by have := HX.out.1; omega
         clear hx2 hcomb hdrop hc1 hc2 hc3 hc4 hq
         go_wp2_with (first | (go_at_call 63; (with_reducible refine HCB.out.mono ?_); rintro e w5 ⟨rfl, hb5⟩; have HB5 := Aside0.mk hb5; have HR5 := Aside0.mk (Kd.R_below HR2.out hb5); clear hb5) | (at_builtin; refine Kd.R_append Kd.string (w0 := wo) wo.heap.size rfl (.tmp 71) (.tmp 73) 32 9 (.string ⟨#[]⟩) 16 rfl Tryd.underlying32 info9 rfl (by decide) (by omega) u11 xs s1 [.string s1] (fun _ => True) (fun _ => False) rfl rfl ?aP2 (fun _ hk => hk.elim) ?aF2 ?aO2 ?aB2 ?aS2 ?aL2 ?_; (case aP2 => exact rfl); (case aB2 => exact below_step HB2'.out HB5.out); (case aF2 => exact (fun _ _ => trivial)); (case aO2 => exact HR5.out); (case aS2 => exact (below_step HB2'.out HB5.out).size); (case aL2 => omega); intro v1 w4 ho hb hg hat; have HR1 := Aside0.mk ho; have HB1' := Aside0.mk hb; clear ho hb hg hat))
         exact ⟨⟨m + 1, xs ++ [s1], o1, by omega, by go_num, ⟨by rw [List.length_append, HX.out.1]; rfl, HC3.out, by rw [← HX.out.2.2, ← HC4.out, List.append_assoc]; rfl⟩, HR1, HB1'⟩, by simp [intOf]; omega⟩
        ·obtain rfl : m = rows.length := by omega
         have hx := HX.out
         rw [List.drop_length] at hx
         obtain ⟨hx1, hx2, hx3⟩ := hx
         obtain rfl := Option.some.inj hx2
         rw [List.append_nil] at hx3
         subst hx3
         clear HX hx1 hx2
         go_wp2
         go_ret2
         exact ⟨_, rfl, Kd.R_lower HR2.out (below_step HB3.out HB.out).size, below_step (below_step HB3.out HB.out) HB2'.out⟩
    ·rw [if_neg hok] at h3
     cases h3
   ·rw [if_neg hpos] at h3
    cases h3
 ·rw [if_neg he0] at h2
  obtain ⟨rfl, rfl⟩ := Prod.mk.inj (Option.some.inj h2)
  have he1 : (e0 == 0) = false := beq_eq_false_iff_ne.2 he0
  clear h2 hG hr0_1
  go_enter Tryd.func18, Tryd.ntmps18
  go_wp2_with (go_at_call 17; (with_reducible refine (HRW.out _ (by repeat (first | exact Below.refl _ _ | apply below_alloc))).mono ?_); rintro e w1 ⟨v0, rfl, hS, hb1⟩; have HB1 := Aside0.mk hb1; clear hS hb1)
  go_ret2
  exact ⟨_, rfl, Kd.R_nil _ _ _ _ _, below_step (below_alloc (Below.refl _ _) _) HB1.out⟩


/-! ### code_Pieces: function 21 -/
def code_Pieces.f (k : Nat) (a0_0 : Int) (l0_1 : List (List Int)) (a0_2 : Int) : Option (Int) := (code_Check.f k a0_0 l0_1 a0_2).bind fun t261 => (if t261 = 0 then (some (wrap64 ((wrap64 (a0_0 + (l0_1.length : Int))) + a0_2))) else (some 0))
set_option maxHeartbeats 8000000 in
set_option maxRecDepth 100000 in
theorem code_Pieces.calls (k : Nat) (a0_0 : Int) (A0_1 : Option Addr) (c0_1 : Nat) (l0_1 : List (List Int)) (a0_2 : Int) (r : Int) (w : World) (hG : HG w) (hr0_1 : Kd.C (Kd.slice 3 (Kd.int .i64)) w A0_1 l0_1.length l0_1) (hc0_1 : l0_1.length ≤ c0_1) (h : code_Pieces.f k a0_0 l0_1 a0_2 = some r) :
  Calls Tryd.prog 21 #[.agg #[.int .i64 a0_0, .slice A0_1 l0_1.length c0_1, .int .i64 a0_2]] w fun e w' => e = .returned (.int .i64 r) ∧ Below w.heap.size w w' := by
 have HGw := Aside0.mk hG
 clear hG
 have hu24 := Tryd.underlying24
 have HR0_1 := Aside0.mk hr0_1
 have HC0_1 := Aside0.mk hc0_1
 clear hr0_1 hc0_1
 have HB := Aside0.mk (Below.refl w.heap.size w)
 have H : ((code_Check.f k a0_0 l0_1 a0_2).bind fun t261 => (if t261 = 0 then (some (wrap64 ((wrap64 (a0_0 + (l0_1.length : Int))) + a0_2))) else (some 0))) = some r := h
 clear h
 replace H := Option.bind_eq_some_iff.mp H
 obtain ⟨t261, A20, H⟩ := H
 replace H : (if t261 = 0 then (some (wrap64 ((wrap64 (a0_0 + (l0_1.length : Int))) + a0_2))) else (some 0)) = some r := H
 have A2 := Aside0.mk A20
 clear A20
 by_cases c3 : t261 = 0
 ·rw [if_pos c3] at H
  have c3b0 : (t261 == 0) = true := beq_iff_eq.mpr c3
  have c3b1 : (t261 != 0) = false := bne_eq_false_iff_eq.mpr c3
  clear c3
  obtain rfl := Option.some.inj H
  go_enter Tryd.func21, Tryd.ntmps21
  go_wp2_with (first | ((with_reducible refine gate_dst (N := 1) rfl ?_); refine box_event ?hg (N := 1) ?hd (cs := #[.int .i64 a0_0, .slice A0_1 l0_1.length c0_1, .int .i64 a0_2]) (t := 24) ?hr ?_; (case hd => rfl); (case hg => rfl); (case hr => first | (go_simp; done) | (go_simp; rfl)); intro gb260 hg w4 hbox hb; have n0_ := Aside0.mk (below_step (by repeat (first | (with_reducible first | exact HB.out | apply below_alloc | apply pw_below_drewN | apply below_drew1) | exact HB.out)) hb); have n1_ := Aside0.mk (hbox); have n2_ := Aside0.mk ((by rw [hg]; exact (below_size (by repeat (first | (with_reducible first | exact HB.out | apply below_alloc | apply pw_below_drewN | apply below_drew1) | exact HB.out))) : w.heap.size ≤ gb260)); have n3_ := Aside0.mk ((by rw [hg]; exact (below_size (by repeat (first | (with_reducible first | exact HB.out | apply below_alloc | apply pw_below_drewN | apply below_drew1) | exact HB.out))) : w.heap.size ≤ gb260)); clear HB; have HB := n0_; have BK260 := n1_; have GW260 := n2_; have GE260 := n3_; clear n0_ n1_ n2_ n3_; clear hb hbox hg; have hcz5_0 : w4.cell? ⟨gb260, 0, none⟩ = some (.int .i64 a0_0) := (blk_cell BK260.out 0).trans rfl; have hcz5_1 : w4.cell? ⟨gb260, 1, none⟩ = some (.slice A0_1 l0_1.length c0_1) := (blk_cell BK260.out 1).trans rfl; have hcz5_2 : w4.cell? ⟨gb260, 2, none⟩ = some (.int .i64 a0_2) := (blk_cell BK260.out 2).trans rfl; have hfz5_0 := blk_frozen BK260.out 0; have hfz5_1 := blk_frozen BK260.out 1; have hfz5_2 := blk_frozen BK260.out 2) | ((with_reducible refine gate_callee (f := 20) rfl ?_); refine goesL_ (some 4) rfl rfl Tryd.func20 (by kernel_rfl) rfl #[.agg #[.int .i64 a0_0, .slice A0_1 l0_1.length c0_1, .int .i64 a0_2]] rfl (by (try simp only [List.map_toArray, List.map_cons, List.map_nil]); first | done | rfl | (simp only [List.length_drop, List.length_take]; rfl)) ?_; (with_reducible refine (code_Check.calls k a0_0 _ _ l0_1 a0_2 t261 _ ?side1 ?side2 ?side3 A2.out).mono ?_); (case side1 => exact HG.below HGw.out (by repeat (first | (with_reducible first | exact HB.out | apply below_alloc | apply pw_below_drewN | apply below_drew1 | refine below_set ?_ GE260.out) | exact HB.out))); (case side2 => repeat (first | exact (Kd.C_below HR0_1.out HB.out) | (with_reducible refine Kd.C_alloc ?_ _) | (with_reducible refine Kd.C_drewN ?_ _) | (with_reducible refine Kd.C_drew ?_))); (case side3 => exact HC0_1.out); rintro e w6 ⟨rfl, hb⟩; refine ⟨_, rfl, ?_⟩; have n0_ := Aside0.mk (blk_below (g := gb260) (o := .cells #[.int .i64 a0_0, .slice A0_1 l0_1.length c0_1, .int .i64 a0_2] 24 (0, 0)) (by (with_reducible repeat (first | refine blk_drewN ?_ _ | refine blk_drew ?_ | refine blk_alloc ?_ _)); exact BK260.out) hb); have n1_ := Aside0.mk (below_step (by repeat (first | (with_reducible first | exact HB.out | apply below_alloc | apply pw_below_drewN | apply below_drew1 | refine below_set ?_ GE260.out) | exact HB.out)) hb); clear BK260; clear HB; have BK260 := n0_; have HB := n1_; clear n0_ n1_; (try clear hb); (try clear hb2); (try clear hk); (try clear hi); have hcz7_0 : w6.cell? ⟨gb260, 0, none⟩ = some (.int .i64 a0_0) := (blk_cell BK260.out 0).trans rfl; have hcz7_1 : w6.cell? ⟨gb260, 1, none⟩ = some (.slice A0_1 l0_1.length c0_1) := (blk_cell BK260.out 1).trans rfl; have hcz7_2 : w6.cell? ⟨gb260, 2, none⟩ = some (.int .i64 a0_2) := (blk_cell BK260.out 2).trans rfl; have hfz7_0 := blk_frozen BK260.out 0; have hfz7_1 := blk_frozen BK260.out 1; have hfz7_2 := blk_frozen BK260.out 2))
  go_ret
  exact ⟨by first | rfl | (simp [errW_none, errW_some] <;> rfl) | (simp [*, errW_none, errW_some] <;> rfl), by repeat (first | (with_reducible first | exact HB.out | apply below_alloc | apply pw_below_drewN | apply below_drew1 | refine below_set ?_ GE260.out) | exact HB.out)⟩
 ·rw [if_neg c3] at H
  have c3b0 : (t261 == 0) = false := beq_eq_false_iff_ne.mpr c3
  have c3b1 : (t261 != 0) = true := bne_iff_ne.mpr c3
  obtain rfl := Option.some.inj H
  go_enter Tryd.func21, Tryd.ntmps21
  go_wp2_with (first | ((with_reducible refine gate_dst (N := 1) rfl ?_); refine box_event ?hg (N := 1) ?hd (cs := #[.int .i64 a0_0, .slice A0_1 l0_1.length c0_1, .int .i64 a0_2]) (t := 24) ?hr ?_; (case hd => rfl); (case hg => rfl); (case hr => first | (go_simp; done) | (go_simp; rfl)); intro gb260 hg w8 hbox hb; have n0_ := Aside0.mk (below_step (by repeat (first | (with_reducible first | exact HB.out | apply below_alloc | apply pw_below_drewN | apply below_drew1) | exact HB.out)) hb); have n1_ := Aside0.mk (hbox); have n2_ := Aside0.mk ((by rw [hg]; exact (below_size (by repeat (first | (with_reducible first | exact HB.out | apply below_alloc | apply pw_below_drewN | apply below_drew1) | exact HB.out))) : w.heap.size ≤ gb260)); have n3_ := Aside0.mk ((by rw [hg]; exact (below_size (by repeat (first | (with_reducible first | exact HB.out | apply below_alloc | apply pw_below_drewN | apply below_drew1) | exact HB.out))) : w.heap.size ≤ gb260)); clear HB; have HB := n0_; have BK260 := n1_; have GW260 := n2_; have GE260 := n3_; clear n0_ n1_ n2_ n3_; clear hb hbox hg; have hcz9_0 : w8.cell? ⟨gb260, 0, none⟩ = some (.int .i64 a0_0) := (blk_cell BK260.out 0).trans rfl; have hcz9_1 : w8.cell? ⟨gb260, 1, none⟩ = some (.slice A0_1 l0_1.length c0_1) := (blk_cell BK260.out 1).trans rfl; have hcz9_2 : w8.cell? ⟨gb260, 2, none⟩ = some (.int .i64 a0_2) := (blk_cell BK260.out 2).trans rfl; have hfz9_0 := blk_frozen BK260.out 0; have hfz9_1 := blk_frozen BK260.out 1; have hfz9_2 := blk_frozen BK260.out 2) | ((with_reducible refine gate_callee (f := 20) rfl ?_); refine goesL_ (some 4) rfl rfl Tryd.func20 (by kernel_rfl) rfl #[.agg #[.int .i64 a0_0, .slice A0_1 l0_1.length c0_1, .int .i64 a0_2]] rfl (by (try simp only [List.map_toArray, List.map_cons, List.map_nil]); first | done | rfl | (simp only [List.length_drop, List.length_take]; rfl)) ?_; (with_reducible refine (code_Check.calls k a0_0 _ _ l0_1 a0_2 t261 _ ?side1 ?side2 ?side3 A2.out).mono ?_); (case side1 => exact HG.below HGw.out (by repeat (first | (with_reducible first | exact HB.out | apply below_alloc | apply pw_below_drewN | apply below_drew1 | refine below_set ?_ GE260.out) | exact HB.out))); (case side2 => repeat (first | exact (Kd.C_below HR0_1.out HB.out) | (with_reducible refine Kd.C_alloc ?_ _) | (with_reducible refine Kd.C_drewN ?_ _) | (with_reducible refine Kd.C_drew ?_))); (case side3 => exact HC0_1.out); rintro e w10 ⟨rfl, hb⟩; refine ⟨_, rfl, ?_⟩; have n0_ := Aside0.mk (blk_below (g := gb260) (o := .cells #[.int .i64 a0_0, .slice A0_1 l0_1.length c0_1, .int .i64 a0_2] 24 (0, 0)) (by (with_reducible repeat (first | refine blk_drewN ?_ _ | refine blk_drew ?_ | refine blk_alloc ?_ _)); exact BK260.out) hb); have n1_ := Aside0.mk (below_step (by repeat (first | (with_reducible first | exact HB.out | apply below_alloc | apply pw_below_drewN | apply below_drew1 | refine below_set ?_ GE260.out) | exact HB.out)) hb); clear BK260; clear HB; have BK260 := n0_; have HB := n1_; clear n0_ n1_; (try clear hb); (try clear hb2); (try clear hk); (try clear hi)))
  go_ret
  exact ⟨by first | rfl | (simp [errW_none, errW_some] <;> rfl) | (simp [*, errW_none, errW_some] <;> rfl), by repeat (first | (with_reducible first | exact HB.out | apply below_alloc | apply pw_below_drewN | apply below_drew1 | refine below_set ?_ GE260.out) | exact HB.out)⟩


/-! ### quietuslaw07_example: function 56 -/
def quietuslaw07_example.f  : Option (Int × (List (List Int)) × Int) := some (4, (([(([0, 1] : List Int)), (([2, 3] : List Int))] : List (List Int))), 1)
set_option maxHeartbeats 8000000 in
set_option maxRecDepth 100000 in
theorem quietuslaw07_example.calls  (r1 : Int) (r2 : List (List Int)) (r3 : Int) (w : World) (hG : HG w) (h : quietuslaw07_example.f  = some (r1, r2, r3)) :
  Calls Tryd.prog 56 #[] w fun e w' => ∃ v1_ : Value, e = .returned (.agg #[.int .i64 r1, v1_, .int .i64 r3]) ∧ Kd.N (Kd.slice 3 (Kd.int .i64)) 60 w' w.heap.size (fun k_ => (w.heap.size ≤ k_)) v1_ r2 ∧ Below w.heap.size w w' := by
 have HGw := Aside0.mk hG
 clear hG
 have hu24 := Tryd.underlying24
 have HB := Aside0.mk (Below.refl w.heap.size w)
 have H : (some (4, (([(([0, 1] : List Int)), (([2, 3] : List Int))] : List (List Int))), 1)) = some (r1, r2, r3) := h
 clear h
 obtain ⟨y235, hy235⟩ : ∃ y_ : List Int, y_ = (([0, 1] : List Int)) := ⟨_, rfl⟩
 replace H : (some (4, (([y235, (([2, 3] : List Int))] : List (List Int))), 1)) = some (r1, r2, r3) := by first | (rw [hy235]; with_reducible exact H) | (have H2_ := (Option.bind_some _ _).symm.trans H; rw [hy235]; with_reducible exact H2_) | (have H2_ := (Option.bind_some _ _).symm.trans H; with_reducible exact H2_) | with_reducible exact H | (rw [hy235]; exact H) | exact H
 have Ny235 := Aside0.mk hy235
 clear hy235
 obtain ⟨y238, hy238⟩ : ∃ y_ : List Int, y_ = (([2, 3] : List Int)) := ⟨_, rfl⟩
 replace H : (some (4, (([y235, y238] : List (List Int))), 1)) = some (r1, r2, r3) := by first | (rw [hy238]; with_reducible exact H) | (have H2_ := (Option.bind_some _ _).symm.trans H; rw [hy238]; with_reducible exact H2_) | (have H2_ := (Option.bind_some _ _).symm.trans H; with_reducible exact H2_) | with_reducible exact H | (rw [hy238]; exact H) | exact H
 have Ny238 := Aside0.mk hy238
 clear hy238
 obtain ⟨y241, hy241⟩ : ∃ y_ : List (List Int), y_ = (([y235, y238] : List (List Int))) := ⟨_, rfl⟩
 replace H : (some (4, y241, 1)) = some (r1, r2, r3) := by first | (rw [hy241]; with_reducible exact H) | (have H2_ := (Option.bind_some _ _).symm.trans H; rw [hy241]; with_reducible exact H2_) | (have H2_ := (Option.bind_some _ _).symm.trans H; with_reducible exact H2_) | with_reducible exact H | (rw [hy241]; exact H) | exact H
 have Ny241 := Aside0.mk hy241
 clear hy241
 simp only [Option.some.injEq, Prod.mk.injEq] at H
 obtain ⟨rfl, rfl, rfl⟩ := H
 go_enter Tryd.func56, Tryd.ntmps56
 go_wp2_with (first | ((with_reducible refine gate_dst (N := 0) rfl ?_); refine box_event ?hg (N := 0) ?hd (cs := #[.int .i64 0, .slice none 0 0, .int .i64 0]) (t := 24) ?hr ?_; (case hd => rfl); (case hg => rfl); (case hr => first | (go_simp; done) | (go_simp; rfl)); intro gb234 hg w1 hbox hb; have n0_ := Aside0.mk (below_step (by repeat (first | (with_reducible first | exact HB.out | apply below_alloc | apply pw_below_drewN | apply below_drew1) | exact HB.out)) hb); have n1_ := Aside0.mk (hbox); have n2_ := Aside0.mk ((by rw [hg]; exact (below_size (by repeat (first | (with_reducible first | exact HB.out | apply below_alloc | apply pw_below_drewN | apply below_drew1) | exact HB.out))) : w.heap.size ≤ gb234)); have n3_ := Aside0.mk ((by rw [hg]; exact (below_size (by repeat (first | (with_reducible first | exact HB.out | apply below_alloc | apply pw_below_drewN | apply below_drew1) | exact HB.out))) : w.heap.size ≤ gb234)); clear HB; have HB := n0_; have BK234 := n1_; have GW234 := n2_; have GE234 := n3_; clear n0_ n1_ n2_ n3_; clear hb hbox hg) | ((with_reducible refine gate_dst (N := 1) rfl ?_); refine Kd.R_lit (Kd.int .i64) _ 3 ?hg (N := 1) ?hd (xs := ([0, 1] : List Int)) (inner := [.int .i64 0, .int .i64 1]) (ok := fun _ => True) (okp := fun _ => True) ?hr ?hp (fun _ hk => hk) trivial (Below.refl _ _) (Nat.le_refl _) (by simp) ?_; (case hd => rfl); (case hg => rfl); (case hr => first | (go_simp; done) | (go_simp; rfl)); (case hp => exact (Reps.one (show Kd.M (Kd.int .i64) _ _ _ 0 [.int .i64 0] from rfl) (Reps.one (show Kd.M (Kd.int .i64) _ _ _ 1 [.int .i64 1] from rfl) (Reps.none _ _)))); intro v236 w2 ho3 hb hg_ hnew_; clear hg_ hnew_; (first | rw [← Ny235.out] at ho3 | (simp only [Int.reduceToNat] at ho3; rw [← Ny235.out] at ho3)); have n0_ := Aside0.mk (Kd.R_lower (Kd.R_newM (M := fun k_ => (w.heap.size ≤ k_)) ho3 (below_size (by repeat (first | (with_reducible first | exact HB.out | apply below_alloc | apply pw_below_drewN | apply below_drew1 | refine below_set ?_ GE234.out) | exact HB.out))) (fun k_ h_ => h_)) (below_size (by repeat (first | (with_reducible first | exact HB.out | apply below_alloc | apply pw_below_drewN | apply below_drew1 | refine below_set ?_ GE234.out) | exact HB.out)))); have n1_ := Aside0.mk (blk_below (g := gb234) (o := .cells #[.int .i64 0, .slice none 0 0, .int .i64 0] 24 (0, 0)) (by (with_reducible repeat (first | refine blk_drewN ?_ _ | refine blk_drew ?_ | refine blk_alloc ?_ _)); exact BK234.out) hb); have n2_ := Aside0.mk (below_step (by repeat (first | (with_reducible first | exact HB.out | apply below_alloc | apply pw_below_drewN | apply below_drew1 | refine below_set ?_ GE234.out) | exact HB.out)) hb); clear BK234; clear HB; have HO237 := n0_; have BK234 := n1_; have HB := n2_; clear n0_ n1_ n2_; clear hb ho3) | ((with_reducible refine gate_dst (N := 2) rfl ?_); refine Kd.R_lit (Kd.int .i64) _ 3 ?hg (N := 2) ?hd (xs := ([2, 3] : List Int)) (inner := [.int .i64 2, .int .i64 3]) (ok := fun _ => True) (okp := fun _ => True) ?hr ?hp (fun _ hk => hk) trivial (Below.refl _ _) (Nat.le_refl _) (by simp) ?_; (case hd => rfl); (case hg => rfl); (case hr => first | (go_simp; done) | (go_simp; rfl)); (case hp => exact (Reps.one (show Kd.M (Kd.int .i64) _ _ _ 2 [.int .i64 2] from rfl) (Reps.one (show Kd.M (Kd.int .i64) _ _ _ 3 [.int .i64 3] from rfl) (Reps.none _ _)))); intro v239 w4 ho5 hb hg_ hnew_; clear hg_ hnew_; (first | rw [← Ny238.out] at ho5 | (simp only [Int.reduceToNat] at ho5; rw [← Ny238.out] at ho5)); have n0_ := Aside0.mk (Kd.R_elder' (by (with_reducible repeat (first | apply Kd.R_alloc | apply Kd.R_drewN | apply Kd.R_drew)); exact HO237.out) (Kd.R_base ho5) hb); have n1_ := Aside0.mk (Kd.R_lower (Kd.R_new' (Kd.R_newM (M := fun k_ => (w.heap.size ≤ k_)) ho5 (below_size (by repeat (first | (with_reducible first | exact HB.out | apply below_alloc | apply pw_below_drewN | apply below_drew1 | refine below_set ?_ GE234.out) | exact HB.out))) (fun k_ h_ => h_)) (Kd.R_lt (by (with_reducible repeat (first | apply Kd.R_alloc | apply Kd.R_drewN | apply Kd.R_drew)); exact HO237.out))) (below_size (by repeat (first | (with_reducible first | exact HB.out | apply below_alloc | apply pw_below_drewN | apply below_drew1 | refine below_set ?_ GE234.out) | exact HB.out)))); have n2_ := Aside0.mk (blk_below (g := gb234) (o := .cells #[.int .i64 0, .slice none 0 0, .int .i64 0] 24 (0, 0)) (by (with_reducible repeat (first | refine blk_drewN ?_ _ | refine blk_drew ?_ | refine blk_alloc ?_ _)); exact BK234.out) hb); have n3_ := Aside0.mk (below_step (by repeat (first | (with_reducible first | exact HB.out | apply below_alloc | apply pw_below_drewN | apply below_drew1 | refine below_set ?_ GE234.out) | exact HB.out)) hb); clear HO237; clear BK234; clear HB; have HO237 := n0_; have HO240 := n1_; have BK234 := n2_; have HB := n3_; clear n0_ n1_ n2_ n3_; clear hb ho5; obtain ⟨Ao6, co6, eo6⟩ := Kd.R_slice HO237.out; subst eo6; obtain ⟨Ao7, co7, eo7⟩ := Kd.R_slice HO240.out; subst eo7) | ((with_reducible refine gate_dst (N := 3) rfl ?_); refine Kd.N_lit (Kd.slice 3 (Kd.int .i64)) _ 60 ?hg (N' := 3) ?hd (xs := ([y235, y238] : List (List Int))) (inner := [.slice Ao6 y235.length co6, .slice Ao7 y238.length co7]) (ok := (fun k_ => (w.heap.size ≤ k_) ∧ k_ ≠ gb234)) (okp := (fun k_ => (w.heap.size ≤ k_) ∧ k_ ≠ gb234)) ?hr ?hp (fun _ hk => hk) ((show ∀ k_, w4.heap.size ≤ k_ → (fun k_ => (w.heap.size ≤ k_) ∧ k_ ≠ gb234) k_ from fun k_ hk => ⟨(Nat.le_trans (below_size (by repeat (first | (with_reducible first | exact HB.out | apply below_alloc | apply pw_below_drewN | apply below_drew1 | refine below_set ?_ GE234.out) | exact HB.out))) hk), Kd.freshB (g := gb234) (o := .cells #[.int .i64 0, .slice none 0 0, .int .i64 0] 24 (0, 0)) (by (with_reducible repeat (first | refine blk_drewN ?_ _ | refine blk_drew ?_ | refine blk_alloc ?_ _)); exact BK234.out) k_ hk⟩) _ (Nat.le_refl _)) (Below.refl _ _) (Nat.le_refl _) (by simp) ?_; (case hd => rfl); (case hg => rfl); (case hr => first | (go_simp; done) | (go_simp; rfl)); (case hp => exact (Reps.one (show Kd.FK (Kd.slice 3 (Kd.int .i64)) _ _ y235 [.slice Ao6 y235.length co6] from (Kd.FK_slice_mk (Kd.R_reads' (Kd.R_mono (ok' := (fun k_ => (w.heap.size ≤ k_) ∧ k_ ≠ gb234)) (Kd.R_types (HO237.out) BK234.out (by decide)) (fun k_ hk => ⟨hk.1.1.1, hk.2⟩))).2.1 (Kd.R_F (Kd.R_mono (ok' := (fun k_ => (w.heap.size ≤ k_) ∧ k_ ≠ gb234)) (Kd.R_types (HO237.out) BK234.out (by decide)) (fun k_ hk => ⟨hk.1.1.1, hk.2⟩))))) (Reps.one (show Kd.FK (Kd.slice 3 (Kd.int .i64)) _ _ y238 [.slice Ao7 y238.length co7] from (Kd.FK_slice_mk (Kd.R_reads' (Kd.R_mono (ok' := (fun k_ => (w.heap.size ≤ k_) ∧ k_ ≠ gb234)) (Kd.R_types (HO240.out) BK234.out (by decide)) (fun k_ hk => ⟨hk.1.1.1, hk.2⟩))).2.1 (Kd.R_F (Kd.R_mono (ok' := (fun k_ => (w.heap.size ≤ k_) ∧ k_ ≠ gb234)) (Kd.R_types (HO240.out) BK234.out (by decide)) (fun k_ hk => ⟨hk.1.1.1, hk.2⟩))))) (Reps.none _ _)))); intro v242 w8 ho9 hb hg_ hnew_; clear hg_ hnew_; (first | rw [← Ny241.out] at ho9 | (simp only [Int.reduceToNat] at ho9; rw [← Ny241.out] at ho9)); have n0_ := Aside0.mk (Kd.N_lower ho9 (below_size (by repeat (first | (with_reducible first | exact HB.out | apply below_alloc | apply pw_below_drewN | apply below_drew1 | refine below_set ?_ GE234.out) | exact HB.out)))); have n1_ := Aside0.mk (blk_below (g := gb234) (o := .cells #[.int .i64 0, .slice none 0 0, .int .i64 0] 24 (0, 0)) (by (with_reducible repeat (first | refine blk_drewN ?_ _ | refine blk_drew ?_ | refine blk_alloc ?_ _)); exact BK234.out) hb); have n2_ := Aside0.mk (below_step (by repeat (first | (with_reducible first | exact HB.out | apply below_alloc | apply pw_below_drewN | apply below_drew1 | refine below_set ?_ GE234.out) | exact HB.out)) hb); clear BK234; clear HB; clear HO237; clear HO240; have HO243 := n0_; have BK234 := n1_; have HB := n2_; clear n0_ n1_ n2_; clear hb ho9; obtain ⟨Ao10, co10, eo10⟩ := Kd.N_slice HO243.out; subst eo10; have hcz11_0 : w8.cell? ⟨gb234, 0, none⟩ = some (.int .i64 0) := (blk_cell BK234.out 0).trans rfl; have hcz11_1 : w8.cell? ⟨gb234, 1, none⟩ = some (.slice none 0 0) := (blk_cell BK234.out 1).trans rfl; have hcz11_2 : w8.cell? ⟨gb234, 2, none⟩ = some (.int .i64 0) := (blk_cell BK234.out 2).trans rfl; have hfz11_0 := blk_frozen BK234.out 0; have hfz11_1 := blk_frozen BK234.out 1; have hfz11_2 := blk_frozen BK234.out 2))
 refine bodyPost_ret (results_cell_row rfl _ _ gb234 24 #[.int .i64 4, .slice Ao10 y241.length co10, .int .i64 1] (0, 0) _ rfl (by (with_reducible repeat (first | refine blk_drewN ?_ _ | refine blk_drew ?_ | refine blk_alloc ?_ _)); refine blk_put (cs := #[.int .i64 4, .slice Ao10 y241.length co10, .int .i64 0]) ?_ 2 _ rfl; (with_reducible repeat (first | refine blk_drewN ?_ _ | refine blk_drew ?_ | refine blk_alloc ?_ _)); refine blk_put (cs := #[.int .i64 4, .slice none 0 0, .int .i64 0]) ?_ 1 _ rfl; (with_reducible repeat (first | refine blk_drewN ?_ _ | refine blk_drew ?_ | refine blk_alloc ?_ _)); refine blk_put (cs := #[.int .i64 0, .slice none 0 0, .int .i64 0]) ?_ 0 _ rfl; (with_reducible repeat (first | refine blk_drewN ?_ _ | refine blk_drew ?_ | refine blk_alloc ?_ _)); exact BK234.out) Tryd.underlying24 rfl (by kernel_rfl)) rfl ?_
 exact ⟨_, by first | rfl | (simp [errW_none, errW_some] <;> rfl) | (simp [*, errW_none, errW_some] <;> rfl), by (with_reducible repeat (first | apply Kd.N_alloc | apply Kd.N_drewN | apply Kd.N_drew)); exact Kd.N_mono (Kd.N_far (p := ⟨gb234, 2, none⟩) (Kd.N_far (p := ⟨gb234, 1, none⟩) (Kd.N_far (p := ⟨gb234, 0, none⟩) (Kd.N_mono HO243.out (fun k_ hk => (⟨hk, hk.2⟩ : _ ∧ k_ ≠ gb234))) (fun _ hk => hk.2) (.int .i64 4)) (fun _ hk => hk.2) (.slice Ao10 y241.length co10)) (fun _ hk => hk.2) (.int .i64 1)) (fun _ hk => hk.1.1), by repeat (first | (with_reducible first | exact HB.out | apply below_alloc | apply pw_below_drewN | apply below_drew1 | refine below_set ?_ GE234.out) | exact HB.out)⟩


/-! ### gf_Sum: function 36 -/
def sumBytes (x y : ByteArray) : ByteArray := strOfNums ((List.range x.size).map (gsum x y))
def gf_Sum.f (a0 a1 : ByteArray) : Option ByteArray := if a0.size ≤ 140737488351232 ∧ a1.size ≤ 140737488351232 then some (if a0.size < a1.size then sumBytes a1 a0 else sumBytes a0 a1) else none
theorem enters75 : ∀ args W, (callFunc 75 args).run Tryd.prog W = .ok (.enter 75 args) W := enters_of Tryd.func75 (by kernel_rfl) rfl
set_option maxRecDepth 100000 in
theorem gf_Sum.calls (a0 a1 : ByteArray) (r : ByteArray) (w : World) (hG : HG w) (h : gf_Sum.f a0 a1 = some r) :
  Calls Tryd.prog 36 #[.string a0, .string a1] w fun e w' => e = .returned (.string r) ∧ Below w.heap.size w w' := by
 unfold gf_Sum.f at h
 by_cases hs : a0.size ≤ 140737488351232 ∧ a1.size ≤ 140737488351232
 ·rw [if_pos hs] at h
  obtain ⟨hs0, hs1⟩ := hs
  obtain rfl := Option.some.inj h
  clear h hG
  have hmf := run_mf Tryd.prog
  have hE := enters75
  have HE := Aside0.mk hE
  clear hE
  by_cases hlt : a0.size < a1.size
  ·rw [if_pos hlt]
   have key : ∀ W, Below w.heap.size w W → ∀ px py, W.cell? ⟨px, 0, none⟩ = some (.string a1) → W.cell? ⟨py, 0, none⟩ = some (.string a0) →
     Calls Tryd.prog 74 #[.int .i64 (a1.size : Int), .func (.func 75) #[] #[.pointer (some ⟨py, 0, none⟩), .pointer (some ⟨px, 0, none⟩)]] W fun e w' => e = .returned (.string (sumBytes a1 a0)) ∧ Below W.heap.size W w' :=
    fun W hB px py hx hy => gf_build.calls a1.size _ _ (gsum a1 a0) W hs1 HE.out fun k hk W' hb => gf_Sum_1.calls a1 a0 px py k W' hk hs1 (pw_cell_below hb hx) (pw_cell_below hb hy)
   have HK := Aside0.mk key
   clear key HE
   go_enter Tryd.func36, Tryd.ntmps36
   go_wp2_with (go_at_call 74; refine (HK.out _ ?b _ _ ?c1 ?c2).mono ?_; (case b => (repeat (first | exact Below.refl _ _ | apply below_alloc))); (case c1 => (go_simp; done)); (case c2 => (go_simp; done)); rintro e w' ⟨rfl, hb'⟩)
   go_ret
   exact ⟨rfl, below_step (by repeat (first | exact Below.refl _ _ | apply below_alloc)) hb'⟩
  ·rw [if_neg hlt]
   have key : ∀ W, Below w.heap.size w W → ∀ px py, W.cell? ⟨px, 0, none⟩ = some (.string a0) → W.cell? ⟨py, 0, none⟩ = some (.string a1) →
     Calls Tryd.prog 74 #[.int .i64 (a0.size : Int), .func (.func 75) #[] #[.pointer (some ⟨py, 0, none⟩), .pointer (some ⟨px, 0, none⟩)]] W fun e w' => e = .returned (.string (sumBytes a0 a1)) ∧ Below W.heap.size W w' :=
    fun W hB px py hx hy => gf_build.calls a0.size _ _ (gsum a0 a1) W hs0 HE.out fun k hk W' hb => gf_Sum_1.calls a0 a1 px py k W' hk hs0 (pw_cell_below hb hx) (pw_cell_below hb hy)
   have HK := Aside0.mk key
   clear key HE
   go_enter Tryd.func36, Tryd.ntmps36
   go_wp2_with (go_at_call 74; refine (HK.out _ ?b _ _ ?c1 ?c2).mono ?_; (case b => (repeat (first | exact Below.refl _ _ | apply below_alloc))); (case c1 => (go_simp; done)); (case c2 => (go_simp; done)); rintro e w' ⟨rfl, hb'⟩)
   go_ret
   exact ⟨rfl, below_step (by repeat (first | exact Below.refl _ _ | apply below_alloc)) hb'⟩
 ·rw [if_neg hs] at h
  cases h


/-! ### code_first: function 92 -/
def code_first.l0 : Nat → List Int → List Int → Int → Int → Option (Int)
 | 0, _, _, _, _ => none
 | k + 1, x0, x5, x6, x7 => if x7 < x6 then (if 0 ≤ x7 then (if x7 < (x5.length : Int) then (if (rd x5 x7) = 0 then (code_first.l0 k x0 x5 x6 (wrap64 (x7 + 1))) else (some x7)) else (none)) else (none)) else (some (x0.length : Int))
def code_first.f (k : Nat) (l0 : List Int) : Option (Int) := code_first.l0 k l0 l0 (l0.length : Int) 0
set_option maxHeartbeats 8000000 in
set_option maxRecDepth 100000 in
theorem code_first.calls (k : Nat) (A0 : Option Addr) (c0 : Nat) (l0 : List Int) (r : Int) (w : World) (hG : HG w) (hr0 : Kd.C (Kd.int .u8) w A0 l0.length l0) (hc0 : l0.length ≤ c0) (h : code_first.f k l0 = some r) :
  Calls Tryd.prog 92 #[.slice A0 l0.length c0] w fun e w' => e = .returned (.int .i64 r) ∧ Drawn0 w w' := by
 have HGw := Aside0.mk hG
 clear hG
 have HR0 := Aside0.mk hr0
 have HC0 := Aside0.mk hc0
 clear hr0 hc0
 have H : (code_first.l0 k l0 l0 (l0.length : Int) 0) = some r := h
 clear h
 have H' := Aside0.mk H
 clear H
 go_enter Tryd.func92, Tryd.ntmps92
 go_wp2
 go_loopg [7] k (fun kq v7 w' => ∃ (x7_1 : Int), v7 = .int .i64 x7_1 ∧ Aside0 (code_first.l0 kq l0 l0 (l0.length : Int) x7_1 = some r) ∧ Aside0 (kq ≤ k) ∧ Drawn0 w w')
 case atStart => exact ⟨(0), (by first | rfl | (simp; done) | (simp [*]; done)), H', ⟨Nat.le_refl _⟩, by repeat (first | exact Drawn0.refl _ | apply Drawn0.step)⟩
 case round =>
  clear H'
  obtain ⟨x7_1, rfl, HA, HK1, ⟨m1, rfl⟩⟩ := hrel
  cases gk with
  | zero => exact absurd HA.out (by simp [code_first.l0])
  | succ k1 =>
   have H := HA.out
   clear HA
   simp only [code_first.l0] at H
   by_cases c2 : x7_1 < (l0.length : Int)
   ·rw [if_pos c2] at H
    have c2b0 : decide (x7_1 < (l0.length : Int)) = true := decide_eq_true c2
    clear c2
    by_cases c3 : 0 ≤ x7_1
    ·rw [if_pos c3] at H
     have c3b0 : decide (0 ≤ x7_1) = true := decide_eq_true c3
     clear c3
     by_cases c4 : x7_1 < (l0.length : Int)
     ·rw [if_pos c4] at H
      have c4b0 : decide (x7_1 < (l0.length : Int)) = true := decide_eq_true c4
      clear c4
      by_cases c5 : (rd l0 x7_1) = 0
      ·rw [if_pos c5] at H
       have c5b0 : ((rd l0 x7_1) == 0) = true := beq_iff_eq.mpr c5
       have c5b1 : ((rd l0 x7_1) != 0) = false := bne_eq_false_iff_eq.mpr c5
       clear c5
       have H' := Aside0.mk H
       clear H
       have p262 : 0 ≤ (x7_1 : Int) := of_decide_eq_true (by first | (with_reducible assumption) | assumption)
       have q262 : x7_1 < (l0.length : Int) := of_decide_eq_true (by first | (with_reducible assumption) | assumption)
       obtain ⟨ad262, e262, hx262_0⟩ := Kd.at_int HR0.out x7_1 p262 q262
       cases e262
       replace p262 := eq_true p262
       replace q262 := eq_true q262
       go_wp2
       go_roundg k1
       case measure => have := HK1.out; omega
       case rel => exact ⟨(wrap64 (x7_1 + 1)), (by first | rfl | (simp; done) | (simp [*]; done)), H', ⟨by have := HK1.out; omega⟩, by repeat (first | exact Drawn0.refl _ | apply Drawn0.step)⟩
      ·rw [if_neg c5] at H
       have c5b0 : ((rd l0 x7_1) == 0) = false := beq_eq_false_iff_ne.mpr c5
       have c5b1 : ((rd l0 x7_1) != 0) = true := bne_iff_ne.mpr c5
       obtain rfl := Option.some.inj H
       have p262 : 0 ≤ (x7_1 : Int) := of_decide_eq_true (by first | (with_reducible assumption) | assumption)
       have q262 : x7_1 < (l0.length : Int) := of_decide_eq_true (by first | (with_reducible assumption) | assumption)
       obtain ⟨ad262, e262, hx262_0⟩ := Kd.at_int HR0.out x7_1 p262 q262
       cases e262
       replace p262 := eq_true p262
       replace q262 := eq_true q262
       go_wp2
       go_ret
       exact ⟨by first | rfl | (simp; done) | (simp [*]; done), by repeat (first | exact Drawn0.refl _ | apply Drawn0.step)⟩
     ·rw [if_neg c4] at H
      exact absurd H (by simp)
    ·rw [if_neg c3] at H
     exact absurd H (by simp)
   ·rw [if_neg c2] at H
    have c2b0 : decide (x7_1 < (l0.length : Int)) = false := decide_eq_false c2
    clear c2
    obtain rfl := Option.some.inj H
    go_wp2
    go_ret
    exact ⟨by first | rfl | (simp; done) | (simp [*]; done), by repeat (first | exact Drawn0.refl _ | apply Drawn0.step)⟩


/-! ### gf_Scale: function 106 -/
def gscale (c : Int) (s : ByteArray) (k : Nat) : Int := imul c (bt s (k : Int))
def scaleBytes (c : Int) (s : ByteArray) : ByteArray := strOfNums ((List.range s.size).map (gscale c s))
def gf_Scale.f (a0 : Int) (a1 : ByteArray) : Option ByteArray := if isB a0 = true ∧ a1.size ≤ 140737488351232 then some (scaleBytes a0 a1) else none
theorem enters109 : ∀ args W, (callFunc 109 args).run Tryd.prog W = .ok (.enter 109 args) W := enters_of Tryd.func109 (by kernel_rfl) rfl
set_option maxRecDepth 100000 in
theorem gf_Scale_1.calls (c : Int) (s : ByteArray) (pc ps : Nat) (k : Nat) (w : World) (hG : HG w) (hB : isB c = true) (hk : k < s.size) (hm : s.size ≤ 140737488351232)
  (hc : w.cell? ⟨pc, 0, none⟩ = some (.int .u8 c)) (hs : w.cell? ⟨ps, 0, none⟩ = some (.string s)) :
  Calls Tryd.prog 109 #[.int .i64 (k : Int), .pointer (some ⟨pc, 0, none⟩), .pointer (some ⟨ps, 0, none⟩)] w fun e w' => e = .returned (.int .u8 (gscale c s k)) ∧ Drawn0 w w' := by
 have e1 := bt_nat s k
 have HM := Aside0.mk (fun n => gf_Mul.mul hB (isB_bt s (k : Int)) (w.drewN n) (hG.drewN n))
 clear hG
 unfold gscale
 go_enter Tryd.func109, Tryd.ntmps109
 go_wp2
 go_quiet ((go_at_call 87; exact Calls.quiet_of ((HM.out _).mono fun _ _ h_ => ⟨h_.1, h_.2.out⟩)))
 go_wp2
 go_ret
 exact ⟨rfl, ⟨_, rfl⟩⟩
set_option maxRecDepth 100000 in
theorem gf_Scale.calls (a0 : Int) (a1 : ByteArray) (r : ByteArray) (w : World) (hG : HG w) (h : gf_Scale.f a0 a1 = some r) :
  Calls Tryd.prog 106 #[.int .u8 a0, .string a1] w fun e w' => e = .returned (.string r) ∧ Below w.heap.size w w' := by
 unfold gf_Scale.f at h
 by_cases hs : isB a0 = true ∧ a1.size ≤ 140737488351232
 ·rw [if_pos hs] at h
  obtain ⟨hs0, hs1⟩ := hs
  obtain rfl := Option.some.inj h
  clear h
  have hmf := run_mf Tryd.prog
  have key : ∀ W, Below w.heap.size w W → ∀ px py, W.cell? ⟨px, 0, none⟩ = some (.int .u8 a0) → W.cell? ⟨py, 0, none⟩ = some (.string a1) →
    Calls Tryd.prog 74 #[.int .i64 (a1.size : Int), .func (.func 109) #[] #[.pointer (some ⟨px, 0, none⟩), .pointer (some ⟨py, 0, none⟩)]] W fun e w' => e = .returned (.string (scaleBytes a0 a1)) ∧ Below W.heap.size W w' :=
   fun W hB px py hx hy => gf_build.calls a1.size _ _ (gscale a0 a1) W hs1 enters109 fun k hk W' hb => gf_Scale_1.calls a0 a1 px py k W' ((hG.below hB).below hb) hs0 hk hs1 (pw_cell_below hb hx) (pw_cell_below hb hy)
  have HK := Aside0.mk key
  clear key hG hs0
  go_enter Tryd.func106, Tryd.ntmps106
  go_wp2_with (go_at_call 74; refine (HK.out _ ?b _ _ ?c1 ?c2).mono ?_; (case b => (repeat (first | exact Below.refl _ _ | apply below_alloc))); (case c1 => (go_simp; done)); (case c2 => (go_simp; done)); rintro e w' ⟨rfl, hb'⟩)
  go_ret
  exact ⟨rfl, below_step (by repeat (first | exact Below.refl _ _ | apply below_alloc)) hb'⟩
 ·rw [if_neg hs] at h
  cases h


/-! ### gf_Inv: function 107 -/
def gf_Inv.f (k : Nat) (a0 : Int) : Option (Int × Int) := if a0 = 0 then (some (0, 1)) else ((gf_power.f k a0 254).bind fun t263 => (some (t263, 0)))
set_option maxHeartbeats 8000000 in
set_option maxRecDepth 100000 in
theorem gf_Inv.calls (k : Nat) (a0 : Int) (r1 : Int) (r2 : Int) (w : World) (hG : HG w) (h : gf_Inv.f k a0 = some (r1, r2)) :
  Calls Tryd.prog 107 #[.int .u8 a0] w fun e w' => e = .returned (.tuple #[.int .u8 r1, .int .i64 r2]) ∧ Drawn0 w w' := by
 have HGw := Aside0.mk hG
 clear hG
 have H : (if a0 = 0 then (some (0, 1)) else ((gf_power.f k a0 254).bind fun t263 => (some (t263, 0)))) = some (r1, r2) := h
 clear h
 by_cases c2 : a0 = 0
 ·rw [if_pos c2] at H
  have c2b0 : (a0 == 0) = true := beq_iff_eq.mpr c2
  have c2b1 : (a0 != 0) = false := bne_eq_false_iff_eq.mpr c2
  clear c2
  simp only [Option.some.injEq, Prod.mk.injEq] at H
  obtain ⟨rfl, rfl⟩ := H
  go_enter Tryd.func107, Tryd.ntmps107
  go_wp2
  go_ret2
  exact ⟨by first | rfl | (simp; done) | (simp [*]; done), by repeat (first | exact Drawn0.refl _ | apply Drawn0.step)⟩
 ·rw [if_neg c2] at H
  have c2b0 : (a0 == 0) = false := beq_eq_false_iff_ne.mpr c2
  have c2b1 : (a0 != 0) = true := bne_iff_ne.mpr c2
  replace H := Option.bind_eq_some_iff.mp H
  obtain ⟨t263, A30, H⟩ := H
  replace H : (some (t263, 0)) = some (r1, r2) := H
  have A3 := Aside0.mk A30
  clear A30
  simp only [Option.some.injEq, Prod.mk.injEq] at H
  obtain ⟨rfl, rfl⟩ := H
  go_enter Tryd.func107, Tryd.ntmps107
  go_wp2_with (first | ((with_reducible refine gate_callee (f := 84) rfl ?_); refine goesL_ (some 7) rfl rfl Tryd.func84 (by kernel_rfl) rfl #[.int .u8 a0, .int .i64 254] rfl (by (try simp only [List.map_toArray, List.map_cons, List.map_nil]); first | done | rfl | (simp only [List.length_drop, List.length_take]; rfl)) ?_; (with_reducible refine (gf_power.calls k a0 254 t263 _ ?side1 A3.out).mono ?_); (case side1 => first | exact HGw.out | (repeat (first | exact HGw.out | apply HG.drewN | apply HG.drew))); rintro e w' ⟨rfl, ⟨nd, rfl⟩⟩; refine ⟨_, rfl, ?_⟩))
  go_ret2
  exact ⟨by first | rfl | (simp; done) | (simp [*]; done), by repeat (first | exact Drawn0.refl _ | apply Drawn0.step)⟩


/-! ### code_stairs_add: function 91 -/
/-- The place of the first element that is not 0; the length if there is none. -/
def fstIdx (r : List Int) : Nat := r.findIdx (fun x => x != 0)
theorem fstIdx_le (r : List Int) : fstIdx r ≤ r.length := List.findIdx_le_length
theorem code_first.step (r : List Int) (hm : r.length ≤ 4611686018427387904) : ∀ (d k i : Nat), i + d = r.length → code_first.l0 (d + 1 + k) r r (r.length : Int) (i : Int) = some ((i + fstIdx (r.drop i) : Nat) : Int) := by
 intro d
 induction d with
 | zero =>
  intro k i h
  rw [show 0 + 1 + k = k + 1 by omega]
  unfold code_first.l0
  rw [if_neg (by omega), List.drop_of_length_le (by omega)]
  simp [fstIdx]; omega
 | succ d ih =>
  intro k i h
  rw [show d + 1 + 1 + k = (d + 1 + k) + 1 by omega]
  unfold code_first.l0
  rw [if_pos (by omega), if_pos (by omega), if_pos (by omega)]
  have hw : wrap64 ((i : Int) + 1) = ((i + 1 : Nat) : Int) := by unfold wrap64; omega
  have hlt : i < r.length := by omega
  have hr : rd r (i : Int) = r[i] := by simp [rd, List.getD_eq_getElem?_getD, List.getElem?_eq_getElem hlt]
  have hd : r.drop i = r[i] :: r.drop (i + 1) := List.drop_eq_getElem_cons hlt
  rw [hw, hr, hd]
  by_cases h0 : r[i] = 0
  ·rw [if_pos h0, ih k (i + 1) (by omega)]
   simp only [fstIdx, List.findIdx_cons, h0, bne_self_eq_false, cond_false, Option.some.injEq]
   omega
  ·rw [if_neg h0]
   have hb : (r[i] != 0) = true := bne_iff_ne.2 h0
   simp only [fstIdx, List.findIdx_cons, hb, cond_true, Nat.add_zero]
theorem code_first.nat (r : List Int) (hm : r.length ≤ 4611686018427387904) : code_first.f (r.length + 1) r = some ((fstIdx r : Nat) : Int) := by
 have := code_first.step r hm r.length 0 0 (by omega)
 rw [List.drop_zero, Nat.zero_add, Nat.add_zero] at this
 exact this
theorem code_first.fst (A0 : Option Addr) (c0 : Nat) (l0 : List Int) (w : World) (hG : HG w) (hr0 : Kd.C (Kd.int .u8) w A0 l0.length l0) (hc0 : l0.length ≤ c0) (hm : l0.length ≤ 4611686018427387904) :
  Calls Tryd.prog 92 #[.slice A0 l0.length c0] w fun e w' => e = .returned (.int .i64 ((fstIdx l0 : Nat) : Int)) ∧ Drawn0 w w' := code_first.calls _ A0 c0 l0 _ w hG hr0 hc0 (code_first.nat l0 hm)
/-! the sum and the multiple of pieces -/
def sumP (p s : ByteArray) : ByteArray := if p.size < s.size then sumBytes s p else sumBytes p s
theorem strOfNums_size (l : List Int) : (strOfNums l).size = l.length := by simp [strOfNums, ByteArray.size]
theorem sumBytes_size (x y : ByteArray) : (sumBytes x y).size = x.size := by unfold sumBytes; rw [strOfNums_size]; simp
theorem scaleBytes_size (c : Int) (s : ByteArray) : (scaleBytes c s).size = s.size := by unfold scaleBytes; rw [strOfNums_size]; simp
theorem sumP_size {M : Nat} {p s : ByteArray} (hp : p.size ≤ M) (hs : s.size ≤ M) : (sumP p s).size ≤ M := by
 unfold sumP; split <;> rw [sumBytes_size] <;> assumption
theorem gf_Sum.sum (p s : ByteArray) (hp : p.size ≤ 140737488351232) (hs : s.size ≤ 140737488351232) (w : World) (hG : HG w) :
  Calls Tryd.prog 36 #[.string p, .string s] w fun e w' => e = .returned (.string (sumP p s)) ∧ Below w.heap.size w w' :=
 gf_Sum.calls p s _ w hG (if_pos ⟨hp, hs⟩)
theorem gf_Scale.scale (c : Int) (s : ByteArray) (hc : isB c = true) (hs : s.size ≤ 140737488351232) (w : World) (hG : HG w) :
  Calls Tryd.prog 106 #[.int .u8 c, .string s] w fun e w' => e = .returned (.string (scaleBytes c s)) ∧ Below w.heap.size w w' :=
 gf_Scale.calls c s _ w hG (if_pos ⟨hc, hs⟩)
theorem gf_Inv.inv (a : Int) (ha : isB a = true) (h0 : a ≠ 0) (w : World) (hG : HG w) :
  Calls Tryd.prog 107 #[.int .u8 a] w fun e w' => e = .returned (.tuple #[.int .u8 (iinv a), .int .i64 0]) ∧ Drawn0 w w' := by
 rw [isB_iff] at ha
 obtain ⟨m, rfl⟩ := Int.eq_ofNat_of_zero_le ha.1
 refine gf_Inv.calls 14 _ _ _ w hG ?_
 unfold gf_Inv.f
 rw [if_neg h0, gf_Inv.nat m (by omega) (by omega)]
 rfl
/-! rows in the form of stairs -/
abbrev St := List (List Int × ByteArray)
def mixRow (f : Int) (x r : List Int) (m : Nat) : List Int := (List.range r.length).map fun i => if i < m then ixor (rd r (i : Int)) (imul f (rd x (i : Int))) else rd r (i : Int)
def subRow (f : Int) (x r : List Int) : List Int := (List.range r.length).map fun (i : Nat) => ixor (rd r (i : Int)) (imul f (rd x (i : Int)))
def mulUpto (c : Int) (r : List Int) (m : Nat) : List Int := (List.range r.length).map fun i => if i < m then imul c (rd r (i : Int)) else rd r (i : Int)
def mulRow (c : Int) (r : List Int) : List Int := (List.range r.length).map fun (i : Nat) => imul c (rd r (i : Int))
def redStep (a : List Int × ByteArray) (x : List Int × ByteArray) : List Int × ByteArray :=
 if rd a.1 ((fstIdx x.1 : Nat) : Int) = 0 then a else (subRow (rd a.1 ((fstIdx x.1 : Nat) : Int)) x.1 a.1, sumP a.2 (scaleBytes (rd a.1 ((fstIdx x.1 : Nat) : Int)) x.2))
def redRow (st : St) (a : List Int × ByteArray) : List Int × ByteArray := st.foldl redStep a
def addSt (st : St) (row : List Int) (part : ByteArray) : Option (List Int × ByteArray) :=
 if fstIdx (redRow st (row, part)).1 = (redRow st (row, part)).1.length then none
 else some (mulRow (iinv (rd (redRow st (row, part)).1 ((fstIdx (redRow st (row, part)).1 : Nat) : Int))) (redRow st (row, part)).1, scaleBytes (iinv (rd (redRow st (row, part)).1 ((fstIdx (redRow st (row, part)).1 : Nat) : Int))) (redRow st (row, part)).2)
theorem rdi {l : List Int} {i : Nat} (h : i < l.length) : rd l (i : Int) = l[i] := by simp [rd, List.getD_eq_getElem?_getD, List.getElem?_eq_getElem h]
theorem mixRow_length (f : Int) (x r : List Int) (m : Nat) : (mixRow f x r m).length = r.length := by simp [mixRow]
theorem mulUpto_length (c : Int) (r : List Int) (m : Nat) : (mulUpto c r m).length = r.length := by simp [mulUpto]
theorem subRow_length (f : Int) (x r : List Int) : (subRow f x r).length = r.length := by simp [subRow]
theorem mulRow_length (c : Int) (r : List Int) : (mulRow c r).length = r.length := by simp [mulRow]
theorem mixRow_zero (f : Int) (x r : List Int) : mixRow f x r 0 = r := by
 apply List.ext_getElem
 ·simp [mixRow]
 ·intro i h1 h2; simp [mixRow, rdi h2]
theorem mulUpto_zero (c : Int) (r : List Int) : mulUpto c r 0 = r := by
 apply List.ext_getElem
 ·simp [mulUpto]
 ·intro i h1 h2; simp [mulUpto, rdi h2]
theorem mixRow_all (f : Int) (x r : List Int) : mixRow f x r r.length = subRow f x r := by
 apply List.ext_getElem
 ·simp [mixRow, subRow]
 ·intro i h1 h2
  have : i < r.length := by simpa [mixRow] using h1
  simp [mixRow, subRow, this]
theorem mulUpto_all (c : Int) (r : List Int) : mulUpto c r r.length = mulRow c r := by
 apply List.ext_getElem
 ·simp [mulUpto, mulRow]
 ·intro i h1 h2
  have : i < r.length := by simpa [mulUpto] using h1
  simp [mulUpto, mulRow, this]
theorem mixRow_at (f : Int) (x r : List Int) {m : Nat} (h : m < r.length) : rd (mixRow f x r m) (m : Int) = rd r (m : Int) := by
 rw [rdi (by rw [mixRow_length]; exact h)]; simp [mixRow]
theorem mulUpto_at (c : Int) (r : List Int) {m : Nat} (h : m < r.length) : rd (mulUpto c r m) (m : Int) = rd r (m : Int) := by
 rw [rdi (by rw [mulUpto_length]; exact h)]; simp [mulUpto]
theorem mixRow_set (f : Int) (x r : List Int) (m : Nat) : (mixRow f x r m).set m (ixor (rd r (m : Int)) (imul f (rd x (m : Int)))) = mixRow f x r (m + 1) := by
 apply List.ext_getElem
 ·simp [mixRow]
 ·intro i h1 h2
  have hi : i < r.length := by simpa [mixRow] using h2
  rw [List.getElem_set]
  by_cases e : m = i
  ·subst e; simp [mixRow]
  ·rw [if_neg e]
   simp only [mixRow, List.getElem_map, List.getElem_range]
   by_cases h3 : i < m
   ·rw [if_pos h3, if_pos (by omega)]
   ·rw [if_neg h3, if_neg (by omega)]
theorem mulUpto_set (c : Int) (r : List Int) (m : Nat) : (mulUpto c r m).set m (imul c (rd r (m : Int))) = mulUpto c r (m + 1) := by
 apply List.ext_getElem
 ·simp [mulUpto]
 ·intro i h1 h2
  have hi : i < r.length := by simpa [mulUpto] using h2
  rw [List.getElem_set]
  by_cases e : m = i
  ·subst e; simp [mulUpto]
  ·rw [if_neg e]
   simp only [mulUpto, List.getElem_map, List.getElem_range]
   by_cases h3 : i < m
   ·rw [if_pos h3, if_pos (by omega)]
   ·rw [if_neg h3, if_neg (by omega)]
theorem all_isB_sub {f : Int} {x r : List Int} (hr : r.all isB = true) (hf : isB f = true) : (subRow f x r).all isB = true := by
 rw [List.all_eq_true]
 intro y hy
 simp only [subRow, List.mem_map, List.mem_range] at hy
 obtain ⟨i, hi, rfl⟩ := hy
 exact isB_xor (isB_rd hr i hi) (isB_mul _ hf)
theorem all_isB_mul {c : Int} {r : List Int} (hc : isB c = true) : (mulRow c r).all isB = true := by
 rw [List.all_eq_true]
 intro y hy
 simp only [mulRow, List.mem_map, List.mem_range] at hy
 obtain ⟨i, hi, rfl⟩ := hy
 exact isB_mul _ hc
/-- What each row of the stairs is: so many bytes, not all 0, and a piece that is not too long. -/
def WfRow (width M : Nat) (x : List Int × ByteArray) : Prop := x.1.all isB = true ∧ x.1.length = width ∧ x.2.size ≤ M
def WfSt (width M : Nat) (st : St) : Prop := ∀ x ∈ st, WfRow width M x ∧ fstIdx x.1 < width
theorem redStep_wf {width M : Nat} {a x : List Int × ByteArray} (ha : WfRow width M a) (hx : WfRow width M x) (hf : fstIdx x.1 < width) : WfRow width M (redStep a x) := by
 unfold redStep
 split
 ·exact ha
 ·exact ⟨all_isB_sub ha.1 (isB_rd ha.1 _ (by rw [ha.2.1]; exact hf)), by rw [subRow_length]; exact ha.2.1, sumP_size ha.2.2 (by rw [scaleBytes_size]; exact hx.2.2)⟩
theorem redRow_wf {width M : Nat} {st : St} (h : WfSt width M st) : ∀ {a}, WfRow width M a → WfRow width M (redRow st a) := by
 induction st with
 | nil => intro a ha; exact ha
 | cons x st ih =>
  intro a ha
  have hx := h x (List.mem_cons_self)
  exact ih (fun y hy => h y (List.mem_cons_of_mem _ hy)) (redStep_wf ha hx.1 hx.2)
theorem redRow_take_succ (st : St) (a : List Int × ByteArray) {n : Nat} (h : n < st.length) : redRow (st.take (n + 1)) a = redStep (redRow (st.take n) a) st[n] := by
 unfold redRow
 rw [List.take_succ_eq_append_getElem h, List.foldl_append]
 rfl
/-- What the stairs are in memory: their block, the rows and the pieces. -/
def StairsAt (gs base width : Nat) (W : World) (st : St) : Prop :=
 base ≤ gs ∧ ∃ vr vp, W.heap[gs]? = some (.cells #[vr, vp, .int .i64 (width : Int)] 117 (0, 0)) ∧ Kd.S (Kd.slice 5 (Kd.int .u8)) 57 W base (fun _ => True) vr (st.map Prod.fst) ∧ Kd.R Kd.string 9 W base (fun _ => True) vp (st.map Prod.snd)
theorem StairsAt.below {gs base width : Nat} {W W1 : World} {st : St} (h : StairsAt gs base width W st) (hb : Below W.heap.size W W1) : StairsAt gs base width W1 st := by
 obtain ⟨h0, vr, vp, h1, h2, h3⟩ := h
 exact ⟨h0, vr, vp, blk_below h1 hb, Kd.S_below h2 hb, Kd.R_below h3 hb⟩
theorem below_base {base : Nat} {w0 w W : World} (h : Below base w0 w) (hbs : base ≤ w.heap.size) (hb : Below w.heap.size w W) : Below base w0 W := h.trans ⟨hb.os, hb.tape, hb.output, hb.size, fun i hi => hb.block i (by omega)⟩
theorem rdF (st : St) {n : Nat} (h : n < st.length) : rd_L4 (st.map Prod.fst) (n : Int) = st[n].1 := by
 simp [rd_L4, List.getD_eq_getElem?_getD, List.getElem?_eq_getElem h]
theorem rdS (st : St) {n : Nat} (h : n < st.length) : rdOf ByteArray.empty (st.map Prod.snd) (n : Int) = st[n].2 := by
 simp [rdOf, List.getD_eq_getElem?_getD, List.getElem?_eq_getElem h]
theorem at_bytes_nat' {w : World} {A : Option Addr} {n : Nat} {xs : List (List Int)} (h : Kd.C (Kd.slice 5 (Kd.int .u8)) w A n xs) (k : Nat) (hk : k < n) : ∃ ad A0 c0, A = some ad ∧ w.cell? (ad.add k) = some (.slice A0 (rd_L4 xs (k : Int)).length c0) ∧ (rd_L4 xs (k : Int)).length ≤ c0 ∧ (Kd.int .u8).C w A0 (rd_L4 xs (k : Int)).length (rd_L4 xs (k : Int)) := by
 obtain ⟨ad, A0, c0, e, h1, h2, h3⟩ := at_L4 h (k : Int) (by omega) (by omega)
 exact ⟨ad, A0, c0, e, by rwa [Int.toNat_natCast] at h1, h2, h3⟩
set_option maxHeartbeats 4000000 in
set_option maxRecDepth 100000 in
theorem code_stairs_add.calls (gs base width M : Nat) (w0 w : World) (st : St) (A : Option Addr) (c : Nat) (row : List Int) (part : ByteArray) (hG0 : HG w0) (hbe : base = w0.heap.size) (hS : StairsAt gs base width w st) (hwf : WfSt width M st) (hst : st.length < 1000) (hB0 : Below base w0 w) (hbs : base ≤ w.heap.size)
  (hw : 1 ≤ width) (hw2 : width < 1000) (hM : M ≤ 140737488351232) (hr : Kd.C (Kd.int .u8) w A row.length row) (hc : row.length ≤ c) (hwr : WfRow width M (row, part)) :
  Calls Tryd.prog 91 #[.pointer (some ⟨gs, 0, none⟩), .slice A row.length c, .string part] w fun e w' =>
   e = .returned (.bool (addSt st row part).isSome) ∧ StairsAt gs base width w' (st ++ (addSt st row part).toList) ∧ Below base w0 w' ∧ w.heap.size ≤ w'.heap.size := by
 have hG : HG w := hG0.below (hbe ▸ hB0)
 have HG0 := Aside0.mk (show ∀ W, Below base w0 W → HG W from fun W hb => hG0.below (hbe ▸ hb))
 clear hbe
 obtain ⟨hgs, vr, vp, hb, hvr, hvp⟩ := hS
 obtain ⟨N, hN⟩ : ∃ N : Nat, N = st.length := ⟨_, rfl⟩
 have hfl : (st.map Prod.fst).length = N := by rw [List.length_map, hN]
 have hsl : (st.map Prod.snd).length = N := by rw [List.length_map, hN]
 obtain ⟨Ar, cr, er, hcr, hCr⟩ := Kd.S_reads hvr
 obtain ⟨Ap, cp, ep, hcp, hCp⟩ := Kd.R_reads hvp
 rw [hfl] at er hcr hCr
 rw [hsl] at ep hcp hCp
 subst er ep
 have hrl : row.length = width := hwr.2.1
 rw [hrl] at hr hc
 rw [← hN] at hst
 rw [hrl]
 have hcz0 : w.cell? ⟨gs, 0, none⟩ = some (.slice Ar N cr) := blk_cell hb 0
 have hcz1 : w.cell? ⟨gs, 1, none⟩ = some (.slice Ap N cp) := blk_cell hb 1
 have HGw := Aside0.mk hG
 have HC := Aside0.mk hr
 have HBK := Aside0.mk hb
 have HVR := Aside0.mk hvr
 have HVP := Aside0.mk hvp
 have HCR := Aside0.mk hCr
 have HCP := Aside0.mk hCp
 have HWF := Aside0.mk hwf
 have HWR := Aside0.mk hwr
 have HB0 := Aside0.mk hB0
 have HRL := Aside0.mk hrl
 have HN := Aside0.mk hN
 have hu117 := Tryd.underlying117
 clear hG hG0 hr hb hvr hvp hCr hCp hwf hwr hB0 hrl hN hfl hsl
 go_enter Tryd.func91, Tryd.ntmps91
 go_wp2_with (at_builtin; refine Kd.R_append_row (Value.int .u8) (0 : Int) (h1 := fun _ => rfl) (w0 := w) w.heap.size rfl (.tmp 17) (.tmp 18) 57 5 (.int .u8 0) 1 rfl Tryd.underlying57 info5 rfl (by decide) _ [] row A width c (fun _ => True) rfl rfl (fun _ _ => trivial) ?uB1 ?uB2 ?uB3 ?uB4 ?uB5 ?_; (case uB1 => exact Kd.R_mono (arr_own (k := .u8) (xs := []) (blk_new w _) (Nat.le_refl _) (by simp) 0 rfl) (fun _ _ => trivial)); (case uB2 => exact Kd.C_below HC.out (below_alloc (Below.refl _ _) _)); (case uB3 => exact (below_alloc (Below.refl _ _) _)); (case uB4 => (rw [World.size_alloc]; omega)); (case uB5 => (simp; omega)); intro v1 w1 ho hb hg hat; rw [List.nil_append] at ho; obtain ⟨g, cap, hv, hgb, hglt, hgc⟩ := Kd.R_form ho (by have := HRL.out; omega); rw [HRL.out] at hv; subst hv; have HO := Aside0.mk ho; have HB1 := Aside0.mk hb; have hbw := blk_below HBK.out hb; have HBW := Aside0.mk hbw; have hcy0 : w1.cell? ⟨gs, 0, none⟩ = some (.slice Ar N cr) := blk_cell hbw 0; have hcy1 : w1.cell? ⟨gs, 1, none⟩ = some (.slice Ap N cp) := blk_cell hbw 1; clear ho hb hg hat hgc hbw)
 go_loopw [2, 25] (fun x v W => ∃ (j : Nat) (rp : List Int × ByteArray), j ≤ N ∧ v = .int .i64 (j : Int) ∧ x = .string rp.2 ∧ Aside0 (redRow (st.take j) (row, part) = rp) ∧ Aside0 (WfRow width M rp) ∧ Aside0 ((Kd.int .u8).R 5 W w.heap.size (fun _ => True) (.slice (some ⟨g, 0, none⟩) width cap) rp.1) ∧ Aside0 (Below w.heap.size w W)) (fun _ v _ => N - (intOf v).toNat)
 case atStart => exact ⟨0, (row, part), Nat.zero_le _, rfl, rfl, ⟨rfl⟩, HWR, HO, HB1⟩
 case round =>
  obtain ⟨j, ⟨r, p⟩, hj, rfl, rfl, HRD, HWF1, HR, HB⟩ := hrel
  by_cases hlt : j < N
  ·have hjs : j < st.length := HN.out ▸ hlt
   obtain ⟨⟨hxB, hxl, hxM⟩, hxf⟩ := HWF.out _ (List.getElem_mem hjs)
   have HRD2 := Aside0.mk (redRow_take_succ st (row, part) hjs)
   obtain ⟨ad0, A0, c0, rfl, hx0, hx1, hx2⟩ := at_bytes_nat' HCR.out j hlt
   obtain ⟨ad1, rfl, hq0⟩ := at_string_nat HCP.out j hlt
   rw [rdF st hjs] at hx0 hx1 hx2
   rw [rdS st hjs] at hq0
   generalize st[j] = xq at hxB hxl hxM hxf HRD2 hx0 hx1 hx2 hq0
   obtain ⟨x, q⟩ := xq
   dsimp only at hxB hxl hxM hxf hx0 hx1 hx2 hq0
   rw [hxl] at hx0 hx1 hx2
   replace hx0 := pw_cell_below HB.out hx0
   obtain ⟨hrB, hrl, hpM⟩ := HWF1.out
   dsimp only at hrB hrl hpM
   have HX0 := Aside0.mk hx2
   have HQ0 := Aside0.mk hq0
   clear hq0
   have HX2 := Aside0.mk (Kd.C_below hx2 HB.out)
   have HXB := Aside0.mk hxB
   have HRB := Aside0.mk hrB
   have HXL := Aside0.mk hxl
   have HRLn := Aside0.mk hrl
   have hf0 : fstIdx x < r.length := by rw [hrl]; exact hxf
   obtain ⟨hrc, _⟩ := Kd.R_celln (0 : Int) HR.out ((fstIdx x : Nat) : Int) (by omega) (by omega)
   rw [Int.toNat_natCast, show rdOf (0 : Int) r ((fstIdx x : Nat) : Int) = rd r ((fstIdx x : Nat) : Int) from rfl] at hrc
   have HF1 := Aside0.mk (show ∀ W, Below wr.heap.size wr W → Calls Tryd.prog 92 #[.slice A0 width c0] W fun e w' => e = .returned (.int .i64 ((fstIdx x : Nat) : Int)) ∧ Drawn0 W w' from by
    intro W hb
    have := code_first.fst A0 c0 x W ((HGw.out.below HB.out).below hb) (by rw [HXL.out]; exact Kd.C_below HX2.out hb) (by rw [HXL.out]; exact hx1) (by rw [HXL.out]; omega)
    rw [HXL.out] at this
    exact this)
   clear hx2 hxB hrB hxl hrl hx1
   generalize hfe : fstIdx x = fi at hrc hf0 hxf HF1
   generalize hff : rd r (fi : Int) = f at hrc
   have HFE := Aside0.mk hfe
   have HFF := Aside0.mk hff
   clear hfe hff
   by_cases hz : f = 0
   ·subst hz
    go_wp2_with (go_at_call 92; (with_reducible refine (HF1.out _ (Below.refl _ _)).mono ?_); rintro e w' ⟨rfl, ⟨nd, rfl⟩⟩)
    go_roundw
    case rel => exact ⟨j + 1, (r, p), by omega, by go_num, rfl, ⟨by rw [HRD2.out, HRD.out]; unfold redStep; rw [if_pos]; show rd r ((fstIdx x : Nat) : Int) = 0; rw [HFE.out, HFF.out]⟩, HWF1, ⟨Kd.R_drewN HR.out _⟩, ⟨pw_below_drewN HB.out _⟩⟩
    case measure => simp [intOf]; omega
   ·have hz1 : (f == 0) = false := beq_eq_false_iff_ne.2 hz
    have hz2 : (f != 0) = true := bne_iff_ne.2 hz
    go_wp2_with (go_at_call 92; (with_reducible refine (HF1.out _ (Below.refl _ _)).mono ?_); rintro e w' ⟨rfl, ⟨nd, rfl⟩⟩)
    have HRo := Aside0.mk (Kd.R_drewN HR.out nd)
    have HBo := Aside0.mk (pw_below_drewN HB.out nd)
    generalize wr.drewN nd = wo at *
    clear HX2 HF1 HR HB hrc hx0
    have hfB : isB f = true := by rw [← HFF.out]; exact isB_rd HRB.out fi hf0
    go_loopw [40] (fun v W => ∃ m : Nat, m ≤ width ∧ v = .int .i64 (m : Int) ∧ Aside0 ((Kd.int .u8).R 5 W w.heap.size (fun _ => True) (.slice (some ⟨g, 0, none⟩) width cap) (mixRow f x r m)) ∧ Aside0 (Below w.heap.size w W)) (fun v _ => width - (intOf v).toNat)
    case atStart => exact ⟨0, Nat.zero_le _, rfl, ⟨by rw [mixRow_zero]; exact HRo.out⟩, HBo⟩
    case round =>
     clear HRo HBo
     obtain ⟨m, hm, rfl, HR, HB⟩ := hrel
     by_cases hlt2 : m < width
     ·have hmr : m < r.length := by rw [HRLn.out]; exact hlt2
      have hmx : m < x.length := by rw [HXL.out]; exact hlt2
      obtain ⟨hcm, hfm⟩ := Kd.R_celln (0 : Int) HR.out ((m : Nat) : Int) (by omega) (by omega)
      rw [Int.toNat_natCast, show rdOf (0 : Int) (mixRow f x r m) ((m : Nat) : Int) = rd (mixRow f x r m) ((m : Nat) : Int) from rfl, mixRow_at f x r hmr] at hcm
      rw [Int.toNat_natCast] at hfm
      obtain ⟨ad2, rfl, hxm⟩ := at_int_nat (Kd.C_below HX0.out HB.out) m hlt2
      have hRi := isB_rd HRB.out m hmr
      have hXi := isB_rd HXB.out m hmx
      have HV := Aside0.mk (bits_xor_u8 hRi (isB_mul (rd x (m : Int)) hfB))
      have HMU := Aside0.mk (fun W (hb : Below wr.heap.size wr W) => gf_Mul.mul hfB hXi W ((HGw.out.below HB.out).below hb))
      have HK := Aside0.mk (show ∀ k, (Kd.int .u8).R 5 ((wr.drewN k).setCell ⟨g, m, none⟩ (.int .u8 (Go.bits .xor .u8 (rd r (m : Int)) (imul f (rd x (m : Int)))))) w.heap.size (fun _ => True) (.slice (some ⟨g, 0, none⟩) width cap) (mixRow f x r (m + 1)) from by
       intro k
       rw [HV.out, ← mixRow_set]
       have := Kd.R_putn (Kd.R_drewN HR.out k) ((m : Nat) : Int) (ixor (rd r (m : Int)) (imul f (rd x (m : Int))))
       rw [Int.toNat_natCast] at this
       exact this)
      clear hRi hXi
      go_wp2
      go_region_with (go_at_call 87; (with_reducible refine (HMU.out _ (by repeat (first | exact Below.refl _ _ | apply pw_below_drewN | apply below_drew))).mono ?_); rintro e w' ⟨rfl, ⟨nd2, rfl⟩⟩)
      all_goals
       go_wp2
       go_roundw
       case rel => exact ⟨m + 1, by omega, by go_num, ⟨HK.out _⟩, ⟨below_set (pw_below_drewN HB.out _) hgb⟩⟩
       case measure => simp [intOf]; omega
     ·obtain rfl : m = width := by omega
      have hR := HR.out
      have hme : mixRow f x r m = subRow f x r := by rw [← mixRow_all, HRLn.out]
      rw [hme] at hR
      have HR2 := Aside0.mk hR
      have HSC := Aside0.mk (fun W (hb : Below wr.heap.size wr W) => gf_Scale.scale f q hfB (Nat.le_trans hxM hM) W ((HGw.out.below HB.out).below hb))
      have HSM := Aside0.mk (fun W (hb : Below wr.heap.size wr W) => gf_Sum.sum p (scaleBytes f q) (Nat.le_trans hpM hM) (by rw [scaleBytes_size]; exact Nat.le_trans hxM hM) W ((HGw.out.below HB.out).below hb))
      have hbw := blk_below HBK.out HB.out
      have hcy0 : wr.cell? ⟨gs, 0, none⟩ = some (.slice (some ad0) N cr) := blk_cell hbw 0
      have hcy1 : wr.cell? ⟨gs, 1, none⟩ = some (.slice (some ad1) N cp) := blk_cell hbw 1
      have hq1 := pw_cell_below HB.out HQ0.out
      clear hR HR HX0 hbw hme
      go_wp2_with (first | (go_at_call 106; (with_reducible refine (HSC.out _ (Below.refl _ _)).mono ?_); rintro e w2 ⟨rfl, hb2⟩; have HB2 := Aside0.mk hb2; clear hb2) | (go_at_call 36; (with_reducible refine (HSM.out _ HB2.out).mono ?_); rintro e w3 ⟨rfl, hb3⟩; have HB3 := Aside0.mk (below_step HB2.out hb3); clear hb3))
      go_roundw
      case rel => exact ⟨j + 1, (subRow f x r, sumP p (scaleBytes f q)), by omega, by go_num, rfl, ⟨by rw [HRD2.out, HRD.out]; unfold redStep; rw [HFE.out, HFF.out, if_neg hz]⟩, ⟨all_isB_sub HRB.out hfB, by rw [subRow_length]; exact HRLn.out, sumP_size hpM (by rw [scaleBytes_size]; exact hxM)⟩, ⟨Kd.R_below HR2.out HB3.out⟩, ⟨below_step HB.out HB3.out⟩⟩
      case measure => simp [intOf]; omega
  ·obtain rfl : j = N := by omega
   have hred : redRow st (row, part) = (r, p) := by
    have := HRD.out
    rwa [HN.out, List.take_length] at this
   obtain ⟨hrB, hrl, hpM⟩ := HWF1.out
   dsimp only at hrB hrl hpM
   have HRB := Aside0.mk hrB
   have HRLn := Aside0.mk hrl
   have HRE := Aside0.mk hred
   have hfl := fstIdx_le r
   rw [hrl] at hfl
   have HF1 := Aside0.mk (show ∀ W, Below wr.heap.size wr W → Calls Tryd.prog 92 #[.slice (some ⟨g, 0, none⟩) width cap] W fun e w' => e = .returned (.int .i64 ((fstIdx r : Nat) : Int)) ∧ Drawn0 W w' from by
    intro W hb
    obtain ⟨_, hcc, hC⟩ := Kd.R_reads' (Kd.R_below HR.out hb)
    have := code_first.fst (some ⟨g, 0, none⟩) cap r W ((HGw.out.below HB.out).below hb) hC (by rw [HRLn.out]; exact hcc) (by rw [HRLn.out]; omega)
    rw [HRLn.out] at this
    exact this)
   have hadd : addSt st row part = if fstIdx r = width then none else some (mulRow (iinv (rd r ((fstIdx r : Nat) : Int))) r, scaleBytes (iinv (rd r ((fstIdx r : Nat) : Int))) p) := by
    unfold addSt
    rw [hred, hrl]
   generalize hfe : fstIdx r = fi at hfl HF1 hadd
   have HAD := Aside0.mk hadd
   clear hrB hrl hred hadd
   by_cases hz : fi = width
   ·have hz1 : ((fi : Int) == (width : Int)) = true := beq_iff_eq.2 (by omega)
    go_wp2_with (go_at_call 92; (with_reducible refine (HF1.out _ (Below.refl _ _)).mono ?_); rintro e w' ⟨rfl, ⟨nd, rfl⟩⟩)
    have hn := HAD.out
    rw [if_pos hz] at hn
    rw [hn]
    go_ret
    exact ⟨rfl, by rw [show (none : Option (List Int × ByteArray)).toList = [] from rfl, List.append_nil]; exact StairsAt.below ⟨hgs, _, _, HBK.out, HVR.out, HVP.out⟩ (pw_below_drewN HB.out _), below_base HB0.out hbs (pw_below_drewN HB.out _), (pw_below_drewN HB.out _).size⟩
   ·have hz1 : ((fi : Int) == (width : Int)) = false := beq_eq_false_iff_ne.2 (by omega)
    have hz2 : (fi == width) = false := beq_eq_false_iff_ne.2 hz
    have hflt : fi < width := by omega
    have hf0 : fi < r.length := by rw [HRLn.out]; exact hflt
    have hne : rd r (fi : Int) ≠ 0 := by
     subst hfe
     have := List.findIdx_getElem (xs := r) (p := fun x => x != 0) (w := hf0)
     rw [rdi hf0]
     exact bne_iff_ne.1 this
    obtain ⟨hrc, _⟩ := Kd.R_celln (0 : Int) HR.out ((fi : Nat) : Int) (by omega) (by omega)
    rw [Int.toNat_natCast, show rdOf (0 : Int) r ((fi : Nat) : Int) = rd r ((fi : Nat) : Int) from rfl] at hrc
    have hfB := isB_rd HRB.out fi hf0
    have HIV := Aside0.mk (fun W (hb : Below wr.heap.size wr W) => gf_Inv.inv (rd r (fi : Int)) hfB hne W ((HGw.out.below HB.out).below hb))
    have hiB := isB_inv (rd r (fi : Int))
    rw [if_neg hz] at HAD
    generalize iinv (rd r (fi : Int)) = iv at HIV hiB HAD
    clear hne hfB
    go_wp2_with (first | (go_at_call 92; (with_reducible refine (HF1.out _ (Below.refl _ _)).mono ?_); rintro e w' ⟨rfl, ⟨nd, rfl⟩⟩) | (go_at_call 107; (with_reducible refine (HIV.out _ (by repeat (first | exact Below.refl _ _ | apply pw_below_drewN | apply below_drew))).mono ?_); rintro e w' ⟨rfl, ⟨nd2, rfl⟩⟩))
    have HRo := Aside0.mk (Kd.R_drewN HR.out (nd + nd2))
    have HBo := Aside0.mk (pw_below_drewN HB.out (nd + nd2))
    generalize wr.drewN (nd + nd2) = wo at *
    clear HF1 HR HB hrc HIV
    go_loopw [84] (fun v W => ∃ m : Nat, m ≤ width ∧ v = .int .i64 (m : Int) ∧ Aside0 ((Kd.int .u8).R 5 W w.heap.size (fun _ => True) (.slice (some ⟨g, 0, none⟩) width cap) (mulUpto iv r m)) ∧ Aside0 (Below w.heap.size w W)) (fun v _ => width - (intOf v).toNat)
    case atStart => exact ⟨0, Nat.zero_le _, rfl, ⟨by rw [mulUpto_zero]; exact HRo.out⟩, HBo⟩
    case round =>
     clear HRo HBo
     obtain ⟨m, hm, rfl, HR, HB⟩ := hrel
     by_cases hlt2 : m < width
     ·have hmr : m < r.length := by rw [HRLn.out]; exact hlt2
      obtain ⟨hcm, hfm⟩ := Kd.R_celln (0 : Int) HR.out ((m : Nat) : Int) (by omega) (by omega)
      rw [Int.toNat_natCast, show rdOf (0 : Int) (mulUpto iv r m) ((m : Nat) : Int) = rd (mulUpto iv r m) ((m : Nat) : Int) from rfl, mulUpto_at iv r hmr] at hcm
      rw [Int.toNat_natCast] at hfm
      have hRi := isB_rd HRB.out m hmr
      have HMU := Aside0.mk (fun W (hb : Below wr.heap.size wr W) => gf_Mul.mul hiB hRi W ((HGw.out.below HB.out).below hb))
      have HK := Aside0.mk (show ∀ k, (Kd.int .u8).R 5 ((wr.drewN k).setCell ⟨g, m, none⟩ (.int .u8 (imul iv (rd r (m : Int))))) w.heap.size (fun _ => True) (.slice (some ⟨g, 0, none⟩) width cap) (mulUpto iv r (m + 1)) from by
       intro k
       rw [← mulUpto_set]
       have := Kd.R_putn (Kd.R_drewN HR.out k) ((m : Nat) : Int) (imul iv (rd r (m : Int)))
       rw [Int.toNat_natCast] at this
       exact this)
      clear hRi
      go_wp2_with (go_at_call 87; (with_reducible refine (HMU.out _ (by repeat (first | exact Below.refl _ _ | apply pw_below_drewN | apply below_drew))).mono ?_); rintro e w' ⟨rfl, ⟨nd2, rfl⟩⟩)
      go_roundw
      case rel => exact ⟨m + 1, by omega, by go_num, ⟨HK.out _⟩, ⟨below_set (pw_below_drewN HB.out _) hgb⟩⟩
      case measure => simp [intOf]; omega
     ·obtain rfl : m = width := by omega
      have hme : mulUpto iv r m = mulRow iv r := by rw [← mulUpto_all, HRLn.out]
      have hR := HR.out
      rw [hme] at hR
      have HR2 := Aside0.mk hR
      have HSC := Aside0.mk (fun W (hb : Below base w0 W) => gf_Scale.scale iv p hiB (Nat.le_trans hpM hM) W (HG0.out W hb))
      have hbw := blk_below HBK.out HB.out
      have hcy0 : wr.cell? ⟨gs, 0, none⟩ = some (.slice Ar j cr) := blk_cell hbw 0
      have hcy1 : wr.cell? ⟨gs, 1, none⟩ = some (.slice Ap j cp) := blk_cell hbw 1
      have HBW := Aside0.mk hbw
      clear hR HR hbw hme
      go_wp2
      have hel : (st.map Prod.fst).length = j ∧ (st.map Prod.snd).length = j := by rw [List.length_map, List.length_map]; exact ⟨HN.out.symm, HN.out.symm⟩
      have HEL := Aside0.mk hel
      generalize hrn : mulRow iv r = rn at HR2 HAD
      generalize hpn : scaleBytes iv p = pn at HSC HAD
      have HNE1 := Aside0.mk (Kd.S_ne HVR.out HBK.out (by decide))
      have HNE2 := Aside0.mk (Kd.R_ne HVP.out HBK.out (by decide))
      clear hrn hpn hel hcy0 hcy1
      have hcy0 : wr.drew.cell? ⟨gs, 0, none⟩ = some (.slice Ar j cr) := blk_cell (blk_drew HBW.out) 0
      have hcy1 : wr.drew.cell? ⟨gs, 1, none⟩ = some (.slice Ap j cp) := blk_cell (blk_drew HBW.out) 1
      have HBd := Aside0.mk (below_drew HB.out)
      have HBWd := Aside0.mk (blk_drew HBW.out)
      have HVR1 := Aside0.mk (Kd.S_below HVR.out HBd.out)
      have HVR2 := Aside0.mk (Kd.S_below (Kd.S_mono (Kd.S_elderB HVR.out g hgb) (fun _ h_ => h_)) HBd.out)
      have HVP1 := Aside0.mk (Kd.R_below HVP.out HBd.out)
      have HRN1 := Aside0.mk (Kd.R_mono (Kd.R_lower (Kd.R_tight rfl (Kd.R_drew HR2.out)) hbs) (ok' := fun k => k = g) (fun k hk => by have : k = g := (by simpa [Value.ownBlock] using hk); exact this))
      have HBB := Aside0.mk (below_base HB0.out hbs HBd.out)
      have HBS := Aside0.mk HBd.out.size
      refine start_ (n := 24) (S := fun w' => w'.cell? ⟨gs, 0, none⟩ = some (.slice Ar j cr) ∧ w'.cell? ⟨gs, 1, none⟩ = some (.slice Ap j cp)) (ds := [20, 23]) #[false, false, false, false, false, false, false, false, false, false, false, false, false, false, false, false, false, false, false, false, false, false, false, false] (by kernel_rfl) rfl rfl ⟨hcy0, hcy1⟩ (fun hHeld => ?_)
      clear HB HR2 HBW
      generalize wr.drew = wd at *
      refine pure_ (i := 0) (N := some 97) (v := ?_) (a' := ?_) #[true, false, false, false, false, false, false, false, false, false, false, false, false, false, false, false, false, false, false, false, false, false, false, false] rfl rfl (by kernel_rfl) (fun _ _ _ h => h) (Or.inl ⟨by rfl, ?_⟩) ?_ ?_
      rotate_left
      ·intro w'
       go_simp
       with_reducible rfl
      rotate_left
      ·simp only [Act.put, List.setIfInBounds_toArray, List.set_cons_zero, List.set_cons_succ, i64_w, i32_w]
       rfl
      refine pure_ (i := 1) (N := some 98) (v := ?_) (a' := ?_) #[true, true, false, false, false, false, false, false, false, false, false, false, false, false, false, false, false, false, false, false, false, false, false, false] rfl rfl (by kernel_rfl) (fun _ _ _ h => h) (Or.inl ⟨by rfl, ?_⟩) ?_ ?_
      rotate_left
      ·intro w'
       go_simp
       with_reducible rfl
      rotate_left
      ·simp only [Act.put, List.setIfInBounds_toArray, List.set_cons_zero, List.set_cons_succ, i64_w, i32_w]
       rfl
      refine pure_ (i := 2) (N := some 99) (v := ?_) (a' := ?_) #[true, true, true, false, false, false, false, false, false, false, false, false, false, false, false, false, false, false, false, false, false, false, false, false] rfl rfl (by kernel_rfl) (fun _ _ _ h => h) (Or.inl ⟨by rfl, ?_⟩) ?_ ?_
      rotate_left
      ·intro w'
       go_simp
       with_reducible rfl
      rotate_left
      ·simp only [Act.put, List.setIfInBounds_toArray, List.set_cons_zero, List.set_cons_succ, i64_w, i32_w]
       rfl
      refine pure_ (i := 3) (N := some 100) (v := ?_) (a' := ?_) #[true, true, true, true, false, false, false, false, false, false, false, false, false, false, false, false, false, false, false, false, false, false, false, false] rfl rfl (by kernel_rfl) (fun _ _ _ h => h) (Or.inl ⟨by rfl, ?_⟩) ?_ ?_
      rotate_left
      ·intro w'
       go_simp
       with_reducible rfl
      rotate_left
      ·simp only [Act.put, List.setIfInBounds_toArray, List.set_cons_zero, List.set_cons_succ, i64_w, i32_w]
       rfl
      refine pure_ (i := 4) (N := some 101) (v := ?_) (a' := ?_) #[true, true, true, true, true, false, false, false, false, false, false, false, false, false, false, false, false, false, false, false, false, false, false, false] rfl rfl (by kernel_rfl) (fun _ _ _ h => h) (Or.inl ⟨by rfl, ?_⟩) ?_ ?_
      rotate_left
      ·intro w'
       go_simp
       with_reducible rfl
      rotate_left
      ·simp only [Act.put, List.setIfInBounds_toArray, List.set_cons_zero, List.set_cons_succ, i64_w, i32_w]
       rfl
      refine pure_ (i := 6) (N := some 103) (v := ?_) (a' := ?_) #[true, true, true, true, true, false, true, false, false, false, false, false, false, false, false, false, false, false, false, false, false, false, false, false] rfl rfl (by kernel_rfl) (fun _ _ _ h => h) (Or.inl ⟨by rfl, ?_⟩) ?_ ?_
      rotate_left
      ·intro w'
       go_simp
       with_reducible rfl
      rotate_left
      ·simp only [Act.put, List.setIfInBounds_toArray, List.set_cons_zero, List.set_cons_succ, i64_w, i32_w]
       rfl
      refine pure_ (i := 9) (N := some 106) (v := ?_) (a' := ?_) #[true, true, true, true, true, false, true, false, false, true, false, false, false, false, false, false, false, false, false, false, false, false, false, false] rfl rfl (by kernel_rfl) (fun _ _ _ h => h) (Or.inl ⟨by rfl, ?_⟩) ?_ ?_
      rotate_left
      ·intro w'
       go_simp
       with_reducible rfl
      rotate_left
      ·simp only [Act.put, List.setIfInBounds_toArray, List.set_cons_zero, List.set_cons_succ, i64_w, i32_w]
       rfl
      refine pure_ (i := 10) (N := some 107) (v := ?_) (a' := ?_) #[true, true, true, true, true, false, true, false, false, true, true, false, false, false, false, false, false, false, false, false, false, false, false, false] rfl rfl (by kernel_rfl) (fun _ _ _ h => h) (Or.inl ⟨by rfl, ?_⟩) ?_ ?_
      rotate_left
      ·intro w'
       go_simp
       with_reducible rfl
      rotate_left
      ·simp only [Act.put, List.setIfInBounds_toArray, List.set_cons_zero, List.set_cons_succ, i64_w, i32_w]
       rfl
      refine pure_ (i := 11) (N := some 108) (v := ?_) (a' := ?_) #[true, true, true, true, true, false, true, false, false, true, true, true, false, false, false, false, false, false, false, false, false, false, false, false] rfl rfl (by kernel_rfl) (fun _ _ _ h => h) (Or.inl ⟨by rfl, ?_⟩) ?_ ?_
      rotate_left
      ·intro w'
       go_simp
       with_reducible rfl
      rotate_left
      ·simp only [Act.put, List.setIfInBounds_toArray, List.set_cons_zero, List.set_cons_succ, i64_w, i32_w]
       rfl
      refine pure_ (i := 13) (N := some 110) (v := ?_) (a' := ?_) #[true, true, true, true, true, false, true, false, false, true, true, true, false, true, false, false, false, false, false, false, false, false, false, false] rfl rfl (by kernel_rfl) (fun _ _ _ h => h) (Or.inl ⟨by rfl, ?_⟩) ?_ ?_
      rotate_left
      ·intro w'
       go_simp
       with_reducible rfl
      rotate_left
      ·simp only [Act.put, List.setIfInBounds_toArray, List.set_cons_zero, List.set_cons_succ, i64_w, i32_w]
       rfl
      refine pure_ (i := 14) (N := some 111) (v := ?_) (a' := ?_) #[true, true, true, true, true, false, true, false, false, true, true, true, false, true, true, false, false, false, false, false, false, false, false, false] rfl rfl (by kernel_rfl) (fun _ _ _ h => h) (Or.inl ⟨by rfl, ?_⟩) ?_ ?_
      rotate_left
      ·intro w'
       go_simp
       with_reducible rfl
      rotate_left
      ·simp only [Act.put, List.setIfInBounds_toArray, List.set_cons_zero, List.set_cons_succ, i64_w, i32_w]
       rfl
      refine take_ (i := 5) (N := some 102) (v := ?_) (a' := ?_) #[true, true, true, true, true, true, true, false, false, true, true, true, false, true, true, false, false, false, false, false, false, false, false, false] rfl rfl (by kernel_rfl) (fun _ _ _ h => h) (Or.inl ⟨by rfl, ?_⟩) hHeld ?_ ?_
      rotate_left
      ·rintro w' ⟨s0, s1⟩
       go_simp
       with_reducible rfl
      rotate_left
      ·simp only [Act.put, List.setIfInBounds_toArray, List.set_cons_zero, List.set_cons_succ, i64_w, i32_w]
       rfl
      refine take_ (i := 12) (N := some 109) (v := ?_) (a' := ?_) #[true, true, true, true, true, true, true, false, false, true, true, true, true, true, true, false, false, false, false, false, false, false, false, false] rfl rfl (by kernel_rfl) (fun _ _ _ h => h) (Or.inl ⟨by rfl, ?_⟩) hHeld ?_ ?_
      rotate_left
      ·rintro w' ⟨s0, s1⟩
       go_simp
       with_reducible rfl
      rotate_left
      ·simp only [Act.put, List.setIfInBounds_toArray, List.set_cons_zero, List.set_cons_succ, i64_w, i32_w]
       rfl
      refine one_ (i := 7) (N := some 104) #[true, true, true, true, true, true, true, true, false, true, true, true, true, true, true, false, false, false, false, false, false, false, false, false] rfl rfl (by kernel_rfl) (by decide) (fun K hK => ?_)
      refine value_ (w1 := ?_) (v := ?_) (by rfl) rfl ?_ ?_
      rotate_left 2
      ·go_simp
       constructor
       ·rfl
       ·rfl
      refine hK.out _ _ ⟨blk_cell (blk_alloc HBWd.out _) 0, blk_cell (blk_alloc HBWd.out _) 1⟩ (fun hHeld => ?_)
      clear hK K
      refine norm_ (a' := ?_) ?_ ?_
      rotate_left
      ·show Act.put _ (some 104) _ = _
       simp only [Act.put, List.setIfInBounds_toArray, List.set_cons_zero, List.set_cons_succ, i64_w, i32_w]
       rfl
      refine one_ (i := 8) (N := some 105) #[true, true, true, true, true, true, true, true, true, true, true, true, true, true, true, false, false, false, false, false, false, false, false, false] rfl rfl (by kernel_rfl) (by decide) (fun K hK => ?_)
      refine Kd.S_append_step (Kd.slice 5 (Kd.int .u8)) (w0 := w0) base (by rfl) (.tmp 102) (.tmp 104) 29 57 (.slice none 0 0) 24 rfl Tryd.underlying29 info57 rfl (by decide) (by omega) (.slice Ar j cr) (st.map Prod.fst) rn [.slice (some ⟨g, 0, none⟩) m cap] (fun _ => True) (fun k_ => k_ = g) rfl rfl ?aP ?aK ?aF ?aO ?aB ?aS ?aL ?_
      (case aP => exact Kd.M_row HRN1.out)
      (case aK => exact fun k_ hk_ => ⟨trivial, fun e_ => by have := Kd.S_lt HVR.out k_ e_.symm; omega⟩)
      (case aF => exact fun _ _ => trivial)
      (case aO => exact HVR2.out)
      (case aB => exact HBB.out)
      (case aS => exact Nat.le_trans hbs HBS.out)
      (case aL => have := HEL.out.1; omega)
      intro v1 w3 ho hb hg hat
      obtain ⟨A1, c1, hv1⟩ := Kd.S_slice ho
      generalize (st.map Prod.fst ++ [rn]).length = n1 at hv1
      subst hv1
      have HO3 := Aside0.mk ho
      have HB3 := Aside0.mk hb
      have HBW3 := Aside0.mk (blk_grown HBWd.out hg HNE1.out)
      have HVP3 := Aside0.mk (Kd.R_over HVP1.out (Kd.S_R HVR1.out) (by decide) hg)
      have HS3 := Aside0.mk hg.size
      clear ho hb hg hat
      refine hK.out _ _ ⟨blk_cell HBW3.out 0, blk_cell HBW3.out 1⟩ (fun hHeld => ?_)
      clear hK K
      refine norm_ (a' := ?_) ?_ ?_
      rotate_left
      ·show Act.put _ (some 105) _ = _
       simp only [Act.put, List.setIfInBounds_toArray, List.set_cons_zero, List.set_cons_succ, i64_w, i32_w]
       rfl
      refine one_ (i := 15) (N := some 112) #[true, true, true, true, true, true, true, true, true, true, true, true, true, true, true, true, false, false, false, false, false, false, false, false] rfl rfl (by kernel_rfl) (by decide) (fun K hK => ?_)
      refine goes_ Tryd.func106 (by kernel_rfl) rfl #[.int .u8 iv, .string p] (by rfl) rfl rfl (by simp only [List.map_toArray, List.map_cons, List.map_nil]; rfl) ?_
      with_reducible refine (HSC.out _ HB3.out).mono ?_
      rintro e w4 ⟨rfl, hb4⟩
      refine ⟨_, rfl, ?_⟩
      have HB4 := Aside0.mk (HB3.out.trans ⟨hb4.os, hb4.tape, hb4.output, hb4.size, fun i hi => hb4.block i (by have := HS3.out; have := HBS.out; omega)⟩)
      have HBW4 := Aside0.mk (blk_below HBW3.out hb4)
      have HVP4 := Aside0.mk (Kd.R_below HVP3.out hb4)
      have HO4 := Aside0.mk (Kd.S_below HO3.out hb4)
      have HS4 := Aside0.mk hb4.size
      clear hb4
      refine hK.out _ _ ⟨blk_cell HBW4.out 0, blk_cell HBW4.out 1⟩ (fun hHeld => ?_)
      clear hK K
      refine norm_ (a' := ?_) ?_ ?_
      rotate_left
      ·show Act.put _ (some 112) _ = _
       simp only [Act.put, List.setIfInBounds_toArray, List.set_cons_zero, List.set_cons_succ, i64_w, i32_w]
       rfl
      refine one_ (i := 16) (N := some 113) #[true, true, true, true, true, true, true, true, true, true, true, true, true, true, true, true, true, false, false, false, false, false, false, false] rfl rfl (by kernel_rfl) (by decide) (fun K hK => ?_)
      refine value_ (w1 := ?_) (v := ?_) (by rfl) rfl ?_ ?_
      rotate_left 2
      ·go_simp
       constructor
       ·rfl
       ·rfl
      refine hK.out _ _ ⟨blk_cell (blk_alloc HBW4.out _) 0, blk_cell (blk_alloc HBW4.out _) 1⟩ (fun hHeld => ?_)
      clear hK K
      refine norm_ (a' := ?_) ?_ ?_
      rotate_left
      ·show Act.put _ (some 113) _ = _
       simp only [Act.put, List.setIfInBounds_toArray, List.set_cons_zero, List.set_cons_succ, i64_w, i32_w]
       rfl
      refine one_ (i := 17) (N := some 114) #[true, true, true, true, true, true, true, true, true, true, true, true, true, true, true, true, true, true, false, false, false, false, false, false] rfl rfl (by kernel_rfl) (by decide) (fun K hK => ?_)
      refine Kd.R_append_step Kd.string (w0 := w0) base (by rfl) (.tmp 109) (.tmp 113) 32 9 (.string ⟨#[]⟩) 16 rfl Tryd.underlying32 info9 rfl (by decide) (by omega) (.slice Ap j cp) (st.map Prod.snd) pn [.string pn] (fun _ => True) (fun _ => False) rfl rfl ?bP (fun _ hk => hk.elim) ?bF ?bO ?bB ?bS ?bL ?_
      (case bP => exact rfl)
      (case bF => exact fun _ _ => trivial)
      (case bO => exact HVP4.out)
      (case bB => exact HB4.out)
      (case bS => have := HS3.out; have := HBS.out; have := HS4.out; omega)
      (case bL => have := HEL.out.2; omega)
      intro v2 w5 ho hb hg hat
      obtain ⟨A2, c2, hv2⟩ := Kd.R_slice ho
      generalize (st.map Prod.snd ++ [pn]).length = n2 at hv2
      subst hv2
      have HP5 := Aside0.mk ho
      have HB5 := Aside0.mk hb
      have HBW5 := Aside0.mk (blk_grown HBW4.out hg HNE2.out)
      have HO5 := Aside0.mk (Kd.S_over' HO4.out (Kd.R_typed HVP4.out) (by decide) hg)
      have HS5 := Aside0.mk hg.size
      have hfz := blk_frozen HBW5.out 0
      have hfc := blk_cell HBW5.out 0
      have hb6 := blk_set HBW5.out 0 (.slice A1 n1 c1)
      have HBW6 := Aside0.mk hb6
      have hfz6 := blk_frozen hb6 1
      have hfc6 := blk_cell hb6 1
      clear ho hb hg hat hb6
      refine hK.out _ _ ⟨blk_cell HBW5.out 0, blk_cell HBW5.out 1⟩ (fun hHeld => ?_)
      clear hK K
      refine norm_ (a' := ?_) ?_ ?_
      rotate_left
      ·show Act.put _ (some 114) _ = _
       simp only [Act.put, List.setIfInBounds_toArray, List.set_cons_zero, List.set_cons_succ, i64_w, i32_w]
       rfl
      refine pure_ (i := 18) (N := some 115) (v := ?_) (a' := ?_) #[true, true, true, true, true, true, true, true, true, true, true, true, true, true, true, true, true, true, true, false, false, false, false, false] rfl rfl (by kernel_rfl) (fun _ _ _ h => h) (Or.inl ⟨by rfl, ?_⟩) ?_ ?_
      rotate_left
      ·intro w'
       go_simp
       with_reducible rfl
      rotate_left
      ·simp only [Act.put, List.setIfInBounds_toArray, List.set_cons_zero, List.set_cons_succ, i64_w, i32_w]
       rfl
      refine pure_ (i := 19) (N := some 116) (v := ?_) (a' := ?_) #[true, true, true, true, true, true, true, true, true, true, true, true, true, true, true, true, true, true, true, true, false, false, false, false] rfl rfl (by kernel_rfl) (fun _ _ _ h => h) (Or.inl ⟨by rfl, ?_⟩) ?_ ?_
      rotate_left
      ·intro w'
       go_simp
       with_reducible rfl
      rotate_left
      ·simp only [Act.put, List.setIfInBounds_toArray, List.set_cons_zero, List.set_cons_succ, i64_w, i32_w]
       rfl
      refine last_ (i := 20) (N := none) #[true, true, true, true, true, true, true, true, true, true, true, true, true, true, true, true, true, true, true, true, true, false, false, false] rfl rfl (by kernel_rfl) (by decide) (fun K hK => ?_)
      refine skip_ (w1 := ?_) (by rfl) rfl ?_ ?_
      rotate_left
      ·go_simp
       rfl
      refine hK.out _ _ ?_
      clear hK K
      refine pure_ (i := 21) (N := some 117) (v := ?_) (a' := ?_) #[true, true, true, true, true, true, true, true, true, true, true, true, true, true, true, true, true, true, true, true, true, true, false, false] rfl rfl (by kernel_rfl) (fun _ _ _ h => h) (Or.inl ⟨by rfl, ?_⟩) ?_ ?_
      rotate_left
      ·intro w'
       go_simp
       with_reducible rfl
      rotate_left
      ·simp only [Act.put, List.setIfInBounds_toArray, List.set_cons_zero, List.set_cons_succ, i64_w, i32_w]
       rfl
      refine pure_ (i := 22) (N := some 118) (v := ?_) (a' := ?_) #[true, true, true, true, true, true, true, true, true, true, true, true, true, true, true, true, true, true, true, true, true, true, true, false] rfl rfl (by kernel_rfl) (fun _ _ _ h => h) (Or.inl ⟨by rfl, ?_⟩) ?_ ?_
      rotate_left
      ·intro w'
       go_simp
       with_reducible rfl
      rotate_left
      ·simp only [Act.put, List.setIfInBounds_toArray, List.set_cons_zero, List.set_cons_succ, i64_w, i32_w]
       rfl
      refine last_ (i := 23) (N := none) #[true, true, true, true, true, true, true, true, true, true, true, true, true, true, true, true, true, true, true, true, true, true, true, true] rfl rfl (by kernel_rfl) (by decide) (fun K hK => ?_)
      refine skip_ (w1 := ?_) (by rfl) rfl ?_ ?_
      rotate_left
      ·go_simp
       rfl
      refine hK.out _ _ ?_
      clear hK K
      refine done_ (by kernel_rfl) ?_
      go_wp2
      go_ret
      have hn := HAD.out
      rw [hn]
      refine ⟨rfl, ⟨hgs, _, _, blk_set HBW6.out 1 (.slice A2 n2 c2), ?_, ?_⟩, ?_, ?_⟩
      ·rw [show (some (rn, pn)).toList = [(rn, pn)] from rfl, List.map_append]
       exact Kd.S_set (Kd.S_set HO5.out HBW5.out (by decide) 0 _) HBW6.out (by decide) 1 _
      ·rw [show (some (rn, pn)).toList = [(rn, pn)] from rfl, List.map_append]
       exact Kd.R_set (Kd.R_set HP5.out HBW5.out (by decide) 0 _) HBW6.out (by decide) 1 _
      ·exact (HB5.out.setCell (p := ⟨gs, 0, none⟩) hgs _).setCell (p := ⟨gs, 1, none⟩) hgs _
      ·have h1 := HS3.out; have h2 := HBS.out; have h3 := HS4.out; have h4 := HS5.out
       rw [World.size_setCell, World.size_setCell]; omega


/-! ### code_collect: function 67 -/
/-- The stairs of the first n rows that a set names. -/
def collectUpto (width mask : Nat) (rows : List (List Int)) (pieces : List ByteArray) : Nat → St
 | 0 => []
 | n + 1 => if (mask >>> n) % 2 = 1 ∧ (collectUpto width mask rows pieces n).length < width then collectUpto width mask rows pieces n ++ (addSt (collectUpto width mask rows pieces n) (rd_L4 rows (n : Int)) (rdOf ByteArray.empty pieces (n : Int))).toList else collectUpto width mask rows pieces n
def rowWidth (rows : List (List Int)) : Nat := (rd_L4 rows ((0 : Nat) : Int)).length
def collectSt (rows : List (List Int)) (mask : Nat) (pieces : List ByteArray) : St := collectUpto (rowWidth rows) mask rows pieces rows.length
def collectOk (rows : List (List Int)) (mask : Int) (pieces : List ByteArray) : Option St :=
 if rows.length = 0 ∨ mask < 0 ∨ (2 : Int) ^ rows.length ≤ mask then none else if (collectSt rows mask.toNat pieces).length < rowWidth rows then none else some (collectSt rows mask.toNat pieces)
theorem collectUpto_length (width mask : Nat) (rows : List (List Int)) (pieces : List ByteArray) : ∀ n, (collectUpto width mask rows pieces n).length ≤ width
 | 0 => Nat.zero_le _
 | n + 1 => by
  have ih := collectUpto_length width mask rows pieces n
  unfold collectUpto
  split
  ·next h =>
   rw [List.length_append]
   have : ∀ o : Option (List Int × ByteArray), o.toList.length ≤ 1 := fun o => by cases o <;> simp
   have := this (addSt (collectUpto width mask rows pieces n) (rd_L4 rows (n : Int)) (rdOf ByteArray.empty pieces (n : Int)))
   omega
  ·exact ih
theorem imul_ne {a b : Int} (ha : isB a = true) (hb : isB b = true) (h1 : a ≠ 0) (h2 : b ≠ 0) : imul a b ≠ 0 := by
 rw [isB_iff] at ha hb
 obtain ⟨m, rfl⟩ := Int.eq_ofNat_of_zero_le ha.1
 obtain ⟨n, rfl⟩ := Int.eq_ofNat_of_zero_le hb.1
 intro h
 have h' : QGF.mulN m n = 0 := by
  have : ((QGF.mulN m n : Nat) : Int) = 0 := h
  omega
 rcases QGF.mul_eq_zero (by omega) (by omega) h' with e | e <;> omega
theorem iinv_ne {a : Int} (ha : isB a = true) (h1 : a ≠ 0) : iinv a ≠ 0 := by
 rw [isB_iff] at ha
 obtain ⟨m, rfl⟩ := Int.eq_ofNat_of_zero_le ha.1
 intro h
 have h' : QGF.invN m = 0 := by
  have : ((QGF.invN m : Nat) : Int) = 0 := h
  omega
 exact QGF.inv_ne (a := m) (by omega) (by omega) h'
theorem fstIdx_lt {r : List Int} {i : Nat} (h : i < r.length) (h0 : rd r (i : Int) ≠ 0) : fstIdx r < r.length := by
 rw [rdi h] at h0
 exact List.findIdx_lt_length.2 ⟨r[i], List.getElem_mem h, bne_iff_ne.2 h0⟩
theorem rd_fst {r : List Int} (h : fstIdx r < r.length) : rd r ((fstIdx r : Nat) : Int) ≠ 0 := by
 rw [rdi h]
 exact bne_iff_ne.1 (List.findIdx_getElem (xs := r) (p := fun x => x != 0) (w := h))
theorem addSt_wf {width M : Nat} {st : St} (h : WfSt width M st) {row : List Int} {part : ByteArray} (hr : WfRow width M (row, part)) {x : List Int × ByteArray} (hx : addSt st row part = some x) : WfRow width M x ∧ fstIdx x.1 < width := by
 have hw := redRow_wf h hr
 unfold addSt at hx
 by_cases hz : fstIdx (redRow st (row, part)).1 = (redRow st (row, part)).1.length
 ·rw [if_pos hz] at hx; cases hx
 ·rw [if_neg hz] at hx
  obtain rfl := Option.some.inj hx
  have hlt : fstIdx (redRow st (row, part)).1 < (redRow st (row, part)).1.length := Nat.lt_of_le_of_ne (fstIdx_le _) hz
  have hne := rd_fst hlt
  have hB := isB_rd hw.1 _ hlt
  refine ⟨⟨all_isB_mul (isB_inv _), by rw [mulRow_length]; exact hw.2.1, by rw [scaleBytes_size]; exact hw.2.2⟩, ?_⟩
  have := fstIdx_lt (r := mulRow (iinv (rd (redRow st (row, part)).1 ((fstIdx (redRow st (row, part)).1 : Nat) : Int))) (redRow st (row, part)).1) (i := fstIdx (redRow st (row, part)).1) (by rw [mulRow_length]; exact hlt) (by
   rw [rdi (by rw [mulRow_length]; exact hlt)]
   simp only [mulRow, List.getElem_map, List.getElem_range]
   exact imul_ne (isB_inv _) hB (iinv_ne hB hne) hne)
  rw [mulRow_length, hw.2.1] at this
  exact this
theorem WfSt.snoc {width M : Nat} {st : St} (h : WfSt width M st) {row : List Int} {part : ByteArray} (hr : WfRow width M (row, part)) : WfSt width M (st ++ (addSt st row part).toList) := by
 intro x hx
 rcases List.mem_append.1 hx with hx | hx
 ·exact h x hx
 ·cases he : addSt st row part with
  | none => rw [he] at hx; cases hx
  | some y =>
   rw [he] at hx
   obtain rfl : x = y := by simpa using hx
   exact addSt_wf h hr he
theorem collectUpto_wf {width M mask : Nat} {rows : List (List Int)} {pieces : List ByteArray} (hr : ∀ k, k < rows.length → WfRow width M (rd_L4 rows (k : Int), rdOf ByteArray.empty pieces (k : Int))) : ∀ n, n ≤ rows.length → WfSt width M (collectUpto width mask rows pieces n)
 | 0, _ => fun x hx => by cases hx
 | n + 1, h => by
  have ih := collectUpto_wf (mask := mask) hr n (by omega)
  unfold collectUpto
  split
  ·exact ih.snoc (hr n (by omega))
  ·exact ih
theorem StairsAt.nil (width : Nat) (W : World) (base : Nat) (hb : base ≤ W.heap.size) : StairsAt W.heap.size base width (W.alloc (.cells #[.slice none 0 0, .slice none 0 0, .int .i64 (width : Int)] 117)) [] :=
 ⟨hb, _, _, blk_new _ _, Kd.S_nil _ _ _ _ _, Kd.R_nil _ _ _ _ _⟩
theorem equalIn_nil (P : Program) (t e : TypeId) (h : P.underlying t = some (.slice e)) (d : Nat) (a : Option Addr) (l c : Nat) (w : World) : (Op.equalIn (d + 1) t (.slice a l c) (.slice none 0 0)).run P w = .ok a.isNone w := by
 cases a <;> simp [Op.equalIn, run_underlying h]
theorem neq_nil (P : Program) (t e : TypeId) (h : P.underlying t = some (.slice e)) : ∀ (a : Option Addr) (l c : Nat) (w : World), (binOp .neq t (.slice a l c) (.slice none 0 0)).run P w = .ok (.bool (!a.isNone)) w := by
 intro a l c w
 have h1 : (Op.equal t (.slice a l c) (.slice none 0 0)).run P w = .ok a.isNone w := equalIn_nil P t e h 9999 a l c w
 simp only [binOp, Sem.run_bind, h1, Result.andThen_ok, Sem.run_pure]
theorem enters91 : ∀ args W, (callFunc 91 args).run Tryd.prog W = .ok (.enter 91 args) W := enters_of Tryd.func91 (by kernel_rfl) rfl
set_option maxHeartbeats 4000000 in
set_option maxRecDepth 100000 in
theorem code_collect.calls (M : Nat) (w : World) (Ar : Option Addr) (cr : Nat) (rows : List (List Int)) (mask : Int) (Ap : Option Addr) (cp : Nat) (pieces : List ByteArray) (hG : HG w)
  (hr : Kd.C (Kd.slice 5 (Kd.int .u8)) w Ar rows.length rows) (hcr : rows.length ≤ cr) (hrl : rows.length ≤ 24) (hw : 0 < rows.length → 1 ≤ rowWidth rows) (hw2 : rowWidth rows ≤ 16) (hM : M ≤ 140737488351232)
  (hp : Kd.C Kd.string w Ap pieces.length pieces) (hcp : pieces.length ≤ cp) (hnil : (Ap = none ∧ pieces = [] ∧ cp = 0) ∨ (Ap.isSome = true ∧ rows.length ≤ pieces.length))
  (hwf : ∀ k, k < rows.length → WfRow (rowWidth rows) M (rd_L4 rows (k : Int), rdOf ByteArray.empty pieces (k : Int))) :
  Calls Tryd.prog 67 #[.slice Ar rows.length cr, .int .i64 mask, .slice Ap pieces.length cp] w fun e w' =>
   Below w.heap.size w w' ∧ ((collectOk rows mask pieces = none ∧ e = .returned (.pointer none)) ∨ ∃ gs st, collectOk rows mask pieces = some st ∧ e = .returned (.pointer (some ⟨gs, 0, none⟩)) ∧ StairsAt gs w.heap.size (rowWidth rows) w' st) := by
 have hmf := run_mf Tryd.prog
 have hu117 := Tryd.underlying117
 have hnn := neq_nil Tryd.prog 32 9 Tryd.underlying32
 by_cases h0 : rows.length = 0
 ·have hok : collectOk rows mask pieces = none := if_pos (.inl h0)
  have h0b : ((rows.length : Int) == 0) = true := beq_iff_eq.2 (by omega)
  clear hr hp hwf hG
  go_enter Tryd.func67, Tryd.ntmps67
  go_wp2
  go_ret
  exact ⟨Below.refl _ _, .inl ⟨hok, rfl⟩⟩
 ·have h0b : ((rows.length : Int) == 0) = false := beq_eq_false_iff_ne.2 (by omega)
  have h0c : (rows.length == 0) = false := beq_eq_false_iff_ne.2 h0
  by_cases hneg : mask < 0
  ·have hok : collectOk rows mask pieces = none := if_pos (.inr (.inl hneg))
   clear hr hp hwf hG
   go_enter Tryd.func67, Tryd.ntmps67
   go_wp2
   go_ret
   exact ⟨Below.refl _ _, .inl ⟨hok, rfl⟩⟩
  ·have hw1 : wrap64 ((2 : Int) ^ rows.length) = 2 ^ rows.length := by
    have h1 : 2 ^ rows.length ≤ 2 ^ 24 := Nat.pow_le_pow_right (by decide) hrl
    have h2 : ((2 : Int) ^ rows.length) = ((2 ^ rows.length : Nat) : Int) := by simp
    rw [h2]
    generalize 2 ^ rows.length = z at h1
    unfold wrap64; omega
   by_cases hbig : (2 : Int) ^ rows.length ≤ mask
   ·have hok : collectOk rows mask pieces = none := if_pos (.inr (.inr hbig))
    have hb1 : decide (wrap64 ((2 : Int) ^ rows.length) ≤ mask) = true := decide_eq_true (by rw [hw1]; exact hbig)
    have HOK := Aside0.mk hok
    clear hr hp hwf hG hw1 hok
    go_enter Tryd.func67, Tryd.ntmps67
    go_wp2
    go_ret
    exact ⟨Below.refl _ _, .inl ⟨HOK.out, rfl⟩⟩
   ·have hb1 : decide (wrap64 ((2 : Int) ^ rows.length) ≤ mask) = false := decide_eq_false (by rw [hw1]; exact hbig)
    clear hw1
    have hok : collectOk rows mask pieces = if (collectSt rows mask.toNat pieces).length < rowWidth rows then none else some (collectSt rows mask.toNat pieces) := if_neg (by omega)
    obtain ⟨mk, rfl⟩ := Int.eq_ofNat_of_zero_le (show 0 ≤ mask by omega)
    rw [Int.toNat_natCast] at hok
    unfold collectSt at hok
    have hmk : mk < 2 ^ 24 := by
     have h1 : 2 ^ rows.length ≤ 2 ^ 24 := Nat.pow_le_pow_right (by decide) hrl
     have h2 : ((2 : Int) ^ rows.length) = ((2 ^ rows.length : Nat) : Int) := by simp
     rw [h2] at hbig
     omega
    obtain ⟨ad0, A0, c0, rfl, hx0, hx1, hx2⟩ := at_bytes_nat' hr 0 (by omega)
    have hwd : (rd_L4 rows ((0 : Nat) : Int)).length = rowWidth rows := rfl
    rw [hwd] at hx0 hx1 hx2
    rw [show ad0.add 0 = ad0 by unfold Addr.add; rfl] at hx0
    have HOK := Aside0.mk hok
    have HWF := Aside0.mk hwf
    have HG0 := Aside0.mk hG
    have HR := Aside0.mk hr
    have HP := Aside0.mk hp
    have HE := Aside0.mk enters91
    have hw' := hw (by omega)
    clear hok hwf hG hr hp hbig hw hwd hx2
    generalize hwd : rowWidth rows = width at *
    generalize hRN : rows.length = N at *
    generalize hpl : pieces.length = np at *
    have HPL := Aside0.mk hpl
    clear hpl
    go_enter Tryd.func67, Tryd.ntmps67
    go_wp2
    have hI0 := StairsAt.nil width w w.heap.size (Nat.le_refl _)
    have HI0 := Aside0.mk hI0
    clear hI0
    go_loopw [36] (fun v W => ∃ j : Nat, j ≤ N ∧ v = .int .i64 (j : Int) ∧ Aside0 (StairsAt w.heap.size w.heap.size width W (collectUpto width mk rows pieces j)) ∧ Aside0 (Below w.heap.size w W)) (fun v _ => N - (intOf v).toNat)
    case atStart => exact ⟨0, Nat.zero_le _, rfl, HI0, ⟨below_alloc (Below.refl _ _) _⟩⟩
    case round =>
     clear HI0
     obtain ⟨j, hj, rfl, HS, HB⟩ := hrel
     have hsl := collectUpto_length width mk rows pieces j
     obtain ⟨_, vr, vp, hbk, hvr, hvp⟩ := HS.out
     obtain ⟨As, cs, rfl⟩ := Kd.S_slice hvr
     rw [List.length_map] at hbk
     have hcy0 : wr.cell? ⟨w.heap.size, 0, none⟩ = some (.slice As (collectUpto width mk rows pieces j).length cs) := blk_cell hbk 0
     have hcy2 : wr.cell? ⟨w.heap.size, 2, none⟩ = some (.int .i64 (width : Int)) := blk_cell hbk 2
     clear hbk hvr hvp
     by_cases hlt : j < N
     ·obtain ⟨ad1, A1, c1, e1, hy0, hy1, hy2⟩ := at_bytes_nat' HR.out j hlt
      obtain rfl : ad0 = ad1 := by injection e1
      have hwf1 := HWF.out j hlt
      rw [hwf1.2.1] at hy0 hy1 hy2
      have hy0 := pw_cell_below HB.out hy0
      have hB1 : Go.bits .and .i64 ((mk : Int) / 2 ^ j) 1 = ((mk >>> j % 2 : Nat) : Int) := by
       rw [show ((mk : Int) / 2 ^ j) = ((mk >>> j : Nat) : Int) by rw [Nat.shiftRight_eq_div_pow]; simp, i64_and1 _ (by have := Nat.shiftRight_le mk j; omega)]
      have HCU := Aside0.mk (show collectUpto width mk rows pieces (j + 1) = if (mk >>> j) % 2 = 1 ∧ (collectUpto width mk rows pieces j).length < width then collectUpto width mk rows pieces j ++ (addSt (collectUpto width mk rows pieces j) (rd_L4 rows (j : Int)) (rdOf ByteArray.empty pieces (j : Int))).toList else collectUpto width mk rows pieces j from rfl)
      have HWS := Aside0.mk (collectUpto_wf (mask := mk) (fun k hk => HWF.out k (by omega)) j (by omega))
      have HWF1 := Aside0.mk hwf1
      clear hwf1
      generalize collectUpto width mk rows pieces j = st at HS hsl hcy0 HCU HWS
      have hm2 : (mk >>> j) % 2 < 2 := Nat.mod_lt _ (by decide)
      generalize (mk >>> j) % 2 = bit at hB1 HCU hm2
      by_cases hbit : bit = 1
      ·subst hbit
       by_cases hsw : st.length < width
       ·have hcu := HCU.out
        rw [if_pos ⟨rfl, hsw⟩] at hcu
        have HCU' := Aside0.mk hcu
        clear hcu
        have HADD := Aside0.mk (show ∀ W, Below wr.heap.size wr W → Calls Tryd.prog 91 #[.pointer (some ⟨w.heap.size, 0, none⟩), .slice A1 width c1, .string (rdOf ByteArray.empty pieces (j : Int))] W fun e w' => e = .returned (.bool (addSt st (rd_L4 rows (j : Int)) (rdOf ByteArray.empty pieces (j : Int))).isSome) ∧ StairsAt w.heap.size w.heap.size width w' (st ++ (addSt st (rd_L4 rows (j : Int)) (rdOf ByteArray.empty pieces (j : Int))).toList) ∧ Below w.heap.size w w' ∧ W.heap.size ≤ w'.heap.size from by
         intro W hb
         have h2 := code_stairs_add.calls w.heap.size w.heap.size width M w W st A1 c1 (rd_L4 rows (j : Int)) (rdOf ByteArray.empty pieces (j : Int)) HG0.out rfl (HS.out.below hb) HWS.out (by omega) (below_step HB.out hb) (below_step HB.out hb).size hw' (by omega) hM (by rw [HWF1.out.2.1]; exact Kd.C_below hy2 (below_step HB.out hb)) (by rw [HWF1.out.2.1]; exact hy1) HWF1.out
         rw [HWF1.out.2.1] at h2
         exact h2)
        clear hy2
        rcases hnil with ⟨rfl, rfl, rfl⟩ | ⟨hsome, hle⟩
        ·have hpe : rdOf ByteArray.empty ([] : List ByteArray) (j : Int) = ⟨#[]⟩ := by simp [rdOf]; rfl
         rw [hpe] at HADD HCU'
         go_wp2
         go_quiet (fail)
         go_wp2_with ((with_reducible refine (HADD.out _ (by repeat (first | exact Below.refl _ _ | apply pw_below_drewN | apply below_drew))).mono ?_); rintro e w' ⟨rfl, hS2, hB2, hZ2⟩; have HS2 := Aside0.mk hS2; have HB2 := Aside0.mk hB2; clear hS2 hB2 hZ2)
         go_roundw
         case rel => exact ⟨j + 1, by omega, by go_num, ⟨by rw [HCU'.out]; exact HS2.out⟩, HB2⟩
         case measure => simp [intOf]; omega
        ·obtain ⟨adp, rfl, hp0⟩ := at_string_nat HP.out j (by omega)
         have hp0 := pw_cell_below HB.out hp0
         generalize rdOf ByteArray.empty pieces (j : Int) = pt at hp0 HADD HCU'
         go_wp2
         go_quiet (fail)
         go_wp2_with ((with_reducible refine (HADD.out _ (by repeat (first | exact Below.refl _ _ | apply pw_below_drewN | apply below_drew))).mono ?_); rintro e w' ⟨rfl, hS2, hB2, hZ2⟩; have HS2 := Aside0.mk hS2; have HB2 := Aside0.mk hB2; clear hS2 hB2 hZ2)
         go_roundw
         case rel => exact ⟨j + 1, by omega, by go_num, ⟨by rw [HCU'.out]; exact HS2.out⟩, HB2⟩
         case measure => simp [intOf]; omega
       ·have hcu := HCU.out
        rw [if_neg (fun h => hsw h.2)] at hcu
        have HCU' := Aside0.mk hcu
        clear hcu
        go_wp2
        go_quiet (fail)
        go_wp2
        go_roundw
        case rel => exact ⟨j + 1, by omega, by go_num, ⟨by rw [HCU'.out]; exact HS.out.below (by repeat (first | exact Below.refl _ _ | apply pw_below_drewN | apply below_drew))⟩, ⟨by repeat (first | exact HB.out | apply pw_below_drewN | apply below_drew)⟩⟩
        case measure => simp [intOf]; omega
      ·obtain rfl : bit = 0 := by omega
       have hcu := HCU.out
       rw [if_neg (fun h => absurd h.1 (by decide))] at hcu
       have HCU' := Aside0.mk hcu
       clear hcu
       go_wp2
       go_quiet (fail)
       go_wp2
       go_roundw
       case rel => exact ⟨j + 1, by omega, by go_num, ⟨by rw [HCU'.out]; exact HS.out.below (by repeat (first | exact Below.refl _ _ | apply pw_below_drewN | apply below_drew))⟩, ⟨by repeat (first | exact HB.out | apply pw_below_drewN | apply below_drew)⟩⟩
       case measure => simp [intOf]; omega
     ·obtain rfl : j = N := by omega
      have hok := HOK.out
      by_cases hsw : (collectUpto width mk rows pieces j).length < width
      ·rw [if_pos hsw] at hok
       have HOK2 := Aside0.mk hok
       clear HOK hok
       go_wp2
       go_quiet (fail)
       go_wp2
       go_ret
       exact ⟨by repeat (first | exact HB.out | apply pw_below_drewN | apply below_drew), .inl ⟨HOK2.out, rfl⟩⟩
      ·rw [if_neg hsw] at hok
       have HOK2 := Aside0.mk hok
       clear HOK hok
       go_wp2
       go_quiet (fail)
       go_wp2
       go_ret
       exact ⟨by repeat (first | exact HB.out | apply pw_below_drewN | apply below_drew), .inr ⟨_, _, HOK2.out, rfl, HS.out.below (by repeat (first | exact Below.refl _ _ | apply pw_below_drewN | apply below_drew))⟩⟩


/-! ### code_Recoverable: function 30 -/
/-- Rows that collect is given: few, of one length, of bytes. -/
def okRows (rows : List (List Int)) : Bool := decide (rows.length ≤ 24) && (decide (1 ≤ rowWidth rows) || decide (rows.length = 0)) && decide (rowWidth rows ≤ 16) && rows.all fun r => r.all isB && decide (r.length = rowWidth rows)
theorem okRows_iff {rows : List (List Int)} (h : okRows rows = true) : rows.length ≤ 24 ∧ (0 < rows.length → 1 ≤ rowWidth rows) ∧ rowWidth rows ≤ 16 ∧ ∀ k, k < rows.length → (rd_L4 rows (k : Int)).all isB = true ∧ (rd_L4 rows (k : Int)).length = rowWidth rows := by
 simp only [okRows, Bool.and_eq_true, Bool.or_eq_true, decide_eq_true_eq, List.all_eq_true] at h
 obtain ⟨⟨⟨h1, h2⟩, h3⟩, h4⟩ := h
 refine ⟨h1, fun hp => by omega, h3, fun k hk => ?_⟩
 have hr : rd_L4 rows (k : Int) = rows[k] := by simp [rd_L4, List.getD_eq_getElem?_getD, List.getElem?_eq_getElem hk]
 rw [hr]
 have := h4 _ (List.getElem_mem hk)
 exact ⟨List.all_eq_true.2 this.1, this.2⟩
def code_Recoverable.f (k : Nat) (a0_0 : Int) (l0_1 : List (List Int)) (a0_2 : Int) (a1 : Int) : Option Bool :=
 (code_Rows.f k a0_0 l0_1 a0_2).bind fun r => if okRows r.1 = true then some (collectOk r.1 a1 []).isSome else none
set_option maxHeartbeats 4000000 in
set_option maxRecDepth 100000 in
theorem code_Recoverable.calls (k : Nat) (a0_0 : Int) (A0_1 : Option Addr) (c0_1 : Nat) (l0_1 : List (List Int)) (a0_2 : Int) (a1 : Int) (r : Bool) (w : World) (hG : HG w) (hr0_1 : Kd.C (Kd.slice 3 (Kd.int .i64)) w A0_1 l0_1.length l0_1) (hc0_1 : l0_1.length ≤ c0_1) (h : code_Recoverable.f k a0_0 l0_1 a0_2 a1 = some r) :
  Calls Tryd.prog 30 #[.agg #[.int .i64 a0_0, .slice A0_1 l0_1.length c0_1, .int .i64 a0_2], .int .i64 a1] w fun e w' => e = .returned (.bool r) ∧ Below w.heap.size w w' := by
 obtain ⟨⟨rows, e0⟩, hrows, h2⟩ := Option.bind_eq_some_iff.1 h
 have HRW := Aside0.mk (fun W (hb : Below w.heap.size w W) => code_Rows.calls k a0_0 A0_1 c0_1 l0_1 a0_2 rows e0 W (hG.below hb) (Kd.C_below hr0_1 hb) hc0_1 hrows)
 have HGw := Aside0.mk hG
 by_cases hok : okRows rows = true
 ·rw [if_pos hok] at h2
  obtain rfl := Option.some.inj h2
  obtain ⟨h3, h4, h5, h6⟩ := okRows_iff hok
  have hu24 := Tryd.underlying24
  have hup := Tryd.underlying96
  have HWF := Aside0.mk (show ∀ k, k < rows.length → WfRow (rowWidth rows) 0 (rd_L4 rows (k : Int), rdOf ByteArray.empty ([] : List ByteArray) (k : Int)) from fun k hk => ⟨(h6 k hk).1, (h6 k hk).2, by simp [rdOf]⟩)
  have HCO := Aside0.mk (show ∀ W Ar cr, Below w.heap.size w W → Kd.C (Kd.slice 5 (Kd.int .u8)) W Ar rows.length rows → rows.length ≤ cr → Calls Tryd.prog 67 #[.slice Ar rows.length cr, .int .i64 a1, .slice none 0 0] W fun e w' => Below W.heap.size W w' ∧ ((collectOk rows a1 [] = none ∧ e = .returned (.pointer none)) ∨ ∃ gs st, collectOk rows a1 [] = some st ∧ e = .returned (.pointer (some ⟨gs, 0, none⟩)) ∧ StairsAt gs W.heap.size (rowWidth rows) w' st) from
   fun W Ar cr hb hC hcr => code_collect.calls 0 W Ar cr rows a1 none 0 [] (hG.below hb) hC hcr h3 h4 h5 (by decide) ⟨rfl, by decide, fun h_ => absurd h_ (by decide)⟩ (Nat.le_refl _) (.inl ⟨rfl, rfl, rfl⟩) HWF.out)
  clear h h2 hok h6 hG hrows hr0_1
  go_enter Tryd.func30, Tryd.ntmps30
  go_wp2_with (first | (go_at_call 17; (with_reducible refine (HRW.out _ (by repeat (first | exact Below.refl _ _ | apply below_alloc))).mono ?_); rintro e w1 ⟨v0, rfl, hS, hb1⟩; obtain ⟨Ar, cr, rfl, hcr, hCr⟩ := Kd.S_reads hS; have HCR := Aside0.mk hCr; have HB1 := Aside0.mk (below_step (below_alloc (Below.refl w.heap.size w) _) hb1); clear hb1 hS hCr) | (go_at_call 67; (with_reducible refine (HCO.out w1 Ar cr HB1.out HCR.out hcr).mono ?_); rintro e w2 ⟨hb2, hor⟩; have HB2 := Aside0.mk hb2; clear hb2; rcases hor with ⟨hn, rfl⟩ | ⟨gs, st, hn, rfl, _⟩ <;> (have HN_ := Aside0.mk hn; clear hn)))
  all_goals
   rw [HN_.out]
   go_ret
   exact ⟨rfl, below_step HB1.out HB2.out⟩
 ·rw [if_neg hok] at h2
  cases h2


/-! ### code_stairs_solve: function 93 -/
def solvePart (out : List ByteArray) (x : List Int) (at_ : Nat) (p : ByteArray) : Nat → ByteArray
 | 0 => p
 | i + 1 => if i ≠ at_ ∧ rd x (i : Int) ≠ 0 then sumP (solvePart out x at_ p i) (scaleBytes (rd x (i : Int)) (rdOf ByteArray.empty out (i : Int))) else solvePart out x at_ p i
def solveStep (width : Nat) (xq : List Int × ByteArray) (out : List ByteArray) : List ByteArray := out.set (fstIdx xq.1) (solvePart out xq.1 (fstIdx xq.1) xq.2 width)
/-- The data pieces, by the rows from the last to the first. -/
def solveRev (width : Nat) (l : St) : List ByteArray := l.foldr (solveStep width) (List.replicate width ByteArray.empty)
theorem solveStep_length (width : Nat) (xq : List Int × ByteArray) (out : List ByteArray) : (solveStep width xq out).length = out.length := by simp [solveStep]
theorem solveRev_length (width : Nat) : ∀ l : St, (solveRev width l).length = width
 | [] => by simp [solveRev]
 | x :: l => by
  show (solveStep width x (solveRev width l)).length = width
  rw [solveStep_length, solveRev_length width l]
def AllLe (M : Nat) (l : List ByteArray) : Prop := ∀ s ∈ l, s.size ≤ M
theorem AllLe.rd {M : Nat} {l : List ByteArray} (h : AllLe M l) (i : Nat) : (rdOf ByteArray.empty l (i : Int)).size ≤ M := by
 by_cases hi : i < l.length
 ·have : rdOf ByteArray.empty l (i : Int) = l[i] := by simp [rdOf, List.getD_eq_getElem?_getD, List.getElem?_eq_getElem hi]
  rw [this]; exact h _ (List.getElem_mem hi)
 ·have : rdOf ByteArray.empty l (i : Int) = ByteArray.empty := by simp [rdOf, List.getD_eq_getElem?_getD, List.getElem?_eq_none (Nat.le_of_not_lt hi)]
  rw [this]; exact Nat.zero_le _
theorem solvePart_size {M : Nat} {out : List ByteArray} (ho : AllLe M out) (x : List Int) (at_ : Nat) {p : ByteArray} (hp : p.size ≤ M) : ∀ i, (solvePart out x at_ p i).size ≤ M
 | 0 => hp
 | i + 1 => by
  unfold solvePart
  split
  ·exact sumP_size (solvePart_size ho x at_ hp i) (by rw [scaleBytes_size]; exact ho.rd i)
  ·exact solvePart_size ho x at_ hp i
theorem solveRev_le {M width : Nat} : ∀ {l : St}, (∀ x ∈ l, x.2.size ≤ M) → AllLe M (solveRev width l)
 | [], _ => fun s hs => by
  obtain ⟨_, rfl⟩ := List.mem_replicate.1 hs
  exact Nat.zero_le _
 | x :: l, h => fun s hs => by
  have ih := solveRev_le (width := width) (l := l) (fun y hy => h y (List.mem_cons_of_mem _ hy))
  rcases List.mem_or_eq_of_mem_set hs with hs | rfl
  ·exact ih s hs
  ·exact solvePart_size ih _ _ (h x (List.mem_cons_self)) _
theorem solveRev_drop (width : Nat) (st : St) {k : Nat} (h : k < st.length) : solveRev width (st.drop k) = solveStep width st[k] (solveRev width (st.drop (k + 1))) := by
 rw [List.drop_eq_getElem_cons h]; rfl
/-- What the stairs are to a reader. -/
def StairsRd (gs width : Nat) (W : World) (st : St) : Prop :=
 ∃ Ar cr Ap cp, W.heap[gs]? = some (.cells #[.slice Ar st.length cr, .slice Ap st.length cp, .int .i64 (width : Int)] 117 (0, 0)) ∧ st.length ≤ cr ∧ st.length ≤ cp ∧
  (∀ k (h : k < st.length), ∃ ad A0 c0, Ar = some ad ∧ W.cell? (ad.add k) = some (.slice A0 st[k].1.length c0) ∧ st[k].1.length ≤ c0 ∧ (Kd.int .u8).C W A0 st[k].1.length st[k].1) ∧
  (∀ k (h : k < st.length), ∃ ad, Ap = some ad ∧ W.cell? (ad.add k) = some (.string st[k].2))
theorem StairsAt.rd {gs base width : Nat} {W : World} {st : St} (h : StairsAt gs base width W st) : StairsRd gs width W st := by
 obtain ⟨_, vr, vp, hb, hvr, hvp⟩ := h
 have hfl : (st.map Prod.fst).length = st.length := List.length_map ..
 have hsl : (st.map Prod.snd).length = st.length := List.length_map ..
 obtain ⟨Ar, cr, er, hcr, hCr⟩ := Kd.S_reads hvr
 obtain ⟨Ap, cp, ep, hcp, hCp⟩ := Kd.R_reads hvp
 rw [hfl] at er hcr hCr
 rw [hsl] at ep hcp hCp
 subst er ep
 refine ⟨Ar, cr, Ap, cp, hb, hcr, hcp, fun k hk => ?_, fun k hk => ?_⟩
 ·have := at_bytes_nat' hCr k hk
  rwa [rdF st hk] at this
 ·have := at_string_nat hCp k hk
  rwa [rdS st hk] at this
theorem StairsRd.below {gs width : Nat} {W W1 : World} {st : St} (h : StairsRd gs width W st) (hb : Below W.heap.size W W1) : StairsRd gs width W1 st := by
 obtain ⟨Ar, cr, Ap, cp, h1, h2, h3, h4, h5⟩ := h
 refine ⟨Ar, cr, Ap, cp, blk_below h1 hb, h2, h3, fun k hk => ?_, fun k hk => ?_⟩
 ·obtain ⟨ad, A0, c0, e, h6, h7, h8⟩ := h4 k hk
  exact ⟨ad, A0, c0, e, pw_cell_below hb h6, h7, Kd.C_below h8 hb⟩
 ·obtain ⟨ad, e, h6⟩ := h5 k hk
  exact ⟨ad, e, pw_cell_below hb h6⟩
set_option maxHeartbeats 4000000 in
set_option maxRecDepth 100000 in
theorem code_stairs_solve.calls (gs width M : Nat) (w : World) (st : St) (hG : HG w) (hS : StairsRd gs width w st) (hwf : WfSt width M st) (hst : st.length < 1000000) (hw2 : width < 1000) (hM : M ≤ 140737488351232) :
  Calls Tryd.prog 93 #[.pointer (some ⟨gs, 0, none⟩)] w fun e w' => ∃ v, e = .returned v ∧ Kd.R Kd.string 9 w' w.heap.size (fun _ => True) v (solveRev width st) ∧ Below w.heap.size w w' := by
 obtain ⟨Ar, cr, Ap, cp, hb, hcr, hcp, hCr, hCp⟩ := hS
 obtain ⟨N, hN⟩ : ∃ N : Nat, N = st.length := ⟨_, rfl⟩
 have HCR := Aside0.mk hCr
 have HCP := Aside0.mk hCp
 rw [← hN] at hst hb hcr hcp
 have hcz0 : w.cell? ⟨gs, 0, none⟩ = some (.slice Ar N cr) := blk_cell hb 0
 have hcz1 : w.cell? ⟨gs, 1, none⟩ = some (.slice Ap N cp) := blk_cell hb 1
 have hcz2 : w.cell? ⟨gs, 2, none⟩ = some (.int .i64 (width : Int)) := blk_cell hb 2
 have HGw := Aside0.mk hG
 have HBK := Aside0.mk hb
 have HWF := Aside0.mk hwf
 have HN := Aside0.mk hN
 have hu117 := Tryd.underlying117
 clear hG hb hCr hCp hwf hN
 go_enter Tryd.func93, Tryd.ntmps93
 go_wp2_with ((with_reducible refine gate_dst (N := 13) rfl ?_); refine Kd.R_make Kd.string (w0 := w) w.heap.size 9 rfl (N := 13) rfl 32 _ _ rfl (width : Int) rfl rfl Tryd.underlying32 (.string ⟨#[]⟩) 16 info9 rfl (by decide) (by omega) ByteArray.empty (ok := fun _ => True) (okp := fun _ => False) rfl (fun _ hk => hk.elim) trivial (by omega) (by simp; omega) (Below.refl _ _) (Nat.le_refl _) ?_; intro v1 w1 ho hb hg hat; rw [Int.toNat_natCast] at ho; obtain ⟨Ao, co, ev⟩ := Kd.R_slice ho; rw [List.length_replicate] at ev; subst ev; have HO := Aside0.mk ho; have HB1 := Aside0.mk hb; have hbk := blk_below HBK.out hb; have hcy0 : w1.cell? ⟨gs, 0, none⟩ = some (.slice Ar N cr) := blk_cell hbk 0; clear hbk ho hb hg hat)
 go_loopw [4] (fun v W => ∃ j : Nat, j ≤ N ∧ v = .int .i64 ((j : Int) - 1) ∧ Aside0 (Kd.string.R 9 W w.heap.size (fun _ => True) (.slice Ao width co) (solveRev width (st.drop j))) ∧ Aside0 (Below w.heap.size w W)) (fun v _ => (intOf v + 1).toNat)
 case atStart => exact ⟨N, Nat.le_refl _, by go_num, ⟨by rw [List.drop_of_length_le (by have := HN.out; omega)]; exact HO.out⟩, HB1⟩
 case round =>
  clear hcy0 HB1 HO hcz0 hcz1 hcz2
  obtain ⟨j, hj, rfl, HR, HB⟩ := hrel
  by_cases hlt : 0 < j
  ·obtain ⟨i, rfl⟩ : ∃ i, j = i + 1 := ⟨j - 1, by omega⟩
   rw [show (((i + 1 : Nat) : Int) - 1) = (i : Int) by omega]
   have his : i < st.length := by have := HN.out; omega
   obtain ⟨⟨hxB, hxl, hxM⟩, hxf⟩ := HWF.out _ (List.getElem_mem his)
   have HSR := Aside0.mk (solveRev_drop width st his)
   have HLE := Aside0.mk (solveRev_le (M := M) (width := width) (l := st.drop (i + 1)) (fun x hx => (HWF.out x (List.mem_of_mem_drop hx)).1.2.2))
   have HOL := Aside0.mk (solveRev_length width (st.drop (i + 1)))
   obtain ⟨g, cap, e1, hgb, hglt, _⟩ := Kd.R_form HR.out (by rw [HOL.out]; omega)
   rw [HOL.out] at e1
   obtain ⟨e2, e3⟩ : Ao = some ⟨g, 0, none⟩ ∧ co = cap := by injection e1 with e1 _ e3; exact ⟨e1, e3⟩
   subst e2 e3
   obtain ⟨ad0, A0, c0, rfl, hx0, hx1, hx2⟩ := HCR.out i his
   obtain ⟨ad1, rfl, hq0⟩ := HCP.out i his
   generalize st[i] = xq at hxB hxl hxM hxf HSR hx0 hx1 hx2 hq0
   obtain ⟨x, q⟩ := xq
   dsimp only at hxB hxl hxM hxf hx0 hx1 hx2 hq0
   rw [hxl] at hx0 hx1 hx2
   have hbk := blk_below HBK.out HB.out
   have hcz0 : wr.cell? ⟨gs, 0, none⟩ = some (.slice (some ad0) N cr) := blk_cell hbk 0
   have hcz1 : wr.cell? ⟨gs, 1, none⟩ = some (.slice (some ad1) N cp) := blk_cell hbk 1
   replace hx0 := pw_cell_below HB.out hx0
   replace hq0 := pw_cell_below HB.out hq0
   have HX2 := Aside0.mk (Kd.C_below hx2 HB.out)
   have HXB := Aside0.mk hxB
   have HXL := Aside0.mk hxl
   have HF1 := Aside0.mk (show ∀ W, Below wr.heap.size wr W → Calls Tryd.prog 92 #[.slice A0 width c0] W fun e w' => e = .returned (.int .i64 ((fstIdx x : Nat) : Int)) ∧ Drawn0 W w' from by
    intro W hb
    have := code_first.fst A0 c0 x W ((HGw.out.below HB.out).below hb) (by rw [HXL.out]; exact Kd.C_below HX2.out hb) (by rw [HXL.out]; exact hx1) (by rw [HXL.out]; omega)
    rw [HXL.out] at this
    exact this)
   clear hx2 hxB hxl hx1 e1 hbk
   have HGW := Aside0.mk (fun W (hb : Below wr.heap.size wr W) => (HGw.out.below HB.out).below hb)
   generalize hou : solveRev width (st.drop (i + 1)) = out at HR HSR HLE HOL
   generalize hfe : fstIdx x = fi at HF1 hxf
   have HFE := Aside0.mk hfe
   clear hou hfe
   go_wp2_with (go_at_call 92; (with_reducible refine (HF1.out _ (Below.refl _ _)).mono ?_); rintro e w' ⟨rfl, ⟨nd, rfl⟩⟩)
   have HRo := Aside0.mk (Kd.R_drewN HR.out nd)
   have HBo := Aside0.mk (pw_below_drewN HB.out nd)
   have HXo := Aside0.mk (Kd.C_below HX2.out (pw_below_drewN (Below.refl _ _) nd))
   have HGo := Aside0.mk (fun W (hb : Below (wr.drewN nd).heap.size (wr.drewN nd) W) => HGW.out W (below_step (pw_below_drewN (Below.refl _ _) nd) hb))
   generalize wr.drewN nd = wo at *
   clear HX2 HF1 HR HB hx0 hcz0 hcz1 hq0 HGW
   go_loopw [5, 47] (fun y v W => ∃ m : Nat, m ≤ width ∧ v = .int .i64 (m : Int) ∧ y = .string (solvePart out x fi q m) ∧ Aside0 (Below wo.heap.size wo W)) (fun _ v _ => width - (intOf v).toNat)
   case atStart => exact ⟨0, Nat.zero_le _, rfl, rfl, ⟨Below.refl _ _⟩⟩
   case round =>
    obtain ⟨m, hm, rfl, rfl, HB⟩ := hrel
    by_cases hlt2 : m < width
    ·obtain ⟨ad2, rfl, hxm⟩ := at_int_nat (Kd.C_below HXo.out HB.out) m hlt2
     have hXi := isB_rd HXB.out m (by rw [HXL.out]; exact hlt2)
     have HSP := Aside0.mk (show solvePart out x fi q (m + 1) = if m ≠ fi ∧ rd x (m : Int) ≠ 0 then sumP (solvePart out x fi q m) (scaleBytes (rd x (m : Int)) (rdOf ByteArray.empty out (m : Int))) else solvePart out x fi q m from rfl)
     have hps := solvePart_size HLE.out x fi hxM m
     have hos := HLE.out.rd m
     obtain ⟨hom, _⟩ := Kd.R_celln (ByteArray.empty) (Kd.R_below HRo.out HB.out) ((m : Nat) : Int) (by omega) (by omega)
     rw [Int.toNat_natCast] at hom
     generalize rdOf ByteArray.empty out (m : Int) = om at hom HSP hos
     generalize solvePart out x fi q m = pm at HSP hps
     generalize rd x (m : Int) = xm at hxm hXi HSP
     have HSC := Aside0.mk (fun W (hb : Below wr.heap.size wr W) => gf_Scale.scale xm om hXi (Nat.le_trans hos hM) W (HGo.out W (below_step HB.out hb)))
     have HSM := Aside0.mk (fun W (hb : Below wr.heap.size wr W) => gf_Sum.sum pm (scaleBytes xm om) (Nat.le_trans hps hM) (by rw [scaleBytes_size]; exact Nat.le_trans hos hM) W (HGo.out W (below_step HB.out hb)))
     clear hXi
     by_cases hne : m = fi
     ·subst hne
      have hsp := HSP.out
      rw [if_neg (fun h => h.1 rfl)] at hsp
      have HSP2 := Aside0.mk hsp
      clear hsp
      go_wp2
      go_roundw
      case rel => exact ⟨m + 1, by omega, by go_num, by rw [HSP2.out], HB⟩
      case measure => simp [intOf]; omega
     ·have hb1 : ((m : Int) == (fi : Int)) = false := beq_eq_false_iff_ne.2 (by omega)
      have hb2 : (m == fi) = false := beq_eq_false_iff_ne.2 hne
      have hb3 : ((m : Int) != (fi : Int)) = true := bne_iff_ne.2 (by omega)
      by_cases hz : xm = 0
      ·have hsp := HSP.out
       rw [if_neg (fun h => h.2 hz)] at hsp
       subst hz
       have HSP2 := Aside0.mk hsp
       clear hsp
       go_wp2
       go_roundw
       case rel => exact ⟨m + 1, by omega, by go_num, by rw [HSP2.out], HB⟩
       case measure => simp [intOf]; omega
      ·have hz1 : (xm == 0) = false := beq_eq_false_iff_ne.2 hz
       have hz3 : (xm != 0) = true := bne_iff_ne.2 hz
       have hsp := HSP.out
       rw [if_pos ⟨hne, hz⟩] at hsp
       have HSP2 := Aside0.mk hsp
       clear hsp
       go_wp2_with (first | (go_at_call 106; (with_reducible refine (HSC.out _ (Below.refl _ _)).mono ?_); rintro e w2 ⟨rfl, hb2⟩; have HB2 := Aside0.mk hb2; clear hb2) | (go_at_call 36; (with_reducible refine (HSM.out _ HB2.out).mono ?_); rintro e w3 ⟨rfl, hb3⟩; have HB3 := Aside0.mk (below_step HB2.out hb3); clear hb3))
       go_roundw
       case rel => exact ⟨m + 1, by omega, by go_num, by rw [HSP2.out], ⟨below_step HB.out HB3.out⟩⟩
       case measure => simp [intOf]; omega
    ·obtain rfl : m = width := by omega
     obtain ⟨hom, hfz⟩ := Kd.R_celln (ByteArray.empty) (Kd.R_below HRo.out HB.out) ((fi : Nat) : Int) (by omega) (by omega)
     rw [Int.toNat_natCast] at hom hfz
     have HPUT := Aside0.mk (Kd.R_putn (Kd.R_below HRo.out HB.out) ((fi : Nat) : Int) (solvePart out x fi q m))
     generalize hsq : solvePart out x fi q m = sp at HPUT
     have HSQ := Aside0.mk hsq
     clear hsq
     go_wp2
     go_roundw
     case rel => exact ⟨i, by omega, by go_num, ⟨by rw [HSR.out]; unfold solveStep; dsimp only; rw [HFE.out, HSQ.out]; have := HPUT.out; rw [Int.toNat_natCast] at this; exact this⟩, ⟨below_set (below_step HBo.out HB.out) hgb⟩⟩
     case measure => (simp [intOf] <;> omega)
  ·obtain rfl : j = 0 := by omega
   go_wp2
   go_ret
   exact ⟨_, rfl, HR.out, HB.out⟩
end Go.Proofs.YtkadfidmfnpohaaDoor.XB
