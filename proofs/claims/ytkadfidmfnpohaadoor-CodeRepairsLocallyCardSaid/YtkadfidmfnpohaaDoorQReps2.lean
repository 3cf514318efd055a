/- Lemmas for the claim Reps: functions of the program as plain Lean functions, each with its contract, and what is proved of them. -/
import Derived.Test.YtkadfidmfnpohaaDoorQReps1
import Derived.RangeFuncNested
import Derived.RangeFuncBound
import Derived.RangeFuncCalls
import Derived.RangeFuncLeaves
import Derived.RangeFuncFrom
import Derived.Shelf.Abstract
import Derived.Shelf.RegionOpen
import Derived.OwnWalkIn
import Derived.TacticsInMore
import Derived.LoopNIn
import Derived.LoopIn
import Derived.TacticsIn
import Derived.RegionIn
namespace Go.Proofs.YtkadfidmfnpohaaDoor.XB
open Go.RowKit Go.Proofs.YtkadfidmfnpohaaDoorW.PrintWords Go.Proofs.YtkadfidmfnpohaaDoorW.PrintLast Go.Proofs.YtkadfidmfnpohaaDoorW.PrintMore
set_option linter.unusedVariables false
set_option linter.unusedSimpArgs false

/-! ### code_first: function 92 -/
def code_first.l0 : Nat → List Int → List Int → Int → Int → Option (Int)
 | 0, _, _, _, _ => none
 | k + 1, x0, x5, x6, x7 => if x7 < x6 then (if 0 ≤ x7 then (if x7 < (x5.length : Int) then (if (rd x5 x7) = 0 then (code_first.l0 k x0 x5 x6 (wrap64 (x7 + 1))) else (some x7)) else (none)) else (none)) else (some (x0.length : Int))
def code_first.f (k : Nat) (l0 : List Int) : Option (Int) := code_first.l0 k l0 l0 (l0.length : Int) 0
set_option maxHeartbeats 8000000 in
set_option maxRecDepth 100000 in
theorem code_first.calls (k : Nat) (A0 : Option Addr) (c0 : Nat) (l0 : List Int) (r : Int) (w : World) (hG : HG w) (hr0 : Kd.C (Kd.int .u8) w A0 l0.length l0) (hc0 : l0.length ≤ c0) (h : code_first.f k l0 = some r) :
  Calls Tryd.prog 92 #[.slice A0 l0.length c0] w fun e w' => e = .returned (.int .i64 r) ∧ Drawn0 w w' := by
 have HGw := Aside0.mk hG
 clear hG
 have HR0 := Aside0.mk hr0
 have HC0 := Aside0.mk hc0
 clear hr0 hc0
 have H : (code_first.l0 k l0 l0 (l0.length : Int) 0) = some r := h
 clear h
 have H' := Aside0.mk H
 clear H
 go_enter Tryd.func92, Tryd.ntmps92
 go_wp2
 go_loopg [7] k (fun kq v7 w' => ∃ (x7_1 : Int), v7 = .int .i64 x7_1 ∧ Aside0 (code_first.l0 kq l0 l0 (l0.length : Int) x7_1 = some r) ∧ Aside0 (kq ≤ k) ∧ Drawn0 w w')
 case atStart => exact ⟨(0), (by first | rfl | (simp; done) | (simp [*]; done)), H', ⟨Nat.le_refl _⟩, by repeat (first | exact Drawn0.refl _ | apply Drawn0.step)⟩
 case round =>
  clear H'
  obtain ⟨x7_1, rfl, HA, HK1, ⟨m1, rfl⟩⟩ := hrel
  cases gk with
  | zero => exact absurd HA.out (by simp [code_first.l0])
  | succ k1 =>
   have H := HA.out
   clear HA
   simp only [code_first.l0] at H
   by_cases c2 : x7_1 < (l0.length : Int)
   ·rw [if_pos c2] at H
    have c2b0 : decide (x7_1 < (l0.length : Int)) = true := decide_eq_true c2
    clear c2
    by_cases c3 : 0 ≤ x7_1
    ·rw [if_pos c3] at H
     have c3b0 : decide (0 ≤ x7_1) = true := decide_eq_true c3
     clear c3
     by_cases c4 : x7_1 < (l0.length : Int)
     ·rw [if_pos c4] at H
      have c4b0 : decide (x7_1 < (l0.length : Int)) = true := decide_eq_true c4
      clear c4
      by_cases c5 : (rd l0 x7_1) = 0
      ·rw [if_pos c5] at H
       have c5b0 : ((rd l0 x7_1) == 0) = true := beq_iff_eq.mpr c5
       have c5b1 : ((rd l0 x7_1) != 0) = false := bne_eq_false_iff_eq.mpr c5
       clear c5
       have H' := Aside0.mk H
       clear H
       have p262 : 0 ≤ (x7_1 : Int) := of_decide_eq_true (by first | (with_reducible assumption) | assumption)
       have q262 : x7_1 < (l0.length : Int) := of_decide_eq_true (by first | (with_reducible assumption) | assumption)
       obtain ⟨ad262, e262, hx262_0⟩ := Kd.at_int HR0.out x7_1 p262 q262
       cases e262
       replace p262 := eq_true p262
       replace q262 := eq_true q262
       go_wp2
       go_roundg k1
       case measure => have := HK1.out; omega
       case rel => exact ⟨(wrap64 (x7_1 + 1)), (by first | rfl | (simp; done) | (simp [*]; done)), H', ⟨by have := HK1.out; omega⟩, by repeat (first | exact Drawn0.refl _ | apply Drawn0.step)⟩
      ·rw [if_neg c5] at H
       have c5b0 : ((rd l0 x7_1) == 0) = false := beq_eq_false_iff_ne.mpr c5
       have c5b1 : ((rd l0 x7_1) != 0) = true := bne_iff_ne.mpr c5
       obtain rfl := Option.some.inj H
       have p262 : 0 ≤ (x7_1 : Int) := of_decide_eq_true (by first | (with_reducible assumption) | assumption)
       have q262 : x7_1 < (l0.length : Int) := of_decide_eq_true (by first | (with_reducible assumption) | assumption)
       obtain ⟨ad262, e262, hx262_0⟩ := Kd.at_int HR0.out x7_1 p262 q262
       cases e262
       replace p262 := eq_true p262
       replace q262 := eq_true q262
       go_wp2
       go_ret
       exact ⟨by first | rfl | (simp; done) | (simp [*]; done), by repeat (first | exact Drawn0.refl _ | apply Drawn0.step)⟩
     ·rw [if_neg c4] at H
      exact absurd H (by simp)
    ·rw [if_neg c3] at H
     exact absurd H (by simp)
   ·rw [if_neg c2] at H
    have c2b0 : decide (x7_1 < (l0.length : Int)) = false := decide_eq_false c2
    clear c2
    obtain rfl := Option.some.inj H
    go_wp2
    go_ret
    exact ⟨by first | rfl | (simp; done) | (simp [*]; done), by repeat (first | exact Drawn0.refl _ | apply Drawn0.step)⟩


/-! ### gf_Scale: function 106 -/
def gscale (c : Int) (s : ByteArray) (k : Nat) : Int := imul c (bt s (k : Int))
def scaleBytes (c : Int) (s : ByteArray) : ByteArray := strOfNums ((List.range s.size).map (gscale c s))
def gf_Scale.f (a0 : Int) (a1 : ByteArray) : Option ByteArray := if isB a0 = true ∧ a1.size ≤ 140737488351232 then some (scaleBytes a0 a1) else none
theorem enters109 : ∀ args W, (callFunc 109 args).run Tryd.prog W = .ok (.enter 109 args) W := enters_of Tryd.func109 (by kernel_rfl) rfl
set_option maxRecDepth 100000 in
theorem gf_Scale_1.calls (c : Int) (s : ByteArray) (pc ps : Nat) (k : Nat) (w : World) (hG : HG w) (hB : isB c = true) (hk : k < s.size) (hm : s.size ≤ 140737488351232)
  (hc : w.cell? ⟨pc, 0, none⟩ = some (.int .u8 c)) (hs : w.cell? ⟨ps, 0, none⟩ = some (.string s)) :
  Calls Tryd.prog 109 #[.int .i64 (k : Int), .pointer (some ⟨pc, 0, none⟩), .pointer (some ⟨ps, 0, none⟩)] w fun e w' => e = .returned (.int .u8 (gscale c s k)) ∧ Drawn0 w w' := by
 have e1 := bt_nat s k
 have HM := Aside0.mk (fun n => gf_Mul.mul hB (isB_bt s (k : Int)) (w.drewN n) (hG.drewN n))
 clear hG
 unfold gscale
 go_enter Tryd.func109, Tryd.ntmps109
 go_wp2
 go_quiet ((go_at_call 87; exact Calls.quiet_of ((HM.out _).mono fun _ _ h_ => ⟨h_.1, h_.2.out⟩)))
 go_wp2
 go_ret
 exact ⟨rfl, ⟨_, rfl⟩⟩
set_option maxRecDepth 100000 in
theorem gf_Scale.calls (a0 : Int) (a1 : ByteArray) (r : ByteArray) (w : World) (hG : HG w) (h : gf_Scale.f a0 a1 = some r) :
  Calls Tryd.prog 106 #[.int .u8 a0, .string a1] w fun e w' => e = .returned (.string r) ∧ Below w.heap.size w w' := by
 unfold gf_Scale.f at h
 by_cases hs : isB a0 = true ∧ a1.size ≤ 140737488351232
 ·rw [if_pos hs] at h
  obtain ⟨hs0, hs1⟩ := hs
  obtain rfl := Option.some.inj h
  clear h
  have hmf := run_mf Tryd.prog
  have key : ∀ W, Below w.heap.size w W → ∀ px py, W.cell? ⟨px, 0, none⟩ = some (.int .u8 a0) → W.cell? ⟨py, 0, none⟩ = some (.string a1) →
    Calls Tryd.prog 74 #[.int .i64 (a1.size : Int), .func (.func 109) #[] #[.pointer (some ⟨px, 0, none⟩), .pointer (some ⟨py, 0, none⟩)]] W fun e w' => e = .returned (.string (scaleBytes a0 a1)) ∧ Below W.heap.size W w' :=
   fun W hB px py hx hy => gf_build.calls a1.size _ _ (gscale a0 a1) W hs1 enters109 fun k hk W' hb => gf_Scale_1.calls a0 a1 px py k W' ((hG.below hB).below hb) hs0 hk hs1 (pw_cell_below hb hx) (pw_cell_below hb hy)
  have HK := Aside0.mk key
  clear key hG hs0
  go_enter Tryd.func106, Tryd.ntmps106
  go_wp2_with (go_at_call 74; refine (HK.out _ ?b _ _ ?c1 ?c2).mono ?_; (case b => (repeat (first | exact Below.refl _ _ | apply below_alloc))); (case c1 => (go_simp; done)); (case c2 => (go_simp; done)); rintro e w' ⟨rfl, hb'⟩)
  go_ret
  exact ⟨rfl, below_step (by repeat (first | exact Below.refl _ _ | apply below_alloc)) hb'⟩
 ·rw [if_neg hs] at h
  cases h


/-! ### gf_Inv: function 107 -/
def gf_Inv.f (k : Nat) (a0 : Int) : Option (Int × Int) := if a0 = 0 then (some (0, 1)) else ((gf_power.f k a0 254).bind fun t263 => (some (t263, 0)))
set_option maxHeartbeats 8000000 in
set_option maxRecDepth 100000 in
theorem gf_Inv.calls (k : Nat) (a0 : Int) (r1 : Int) (r2 : Int) (w : World) (hG : HG w) (h : gf_Inv.f k a0 = some (r1, r2)) :
  Calls Tryd.prog 107 #[.int .u8 a0] w fun e w' => e = .returned (.tuple #[.int .u8 r1, .int .i64 r2]) ∧ Drawn0 w w' := by
 have HGw := Aside0.mk hG
 clear hG
 have H : (if a0 = 0 then (some (0, 1)) else ((gf_power.f k a0 254).bind fun t263 => (some (t263, 0)))) = some (r1, r2) := h
 clear h
 by_cases c2 : a0 = 0
 ·rw [if_pos c2] at H
  have c2b0 : (a0 == 0) = true := beq_iff_eq.mpr c2
  have c2b1 : (a0 != 0) = false := bne_eq_false_iff_eq.mpr c2
  clear c2
  simp only [Option.some.injEq, Prod.mk.injEq] at H
  obtain ⟨rfl, rfl⟩ := H
  go_enter Tryd.func107, Tryd.ntmps107
  go_wp2
  go_ret2
  exact ⟨by first | rfl | (simp; done) | (simp [*]; done), by repeat (first | exact Drawn0.refl _ | apply Drawn0.step)⟩
 ·rw [if_neg c2] at H
  have c2b0 : (a0 == 0) = false := beq_eq_false_iff_ne.mpr c2
  have c2b1 : (a0 != 0) = true := bne_iff_ne.mpr c2
  replace H := Option.bind_eq_some_iff.mp H
  obtain ⟨t263, A30, H⟩ := H
  replace H : (some (t263, 0)) = some (r1, r2) := H
  have A3 := Aside0.mk A30
  clear A30
  simp only [Option.some.injEq, Prod.mk.injEq] at H
  obtain ⟨rfl, rfl⟩ := H
  go_enter Tryd.func107, Tryd.ntmps107
  go_wp2_with (first | ((with_reducible refine gate_callee (f := 84) rfl ?_); refine goesL_ (some 7) rfl rfl Tryd.func84 (by kernel_rfl) rfl #[.int .u8 a0, .int .i64 254] rfl (by (try simp only [List.map_toArray, List.map_cons, List.map_nil]); first | done | rfl | (simp only [List.length_drop, List.length_take]; rfl)) ?_; (with_reducible refine (gf_power.calls k a0 254 t263 _ ?side1 A3.out).mono ?_); (case side1 => first | exact HGw.out | (repeat (first | exact HGw.out | apply HG.drewN | apply HG.drew))); rintro e w' ⟨rfl, ⟨nd, rfl⟩⟩; refine ⟨_, rfl, ?_⟩))
  go_ret2
  exact ⟨by first | rfl | (simp; done) | (simp [*]; done), by repeat (first | exact Drawn0.refl _ | apply Drawn0.step)⟩


/-! ### code_stairs_add: function 91 -/
/-- The place of the first element that is not 0; the length if there is none. -/
def fstIdx (r : List Int) : Nat := r.findIdx (fun x => x != 0)
theorem fstIdx_le (r : List Int) : fstIdx r ≤ r.length := List.findIdx_le_length
theorem code_first.step (r : List Int) (hm : r.length ≤ 4611686018427387904) : ∀ (d k i : Nat), i + d = r.length → code_first.l0 (d + 1 + k) r r (r.length : Int) (i : Int) = some ((i + fstIdx (r.drop i) : Nat) : Int) := by
 intro d
 induction d with
 | zero =>
  intro k i h
  rw [show 0 + 1 + k = k + 1 by omega]
  unfold code_first.l0
  rw [if_neg (by omega), List.drop_of_length_le (by omega)]
  simp [fstIdx]; omega
 | succ d ih =>
  intro k i h
  rw [show d + 1 + 1 + k = (d + 1 + k) + 1 by omega]
  unfold code_first.l0
  rw [if_pos (by omega), if_pos (by omega), if_pos (by omega)]
  have hw : wrap64 ((i : Int) + 1) = ((i + 1 : Nat) : Int) := by unfold wrap64; omega
  have hlt : i < r.length := by omega
  have hr : rd r (i : Int) = r[i] := by simp [rd, List.getD_eq_getElem?_getD, List.getElem?_eq_getElem hlt]
  have hd : r.drop i = r[i] :: r.drop (i + 1) := List.drop_eq_getElem_cons hlt
  rw [hw, hr, hd]
  by_cases h0 : r[i] = 0
  ·rw [if_pos h0, ih k (i + 1) (by omega)]
   simp only [fstIdx, List.findIdx_cons, h0, bne_self_eq_false, cond_false, Option.some.injEq]
   omega
  ·rw [if_neg h0]
   have hb : (r[i] != 0) = true := bne_iff_ne.2 h0
   simp only [fstIdx, List.findIdx_cons, hb, cond_true, Nat.add_zero]
theorem code_first.nat (r : List Int) (hm : r.length ≤ 4611686018427387904) : code_first.f (r.length + 1) r = some ((fstIdx r : Nat) : Int) := by
 have := code_first.step r hm r.length 0 0 (by omega)
 rw [List.drop_zero, Nat.zero_add, Nat.add_zero] at this
 exact this
theorem code_first.fst (A0 : Option Addr) (c0 : Nat) (l0 : List Int) (w : World) (hG : HG w) (hr0 : Kd.C (Kd.int .u8) w A0 l0.length l0) (hc0 : l0.length ≤ c0) (hm : l0.length ≤ 4611686018427387904) :
  Calls Tryd.prog 92 #[.slice A0 l0.length c0] w fun e w' => e = .returned (.int .i64 ((fstIdx l0 : Nat) : Int)) ∧ Drawn0 w w' := code_first.calls _ A0 c0 l0 _ w hG hr0 hc0 (code_first.nat l0 hm)
/-! the sum and the multiple of pieces -/
def sumP (p s : ByteArray) : ByteArray := if p.size < s.size then sumBytes s p else sumBytes p s
theorem strOfNums_size (l : List Int) : (strOfNums l).size = l.length := by simp [strOfNums, ByteArray.size]
theorem sumBytes_size (x y : ByteArray) : (sumBytes x y).size = x.size := by unfold sumBytes; rw [strOfNums_size]; simp
theorem scaleBytes_size (c : Int) (s : ByteArray) : (scaleBytes c s).size = s.size := by unfold scaleBytes; rw [strOfNums_size]; simp
theorem sumP_size {M : Nat} {p s : ByteArray} (hp : p.size ≤ M) (hs : s.size ≤ M) : (sumP p s).size ≤ M := by
 unfold sumP; split <;> rw [sumBytes_size] <;> assumption
theorem gf_Sum.sum (p s : ByteArray) (hp : p.size ≤ 140737488351232) (hs : s.size ≤ 140737488351232) (w : World) (hG : HG w) :
  Calls Tryd.prog 36 #[.string p, .string s] w fun e w' => e = .returned (.string (sumP p s)) ∧ Below w.heap.size w w' :=
 gf_Sum.calls p s _ w hG (if_pos ⟨hp, hs⟩)
theorem gf_Scale.scale (c : Int) (s : ByteArray) (hc : isB c = true) (hs : s.size ≤ 140737488351232) (w : World) (hG : HG w) :
  Calls Tryd.prog 106 #[.int .u8 c, .string s] w fun e w' => e = .returned (.string (scaleBytes c s)) ∧ Below w.heap.size w w' :=
 gf_Scale.calls c s _ w hG (if_pos ⟨hc, hs⟩)
theorem gf_Inv.inv (a : Int) (ha : isB a = true) (h0 : a ≠ 0) (w : World) (hG : HG w) :
  Calls Tryd.prog 107 #[.int .u8 a] w fun e w' => e = .returned (.tuple #[.int .u8 (iinv a), .int .i64 0]) ∧ Drawn0 w w' := by
 rw [isB_iff] at ha
 obtain ⟨m, rfl⟩ := Int.eq_ofNat_of_zero_le ha.1
 refine gf_Inv.calls 14 _ _ _ w hG ?_
 unfold gf_Inv.f
 rw [if_neg h0, gf_Inv.nat m (by omega) (by omega)]
 rfl
/-! rows in the form of stairs -/
abbrev St := List (List Int × ByteArray)
def mixRow (f : Int) (x r : List Int) (m : Nat) : List Int := (List.range r.length).map fun i => if i < m then ixor (rd r (i : Int)) (imul f (rd x (i : Int))) else rd r (i : Int)
def subRow (f : Int) (x r : List Int) : List Int := (List.range r.length).map fun (i : Nat) => ixor (rd r (i : Int)) (imul f (rd x (i : Int)))
def mulUpto (c : Int) (r : List Int) (m : Nat) : List Int := (List.range r.length).map fun i => if i < m then imul c (rd r (i : Int)) else rd r (i : Int)
def mulRow (c : Int) (r : List Int) : List Int := (List.range r.length).map fun (i : Nat) => imul c (rd r (i : Int))
def redStep (a : List Int × ByteArray) (x : List Int × ByteArray) : List Int × ByteArray :=
 if rd a.1 ((fstIdx x.1 : Nat) : Int) = 0 then a else (subRow (rd a.1 ((fstIdx x.1 : Nat) : Int)) x.1 a.1, sumP a.2 (scaleBytes (rd a.1 ((fstIdx x.1 : Nat) : Int)) x.2))
def redRow (st : St) (a : List Int × ByteArray) : List Int × ByteArray := st.foldl redStep a
def addSt (st : St) (row : List Int) (part : ByteArray) : Option (List Int × ByteArray) :=
 if fstIdx (redRow st (row, part)).1 = (redRow st (row, part)).1.length then none
 else some (mulRow (iinv (rd (redRow st (row, part)).1 ((fstIdx (redRow st (row, part)).1 : Nat) : Int))) (redRow st (row, part)).1, scaleBytes (iinv (rd (redRow st (row, part)).1 ((fstIdx (redRow st (row, part)).1 : Nat) : Int))) (redRow st (row, part)).2)
theorem rdi {l : List Int} {i : Nat} (h : i < l.length) : rd l (i : Int) = l[i] := by simp [rd, List.getD_eq_getElem?_getD, List.getElem?_eq_getElem h]
theorem mixRow_length (f : Int) (x r : List Int) (m : Nat) : (mixRow f x r m).length = r.length := by simp [mixRow]
theorem mulUpto_length (c : Int) (r : List Int) (m : Nat) : (mulUpto c r m).length = r.length := by simp [mulUpto]
theorem subRow_length (f : Int) (x r : List Int) : (subRow f x r).length = r.length := by simp [subRow]
theorem mulRow_length (c : Int) (r : List Int) : (mulRow c r).length = r.length := by simp [mulRow]
theorem mixRow_zero (f : Int) (x r : List Int) : mixRow f x r 0 = r := by
 apply List.ext_getElem
 ·simp [mixRow]
 ·intro i h1 h2; simp [mixRow, rdi h2]
theorem mulUpto_zero (c : Int) (r : List Int) : mulUpto c r 0 = r := by
 apply List.ext_getElem
 ·simp [mulUpto]
 ·intro i h1 h2; simp [mulUpto, rdi h2]
theorem mixRow_all (f : Int) (x r : List Int) : mixRow f x r r.length = subRow f x r := by
 apply List.ext_getElem
 ·simp [mixRow, subRow]
 ·intro i h1 h2
  have : i < r.length := by simpa [mixRow] using h1
  simp [mixRow, subRow, this]
theorem mulUpto_all (c : Int) (r : List Int) : mulUpto c r r.length = mulRow c r := by
 apply List.ext_getElem
 ·simp [mulUpto, mulRow]
 ·intro i h1 h2
  have : i < r.length := by simpa [mulUpto] using h1
  simp [mulUpto, mulRow, this]
theorem mixRow_at (f : Int) (x r : List Int) {m : Nat} (h : m < r.length) : rd (mixRow f x r m) (m : Int) = rd r (m : Int) := by
 rw [rdi (by rw [mixRow_length]; exact h)]; simp [mixRow]
theorem mulUpto_at (c : Int) (r : List Int) {m : Nat} (h : m < r.length) : rd (mulUpto c r m) (m : Int) = rd r (m : Int) := by
 rw [rdi (by rw [mulUpto_length]; exact h)]; simp [mulUpto]
theorem mixRow_set (f : Int) (x r : List Int) (m : Nat) : (mixRow f x r m).set m (ixor (rd r (m : Int)) (imul f (rd x (m : Int)))) = mixRow f x r (m + 1) := by
 apply List.ext_getElem
 ·simp [mixRow]
 ·intro i h1 h2
  have hi : i < r.length := by simpa [mixRow] using h2
  rw [List.getElem_set]
  by_cases e : m = i
  ·subst e; simp [mixRow]
  ·rw [if_neg e]
   simp only [mixRow, List.getElem_map, List.getElem_range]
   by_cases h3 : i < m
   ·rw [if_pos h3, if_pos (by omega)]
   ·rw [if_neg h3, if_neg (by omega)]
theorem mulUpto_set (c : Int) (r : List Int) (m : Nat) : (mulUpto c r m).set m (imul c (rd r (m : Int))) = mulUpto c r (m + 1) := by
 apply List.ext_getElem
 ·simp [mulUpto]
 ·intro i h1 h2
  have hi : i < r.length := by simpa [mulUpto] using h2
  rw [List.getElem_set]
  by_cases e : m = i
  ·subst e; simp [mulUpto]
  ·rw [if_neg e]
   simp only [mulUpto, List.getElem_map, List.getElem_range]
   by_cases h3 : i < m
   ·rw [if_pos h3, if_pos (by omega)]
   ·rw [if_neg h3, if_neg (by omega)]
theorem all_isB_sub {f : Int} {x r : List Int} (hr : r.all isB = true) (hf : isB f = true) : (subRow f x r).all isB = true := by
 rw [List.all_eq_true]
 intro y hy
 simp only [subRow, List.mem_map, List.mem_range] at hy
 obtain ⟨i, hi, rfl⟩ := hy
 exact isB_xor (isB_rd hr i hi) (isB_mul _ hf)
theorem all_isB_mul {c : Int} {r : List Int} (hc : isB c = true) : (mulRow c r).all isB = true := by
 rw [List.all_eq_true]
 intro y hy
 simp only [mulRow, List.mem_map, List.mem_range] at hy
 obtain ⟨i, hi, rfl⟩ := hy
 exact isB_mul _ hc
/-- What each row of the stairs is: so many bytes, not all 0, and a piece that is not too long. -/
def WfRow (width M : Nat) (x : List Int × ByteArray) : Prop := x.1.all isB = true ∧ x.1.length = width ∧ x.2.size ≤ M
def WfSt (width M : Nat) (st : St) : Prop := ∀ x ∈ st, WfRow width M x ∧ fstIdx x.1 < width
theorem redStep_wf {width M : Nat} {a x : List Int × ByteArray} (ha : WfRow width M a) (hx : WfRow width M x) (hf : fstIdx x.1 < width) : WfRow width M (redStep a x) := by
 unfold redStep
 split
 ·exact ha
 ·exact ⟨all_isB_sub ha.1 (isB_rd ha.1 _ (by rw [ha.2.1]; exact hf)), by rw [subRow_length]; exact ha.2.1, sumP_size ha.2.2 (by rw [scaleBytes_size]; exact hx.2.2)⟩
theorem redRow_wf {width M : Nat} {st : St} (h : WfSt width M st) : ∀ {a}, WfRow width M a → WfRow width M (redRow st a) := by
 induction st with
 | nil => intro a ha; exact ha
 | cons x st ih =>
  intro a ha
  have hx := h x (List.mem_cons_self)
  exact ih (fun y hy => h y (List.mem_cons_of_mem _ hy)) (redStep_wf ha hx.1 hx.2)
theorem redRow_take_succ (st : St) (a : List Int × ByteArray) {n : Nat} (h : n < st.length) : redRow (st.take (n + 1)) a = redStep (redRow (st.take n) a) st[n] := by
 unfold redRow
 rw [List.take_succ_eq_append_getElem h, List.foldl_append]
 rfl
/-- What the stairs are in memory: their block, the rows and the pieces. -/
def StairsAt (gs base width : Nat) (W : World) (st : St) : Prop :=
 base ≤ gs ∧ ∃ vr vp, W.heap[gs]? = some (.cells #[vr, vp, .int .i64 (width : Int)] 117 (0, 0)) ∧ Kd.S (Kd.slice 5 (Kd.int .u8)) 57 W base (fun _ => True) vr (st.map Prod.fst) ∧ Kd.R Kd.string 9 W base (fun _ => True) vp (st.map Prod.snd)
theorem StairsAt.below {gs base width : Nat} {W W1 : World} {st : St} (h : StairsAt gs base width W st) (hb : Below W.heap.size W W1) : StairsAt gs base width W1 st := by
 obtain ⟨h0, vr, vp, h1, h2, h3⟩ := h
 exact ⟨h0, vr, vp, blk_below h1 hb, Kd.S_below h2 hb, Kd.R_below h3 hb⟩
theorem below_base {base : Nat} {w0 w W : World} (h : Below base w0 w) (hbs : base ≤ w.heap.size) (hb : Below w.heap.size w W) : Below base w0 W := h.trans ⟨hb.os, hb.tape, hb.output, hb.size, fun i hi => hb.block i (by omega)⟩
theorem rdF (st : St) {n : Nat} (h : n < st.length) : rd_L4 (st.map Prod.fst) (n : Int) = st[n].1 := by
 simp [rd_L4, List.getD_eq_getElem?_getD, List.getElem?_eq_getElem h]
theorem rdS (st : St) {n : Nat} (h : n < st.length) : rdOf ByteArray.empty (st.map Prod.snd) (n : Int) = st[n].2 := by
 simp [rdOf, List.getD_eq_getElem?_getD, List.getElem?_eq_getElem h]
theorem at_bytes_nat' {w : World} {A : Option Addr} {n : Nat} {xs : List (List Int)} (h : Kd.C (Kd.slice 5 (Kd.int .u8)) w A n xs) (k : Nat) (hk : k < n) : ∃ ad A0 c0, A = some ad ∧ w.cell? (ad.add k) = some (.slice A0 (rd_L4 xs (k : Int)).length c0) ∧ (rd_L4 xs (k : Int)).length ≤ c0 ∧ (Kd.int .u8).C w A0 (rd_L4 xs (k : Int)).length (rd_L4 xs (k : Int)) := by
 obtain ⟨ad, A0, c0, e, h1, h2, h3⟩ := at_L4 h (k : Int) (by omega) (by omega)
 exact ⟨ad, A0, c0, e, by rwa [Int.toNat_natCast] at h1, h2, h3⟩
set_option maxHeartbeats 4000000 in
set_option maxRecDepth 100000 in
theorem code_stairs_add.calls (gs base width M : Nat) (w0 w : World) (st : St) (A : Option Addr) (c : Nat) (row : List Int) (part : ByteArray) (hG0 : HG w0) (hbe : base = w0.heap.size) (hS : StairsAt gs base width w st) (hwf : WfSt width M st) (hst : st.length < 1000) (hB0 : Below base w0 w) (hbs : base ≤ w.heap.size)
  (hw : 1 ≤ width) (hw2 : width < 1000) (hM : M ≤ 140737488351232) (hr : Kd.C (Kd.int .u8) w A row.length row) (hc : row.length ≤ c) (hwr : WfRow width M (row, part)) :
  Calls Tryd.prog 91 #[.pointer (some ⟨gs, 0, none⟩), .slice A row.length c, .string part] w fun e w' =>
   e = .returned (.bool (addSt st row part).isSome) ∧ StairsAt gs base width w' (st ++ (addSt st row part).toList) ∧ Below base w0 w' ∧ w.heap.size ≤ w'.heap.size := by
 have hG : HG w := hG0.below (hbe ▸ hB0)
 have HG0 := Aside0.mk (show ∀ W, Below base w0 W → HG W from fun W hb => hG0.below (hbe ▸ hb))
 clear hbe
 obtain ⟨hgs, vr, vp, hb, hvr, hvp⟩ := hS
 obtain ⟨N, hN⟩ : ∃ N : Nat, N = st.length := ⟨_, rfl⟩
 have hfl : (st.map Prod.fst).length = N := by rw [List.length_map, hN]
 have hsl : (st.map Prod.snd).length = N := by rw [List.length_map, hN]
 obtain ⟨Ar, cr, er, hcr, hCr⟩ := Kd.S_reads hvr
 obtain ⟨Ap, cp, ep, hcp, hCp⟩ := Kd.R_reads hvp
 rw [hfl] at er hcr hCr
 rw [hsl] at ep hcp hCp
 subst er ep
 have hrl : row.length = width := hwr.2.1
 rw [hrl] at hr hc
 rw [← hN] at hst
 rw [hrl]
 have hcz0 : w.cell? ⟨gs, 0, none⟩ = some (.slice Ar N cr) := blk_cell hb 0
 have hcz1 : w.cell? ⟨gs, 1, none⟩ = some (.slice Ap N cp) := blk_cell hb 1
 have HGw := Aside0.mk hG
 have HC := Aside0.mk hr
 have HBK := Aside0.mk hb
 have HVR := Aside0.mk hvr
 have HVP := Aside0.mk hvp
 have HCR := Aside0.mk hCr
 have HCP := Aside0.mk hCp
 have HWF := Aside0.mk hwf
 have HWR := Aside0.mk hwr
 have HB0 := Aside0.mk hB0
 have HRL := Aside0.mk hrl
 have HN := Aside0.mk hN
 have hu117 := Tryd.underlying117
 clear hG hG0 hr hb hvr hvp hCr hCp hwf hwr hB0 hrl hN hfl hsl
 go_enter Tryd.func91, Tryd.ntmps91
 go_wp2_with (at_builtin; refine Kd.R_append_row (Value.int .u8) (0 : Int) (h1 := fun _ => rfl) (w0 := w) w.heap.size rfl (.tmp 17) (.tmp 18) 57 5 (.int .u8 0) 1 rfl Tryd.underlying57 info5 rfl (by decide) _ [] row A width c (fun _ => True) rfl rfl (fun _ _ => trivial) ?uB1 ?uB2 ?uB3 ?uB4 ?uB5 ?_; (case uB1 => exact Kd.R_mono (arr_own (k := .u8) (xs := []) (blk_new w _) (Nat.le_refl _) (by simp) 0 rfl) (fun _ _ => trivial)); (case uB2 => exact Kd.C_below HC.out (below_alloc (Below.refl _ _) _)); (case uB3 => exact (below_alloc (Below.refl _ _) _)); (case uB4 => (rw [World.size_alloc]; omega)); (case uB5 => (simp; omega)); intro v1 w1 ho hb hg hat; rw [List.nil_append] at ho; obtain ⟨g, cap, hv, hgb, hglt, hgc⟩ := Kd.R_form ho (by have := HRL.out; omega); rw [HRL.out] at hv; subst hv; have HO := Aside0.mk ho; have HB1 := Aside0.mk hb; have hbw := blk_below HBK.out hb; have HBW := Aside0.mk hbw; have hcy0 : w1.cell? ⟨gs, 0, none⟩ = some (.slice Ar N cr) := blk_cell hbw 0; have hcy1 : w1.cell? ⟨gs, 1, none⟩ = some (.slice Ap N cp) := blk_cell hbw 1; clear ho hb hg hat hgc hbw)
 go_loopw [2, 25] (fun x v W => ∃ (j : Nat) (rp : List Int × ByteArray), j ≤ N ∧ v = .int .i64 (j : Int) ∧ x = .string rp.2 ∧ Aside0 (redRow (st.take j) (row, part) = rp) ∧ Aside0 (WfRow width M rp) ∧ Aside0 ((Kd.int .u8).R 5 W w.heap.size (fun _ => True) (.slice (some ⟨g, 0, none⟩) width cap) rp.1) ∧ Aside0 (Below w.heap.size w W)) (fun _ v _ => N - (intOf v).toNat)
 case atStart => exact ⟨0, (row, part), Nat.zero_le _, rfl, rfl, ⟨rfl⟩, HWR, HO, HB1⟩
 case round =>
  obtain ⟨j, ⟨r, p⟩, hj, rfl, rfl, HRD, HWF1, HR, HB⟩ := hrel
  by_cases hlt : j < N
  ·have hjs : j < st.length := HN.out ▸ hlt
   obtain ⟨⟨hxB, hxl, hxM⟩, hxf⟩ := HWF.out _ (List.getElem_mem hjs)
   have HRD2 := Aside0.mk (redRow_take_succ st (row, part) hjs)
   obtain ⟨ad0, A0, c0, rfl, hx0, hx1, hx2⟩ := at_bytes_nat' HCR.out j hlt
   obtain ⟨ad1, rfl, hq0⟩ := at_string_nat HCP.out j hlt
   rw [rdF st hjs] at hx0 hx1 hx2
   rw [rdS st hjs] at hq0
   generalize st[j] = xq at hxB hxl hxM hxf HRD2 hx0 hx1 hx2 hq0
   obtain ⟨x, q⟩ := xq
   dsimp only at hxB hxl hxM hxf hx0 hx1 hx2 hq0
   rw [hxl] at hx0 hx1 hx2
   replace hx0 := pw_cell_below HB.out hx0
   obtain ⟨hrB, hrl, hpM⟩ := HWF1.out
   dsimp only at hrB hrl hpM
   have HX0 := Aside0.mk hx2
   have HQ0 := Aside0.mk hq0
   clear hq0
   have HX2 := Aside0.mk (Kd.C_below hx2 HB.out)
   have HXB := Aside0.mk hxB
   have HRB := Aside0.mk hrB
   have HXL := Aside0.mk hxl
   have HRLn := Aside0.mk hrl
   have hf0 : fstIdx x < r.length := by rw [hrl]; exact hxf
   obtain ⟨hrc, _⟩ := Kd.R_celln (0 : Int) HR.out ((fstIdx x : Nat) : Int) (by omega) (by omega)
   rw [Int.toNat_natCast, show rdOf (0 : Int) r ((fstIdx x : Nat) : Int) = rd r ((fstIdx x : Nat) : Int) from rfl] at hrc
   have HF1 := Aside0.mk (show ∀ W, Below wr.heap.size wr W → Calls Tryd.prog 92 #[.slice A0 width c0] W fun e w' => e = .returned (.int .i64 ((fstIdx x : Nat) : Int)) ∧ Drawn0 W w' from by
    intro W hb
    have := code_first.fst A0 c0 x W ((HGw.out.below HB.out).below hb) (by rw [HXL.out]; exact Kd.C_below HX2.out hb) (by rw [HXL.out]; exact hx1) (by rw [HXL.out]; omega)
    rw [HXL.out] at this
    exact this)
   clear hx2 hxB hrB hxl hrl hx1
   generalize hfe : fstIdx x = fi at hrc hf0 hxf HF1
   generalize hff : rd r (fi : Int) = f at hrc
   have HFE := Aside0.mk hfe
   have HFF := Aside0.mk hff
   clear hfe hff
   by_cases hz : f = 0
   ·subst hz
    go_wp2_with (go_at_call 92; (with_reducible refine (HF1.out _ (Below.refl _ _)).mono ?_); rintro e w' ⟨rfl, ⟨nd, rfl⟩⟩)
    go_roundw
    case rel => exact ⟨j + 1, (r, p), by omega, by go_num, rfl, ⟨by rw [HRD2.out, HRD.out]; unfold redStep; rw [if_pos]; show rd r ((fstIdx x : Nat) : Int) = 0; rw [HFE.out, HFF.out]⟩, HWF1, ⟨Kd.R_drewN HR.out _⟩, ⟨pw_below_drewN HB.out _⟩⟩
    case measure => simp [intOf]; omega
   ·have hz1 : (f == 0) = false := beq_eq_false_iff_ne.2 hz
    have hz2 : (f != 0) = true := bne_iff_ne.2 hz
    go_wp2_with (go_at_call 92; (with_reducible refine (HF1.out _ (Below.refl _ _)).mono ?_); rintro e w' ⟨rfl, ⟨nd, rfl⟩⟩)
    have HRo := Aside0.mk (Kd.R_drewN HR.out nd)
    have HBo := Aside0.mk (pw_below_drewN HB.out nd)
    generalize wr.drewN nd = wo at *
    clear HX2 HF1 HR HB hrc hx0
    have hfB : isB f = true := by rw [← HFF.out]; exact isB_rd HRB.out fi hf0
    go_loopw [40] (fun v W => ∃ m : Nat, m ≤ width ∧ v = .int .i64 (m : Int) ∧ Aside0 ((Kd.int .u8).R 5 W w.heap.size (fun _ => True) (.slice (some ⟨g, 0, none⟩) width cap) (mixRow f x r m)) ∧ Aside0 (Below w.heap.size w W)) (fun v _ => width - (intOf v).toNat)
    case atStart => exact ⟨0, Nat.zero_le _, rfl, ⟨by rw [mixRow_zero]; exact HRo.out⟩, HBo⟩
    case round =>
     clear HRo HBo
     obtain ⟨m, hm, rfl, HR, HB⟩ := hrel
     by_cases hlt2 : m < width
     ·have hmr : m < r.length := by rw [HRLn.out]; exact hlt2
      have hmx : m < x.length := by rw [HXL.out]; exact hlt2
      obtain ⟨hcm, hfm⟩ := Kd.R_celln (0 : Int) HR.out ((m : Nat) : Int) (by omega) (by omega)
      rw [Int.toNat_natCast, show rdOf (0 : Int) (mixRow f x r m) ((m : Nat) : Int) = rd (mixRow f x r m) ((m : Nat) : Int) from rfl, mixRow_at f x r hmr] at hcm
      rw [Int.toNat_natCast] at hfm
      obtain ⟨ad2, rfl, hxm⟩ := at_int_nat (Kd.C_below HX0.out HB.out) m hlt2
      have hRi := isB_rd HRB.out m hmr
      have hXi := isB_rd HXB.out m hmx
      have HV := Aside0.mk (bits_xor_u8 hRi (isB_mul (rd x (m : Int)) hfB))
      have HMU := Aside0.mk (fun W (hb : Below wr.heap.size wr W) => gf_Mul.mul hfB hXi W ((HGw.out.below HB.out).below hb))
      have HK := Aside0.mk (show ∀ k, (Kd.int .u8).R 5 ((wr.drewN k).setCell ⟨g, m, none⟩ (.int .u8 (Go.bits .xor .u8 (rd r (m : Int)) (imul f (rd x (m : Int)))))) w.heap.size (fun _ => True) (.slice (some ⟨g, 0, none⟩) width cap) (mixRow f x r (m + 1)) from by
       intro k
       rw [HV.out, ← mixRow_set]
       have := Kd.R_putn (Kd.R_drewN HR.out k) ((m : Nat) : Int) (ixor (rd r (m : Int)) (imul f (rd x (m : Int))))
       rw [Int.toNat_natCast] at this
       exact this)
      clear hRi hXi
      go_wp2
      go_region_with (go_at_call 87; (with_reducible refine (HMU.out _ (by repeat (first | exact Below.refl _ _ | apply pw_below_drewN | apply below_drew))).mono ?_); rintro e w' ⟨rfl, ⟨nd2, rfl⟩⟩)
      all_goals
       go_wp2
       go_roundw
       case rel => exact ⟨m + 1, by omega, by go_num, ⟨HK.out _⟩, ⟨below_set (pw_below_drewN HB.out _) hgb⟩⟩
       case measure => simp [intOf]; omega
     ·obtain rfl : m = width := by omega
      have hR := HR.out
      have hme : mixRow f x r m = subRow f x r := by rw [← mixRow_all, HRLn.out]
      rw [hme] at hR
      have HR2 := Aside0.mk hR
      have HSC := Aside0.mk (fun W (hb : Below wr.heap.size wr W) => gf_Scale.scale f q hfB (Nat.le_trans hxM hM) W ((HGw.out.below HB.out).below hb))
      have HSM := Aside0.mk (fun W (hb : Below wr.heap.size wr W) => gf_Sum.sum p (scaleBytes f q) (Nat.le_trans hpM hM) (by rw [scaleBytes_size]; exact Nat.le_trans hxM hM) W ((HGw.out.below HB.out).below hb))
      have hbw := blk_below HBK.out HB.out
      have hcy0 : wr.cell? ⟨gs, 0, none⟩ = some (.slice (some ad0) N cr) := blk_cell hbw 0
      have hcy1 : wr.cell? ⟨gs, 1, none⟩ = some (.slice (some ad1) N cp) := blk_cell hbw 1
      have hq1 := pw_cell_below HB.out HQ0.out
      clear hR HR HX0 hbw hme
      go_wp2_with (first | (go_at_call 106; (with_reducible refine (HSC.out _ (Below.refl _ _)).mono ?_); rintro e w2 ⟨rfl, hb2⟩; have HB2 := Aside0.mk hb2; clear hb2) | (go_at_call 36; (with_reducible refine (HSM.out _ HB2.out).mono ?_); rintro e w3 ⟨rfl, hb3⟩; have HB3 := Aside0.mk (below_step HB2.out hb3); clear hb3))
      go_roundw
      case rel => exact ⟨j + 1, (subRow f x r, sumP p (scaleBytes f q)), by omega, by go_num, rfl, ⟨by rw [HRD2.out, HRD.out]; unfold redStep; rw [HFE.out, HFF.out, if_neg hz]⟩, ⟨all_isB_sub HRB.out hfB, by rw [subRow_length]; exact HRLn.out, sumP_size hpM (by rw [scaleBytes_size]; exact hxM)⟩, ⟨Kd.R_below HR2.out HB3.out⟩, ⟨below_step HB.out HB3.out⟩⟩
      case measure => simp [intOf]; omega
  ·obtain rfl : j = N := by omega
   have hred : redRow st (row, part) = (r, p) := by
    have := HRD.out
    rwa [HN.out, List.take_length] at this
   obtain ⟨hrB, hrl, hpM⟩ := HWF1.out
   dsimp only at hrB hrl hpM
   have HRB := Aside0.mk hrB
   have HRLn := Aside0.mk hrl
   have HRE := Aside0.mk hred
   have hfl := fstIdx_le r
   rw [hrl] at hfl
   have HF1 := Aside0.mk (show ∀ W, Below wr.heap.size wr W → Calls Tryd.prog 92 #[.slice (some ⟨g, 0, none⟩) width cap] W fun e w' => e = .returned (.int .i64 ((fstIdx r : Nat) : Int)) ∧ Drawn0 W w' from by
    intro W hb
    obtain ⟨_, hcc, hC⟩ := Kd.R_reads' (Kd.R_below HR.out hb)
    have := code_first.fst (some ⟨g, 0, none⟩) cap r W ((HGw.out.below HB.out).below hb) hC (by rw [HRLn.out]; exact hcc) (by rw [HRLn.out]; omega)
    rw [HRLn.out] at this
    exact this)
   have hadd : addSt st row part = if fstIdx r = width then none else some (mulRow (iinv (rd r ((fstIdx r : Nat) : Int))) r, scaleBytes (iinv (rd r ((fstIdx r : Nat) : Int))) p) := by
    unfold addSt
    rw [hred, hrl]
   generalize hfe : fstIdx r = fi at hfl HF1 hadd
   have HAD := Aside0.mk hadd
   clear hrB hrl hred hadd
   by_cases hz : fi = width
   ·have hz1 : ((fi : Int) == (width : Int)) = true := beq_iff_eq.2 (by omega)
    go_wp2_with (go_at_call 92; (with_reducible refine (HF1.out _ (Below.refl _ _)).mono ?_); rintro e w' ⟨rfl, ⟨nd, rfl⟩⟩)
    have hn := HAD.out
    rw [if_pos hz] at hn
    rw [hn]
    go_ret
    exact ⟨rfl, by rw [show (none : Option (List Int × ByteArray)).toList = [] from rfl, List.append_nil]; exact StairsAt.below ⟨hgs, _, _, HBK.out, HVR.out, HVP.out⟩ (pw_below_drewN HB.out _), below_base HB0.out hbs (pw_below_drewN HB.out _), (pw_below_drewN HB.out _).size⟩
   ·have hz1 : ((fi : Int) == (width : Int)) = false := beq_eq_false_iff_ne.2 (by omega)
    have hz2 : (fi == width) = false := beq_eq_false_iff_ne.2 hz
    have hflt : fi < width := by omega
    have hf0 : fi < r.length := by rw [HRLn.out]; exact hflt
    have hne : rd r (fi : Int) ≠ 0 := by
     subst hfe
     have := List.findIdx_getElem (xs := r) (p := fun x => x != 0) (w := hf0)
     rw [rdi hf0]
     exact bne_iff_ne.1 this
    obtain ⟨hrc, _⟩ := Kd.R_celln (0 : Int) HR.out ((fi : Nat) : Int) (by omega) (by omega)
    rw [Int.toNat_natCast, show rdOf (0 : Int) r ((fi : Nat) : Int) = rd r ((fi : Nat) : Int) from rfl] at hrc
    have hfB := isB_rd HRB.out fi hf0
    have HIV := Aside0.mk (fun W (hb : Below wr.heap.size wr W) => gf_Inv.inv (rd r (fi : Int)) hfB hne W ((HGw.out.below HB.out).below hb))
    have hiB := isB_inv (rd r (fi : Int))
    rw [if_neg hz] at HAD
    generalize iinv (rd r (fi : Int)) = iv at HIV hiB HAD
    clear hne hfB
    go_wp2_with (first | (go_at_call 92; (with_reducible refine (HF1.out _ (Below.refl _ _)).mono ?_); rintro e w' ⟨rfl, ⟨nd, rfl⟩⟩) | (go_at_call 107; (with_reducible refine (HIV.out _ (by repeat (first | exact Below.refl _ _ | apply pw_below_drewN | apply below_drew))).mono ?_); rintro e w' ⟨rfl, ⟨nd2, rfl⟩⟩))
    have HRo := Aside0.mk (Kd.R_drewN HR.out (nd + nd2))
    have HBo := Aside0.mk (pw_below_drewN HB.out (nd + nd2))
    generalize wr.drewN (nd + nd2) = wo at *
    clear HF1 HR HB hrc HIV
    go_loopw [84] (fun v W => ∃ m : Nat, m ≤ width ∧ v = .int .i64 (m : Int) ∧ Aside0 ((Kd.int .u8).R 5 W w.heap.size (fun _ => True) (.slice (some ⟨g, 0, none⟩) width cap) (mulUpto iv r m)) ∧ Aside0 (Below w.heap.size w W)) (fun v _ => width - (intOf v).toNat)
    case atStart => exact ⟨0, Nat.zero_le _, rfl, ⟨by rw [mulUpto_zero]; exact HRo.out⟩, HBo⟩
    case round =>
     clear HRo HBo
     obtain ⟨m, hm, rfl, HR, HB⟩ := hrel
     by_cases hlt2 : m < width
     ·have hmr : m < r.length := by rw [HRLn.out]; exact hlt2
      obtain ⟨hcm, hfm⟩ := Kd.R_celln (0 : Int) HR.out ((m : Nat) : Int) (by omega) (by omega)
      rw [Int.toNat_natCast, show rdOf (0 : Int) (mulUpto iv r m) ((m : Nat) : Int) = rd (mulUpto iv r m) ((m : Nat) : Int) from rfl, mulUpto_at iv r hmr] at hcm
      rw [Int.toNat_natCast] at hfm
      have hRi := isB_rd HRB.out m hmr
      have HMU := Aside0.mk (fun W (hb : Below wr.heap.size wr W) => gf_Mul.mul hiB hRi W ((HGw.out.below HB.out).below hb))
      have HK := Aside0.mk (show ∀ k, (Kd.int .u8).R 5 ((wr.drewN k).setCell ⟨g, m, none⟩ (.int .u8 (imul iv (rd r (m : Int))))) w.heap.size (fun _ => True) (.slice (some ⟨g, 0, none⟩) width cap) (mulUpto iv r (m + 1)) from by
       intro k
       rw [← mulUpto_set]
       have := Kd.R_putn (Kd.R_drewN HR.out k) ((m : Nat) : Int) (imul iv (rd r (m : Int)))
       rw [Int.toNat_natCast] at this
       exact this)
      clear hRi
      go_wp2_with (go_at_call 87; (with_reducible refine (HMU.out _ (by repeat (first | exact Below.refl _ _ | apply pw_below_drewN | apply below_drew))).mono ?_); rintro e w' ⟨rfl, ⟨nd2, rfl⟩⟩)
      go_roundw
      case rel => exact ⟨m + 1, by omega, by go_num, ⟨HK.out _⟩, ⟨below_set (pw_below_drewN HB.out _) hgb⟩⟩
      case measure => simp [intOf]; omega
     ·obtain rfl : m = width := by omega
      have hme : mulUpto iv r m = mulRow iv r := by rw [← mulUpto_all, HRLn.out]
      have hR := HR.out
      rw [hme] at hR
      have HR2 := Aside0.mk hR
      have HSC := Aside0.mk (fun W (hb : Below base w0 W) => gf_Scale.scale iv p hiB (Nat.le_trans hpM hM) W (HG0.out W hb))
      have hbw := blk_below HBK.out HB.out
      have hcy0 : wr.cell? ⟨gs, 0, none⟩ = some (.slice Ar j cr) := blk_cell hbw 0
      have hcy1 : wr.cell? ⟨gs, 1, none⟩ = some (.slice Ap j cp) := blk_cell hbw 1
      have HBW := Aside0.mk hbw
      clear hR HR hbw hme
      go_wp2
      have hel : (st.map Prod.fst).length = j ∧ (st.map Prod.snd).length = j := by rw [List.length_map, List.length_map]; exact ⟨HN.out.symm, HN.out.symm⟩
      have HEL := Aside0.mk hel
      generalize hrn : mulRow iv r = rn at HR2 HAD
      generalize hpn : scaleBytes iv p = pn at HSC HAD
      have HNE1 := Aside0.mk (Kd.S_ne HVR.out HBK.out (by decide))
      have HNE2 := Aside0.mk (Kd.R_ne HVP.out HBK.out (by decide))
      clear hrn hpn hel hcy0 hcy1
      have hcy0 : wr.drew.cell? ⟨gs, 0, none⟩ = some (.slice Ar j cr) := blk_cell (blk_drew HBW.out) 0
      have hcy1 : wr.drew.cell? ⟨gs, 1, none⟩ = some (.slice Ap j cp) := blk_cell (blk_drew HBW.out) 1
      have HBd := Aside0.mk (below_drew HB.out)
      have HBWd := Aside0.mk (blk_drew HBW.out)
      have HVR1 := Aside0.mk (Kd.S_below HVR.out HBd.out)
      have HVR2 := Aside0.mk (Kd.S_below (Kd.S_mono (Kd.S_elderB HVR.out g hgb) (fun _ h_ => h_)) HBd.out)
      have HVP1 := Aside0.mk (Kd.R_below HVP.out HBd.out)
      have HRN1 := Aside0.mk (Kd.R_mono (Kd.R_lower (Kd.R_tight rfl (Kd.R_drew HR2.out)) hbs) (ok' := fun k => k = g) (fun k hk => by have : k = g := (by simpa [Value.ownBlock] using hk); exact this))
      have HBB := Aside0.mk (below_base HB0.out hbs HBd.out)
      have HBS := Aside0.mk HBd.out.size
      refine start_ (n := 24) (S := fun w' => w'.cell? ⟨gs, 0, none⟩ = some (.slice Ar j cr) ∧ w'.cell? ⟨gs, 1, none⟩ = some (.slice Ap j cp)) (ds := [20, 23]) #[false, false, false, false, false, false, false, false, false, false, false, false, false, false, false, false, false, false, false, false, false, false, false, false] (by kernel_rfl) rfl rfl ⟨hcy0, hcy1⟩ (fun hHeld => ?_)
      clear HB HR2 HBW
      generalize wr.drew = wd at *
      refine pure_ (i := 0) (N := some 97) (v := ?_) (a' := ?_) #[true, false, false, false, false, false, false, false, false, false, false, false, false, false, false, false, false, false, false, false, false, false, false, false] rfl rfl (by kernel_rfl) (fun _ _ _ h => h) (Or.inl ⟨by rfl, ?_⟩) ?_ ?_
      rotate_left
      ·intro w'
       go_simp
       with_reducible rfl
      rotate_left
      ·simp only [Act.put, List.setIfInBounds_toArray, List.set_cons_zero, List.set_cons_succ, i64_w, i32_w]
       rfl
      refine pure_ (i := 1) (N := some 98) (v := ?_) (a' := ?_) #[true, true, false, false, false, false, false, false, false, false, false, false, false, false, false, false, false, false, false, false, false, false, false, false] rfl rfl (by kernel_rfl) (fun _ _ _ h => h) (Or.inl ⟨by rfl, ?_⟩) ?_ ?_
      rotate_left
      ·intro w'
       go_simp
       with_reducible rfl
      rotate_left
      ·simp only [Act.put, List.setIfInBounds_toArray, List.set_cons_zero, List.set_cons_succ, i64_w, i32_w]
       rfl
      refine pure_ (i := 2) (N := some 99) (v := ?_) (a' := ?_) #[true, true, true, false, false, false, false, false, false, false, false, false, false, false, false, false, false, false, false, false, false, false, false, false] rfl rfl (by kernel_rfl) (fun _ _ _ h => h) (Or.inl ⟨by rfl, ?_⟩) ?_ ?_
      rotate_left
      ·intro w'
       go_simp
       with_reducible rfl
      rotate_left
      ·simp only [Act.put, List.setIfInBounds_toArray, List.set_cons_zero, List.set_cons_succ, i64_w, i32_w]
       rfl
      refine pure_ (i := 3) (N := some 100) (v := ?_) (a' := ?_) #[true, true, true, true, false, false, false, false, false, false, false, false, false, false, false, false, false, false, false, false, false, false, false, false] rfl rfl (by kernel_rfl) (fun _ _ _ h => h) (Or.inl ⟨by rfl, ?_⟩) ?_ ?_
      rotate_left
      ·intro w'
       go_simp
       with_reducible rfl
      rotate_left
      ·simp only [Act.put, List.setIfInBounds_toArray, List.set_cons_zero, List.set_cons_succ, i64_w, i32_w]
       rfl
      refine pure_ (i := 4) (N := some 101) (v := ?_) (a' := ?_) #[true, true, true, true, true, false, false, false, false, false, false, false, false, false, false, false, false, false, false, false, false, false, false, false] rfl rfl (by kernel_rfl) (fun _ _ _ h => h) (Or.inl ⟨by rfl, ?_⟩) ?_ ?_
      rotate_left
      ·intro w'
       go_simp
       with_reducible rfl
      rotate_left
      ·simp only [Act.put, List.setIfInBounds_toArray, List.set_cons_zero, List.set_cons_succ, i64_w, i32_w]
       rfl
      refine pure_ (i := 6) (N := some 103) (v := ?_) (a' := ?_) #[true, true, true, true, true, false, true, false, false, false, false, false, false, false, false, false, false, false, false, false, false, false, false, false] rfl rfl (by kernel_rfl) (fun _ _ _ h => h) (Or.inl ⟨by rfl, ?_⟩) ?_ ?_
      rotate_left
      ·intro w'
       go_simp
       with_reducible rfl
      rotate_left
      ·simp only [Act.put, List.setIfInBounds_toArray, List.set_cons_zero, List.set_cons_succ, i64_w, i32_w]
       rfl
      refine pure_ (i := 9) (N := some 106) (v := ?_) (a' := ?_) #[true, true, true, true, true, false, true, false, false, true, false, false, false, false, false, false, false, false, false, false, false, false, false, false] rfl rfl (by kernel_rfl) (fun _ _ _ h => h) (Or.inl ⟨by rfl, ?_⟩) ?_ ?_
      rotate_left
      ·intro w'
       go_simp
       with_reducible rfl
      rotate_left
      ·simp only [Act.put, List.setIfInBounds_toArray, List.set_cons_zero, List.set_cons_succ, i64_w, i32_w]
       rfl
      refine pure_ (i := 10) (N := some 107) (v := ?_) (a' := ?_) #[true, true, true, true, true, false, true, false, false, true, true, false, false, false, false, false, false, false, false, false, false, false, false, false] rfl rfl (by kernel_rfl) (fun _ _ _ h => h) (Or.inl ⟨by rfl, ?_⟩) ?_ ?_
      rotate_left
      ·intro w'
       go_simp
       with_reducible rfl
      rotate_left
      ·simp only [Act.put, List.setIfInBounds_toArray, List.set_cons_zero, List.set_cons_succ, i64_w, i32_w]
       rfl
      refine pure_ (i := 11) (N := some 108) (v := ?_) (a' := ?_) #[true, true, true, true, true, false, true, false, false, true, true, true, false, false, false, false, false, false, false, false, false, false, false, false] rfl rfl (by kernel_rfl) (fun _ _ _ h => h) (Or.inl ⟨by rfl, ?_⟩) ?_ ?_
      rotate_left
      ·intro w'
       go_simp
       with_reducible rfl
      rotate_left
      ·simp only [Act.put, List.setIfInBounds_toArray, List.set_cons_zero, List.set_cons_succ, i64_w, i32_w]
       rfl
      refine pure_ (i := 13) (N := some 110) (v := ?_) (a' := ?_) #[true, true, true, true, true, false, true, false, false, true, true, true, false, true, false, false, false, false, false, false, false, false, false, false] rfl rfl (by kernel_rfl) (fun _ _ _ h => h) (Or.inl ⟨by rfl, ?_⟩) ?_ ?_
      rotate_left
      ·intro w'
       go_simp
       with_reducible rfl
      rotate_left
      ·simp only [Act.put, List.setIfInBounds_toArray, List.set_cons_zero, List.set_cons_succ, i64_w, i32_w]
       rfl
      refine pure_ (i := 14) (N := some 111) (v := ?_) (a' := ?_) #[true, true, true, true, true, false, true, false, false, true, true, true, false, true, true, false, false, false, false, false, false, false, false, false] rfl rfl (by kernel_rfl) (fun _ _ _ h => h) (Or.inl ⟨by rfl, ?_⟩) ?_ ?_
      rotate_left
      ·intro w'
       go_simp
       with_reducible rfl
      rotate_left
      ·simp only [Act.put, List.setIfInBounds_toArray, List.set_cons_zero, List.set_cons_succ, i64_w, i32_w]
       rfl
      refine take_ (i := 5) (N := some 102) (v := ?_) (a' := ?_) #[true, true, true, true, true, true, true, false, false, true, true, true, false, true, true, false, false, false, false, false, false, false, false, false] rfl rfl (by kernel_rfl) (fun _ _ _ h => h) (Or.inl ⟨by rfl, ?_⟩) hHeld ?_ ?_
      rotate_left
      ·rintro w' ⟨s0, s1⟩
       go_simp
       with_reducible rfl
      rotate_left
      ·simp only [Act.put, List.setIfInBounds_toArray, List.set_cons_zero, List.set_cons_succ, i64_w, i32_w]
       rfl
      refine take_ (i := 12) (N := some 109) (v := ?_) (a' := ?_) #[true, true, true, true, true, true, true, false, false, true, true, true, true, true, true, false, false, false, false, false, false, false, false, false] rfl rfl (by kernel_rfl) (fun _ _ _ h => h) (Or.inl ⟨by rfl, ?_⟩) hHeld ?_ ?_
      rotate_left
      ·rintro w' ⟨s0, s1⟩
       go_simp
       with_reducible rfl
      rotate_left
      ·simp only [Act.put, List.setIfInBounds_toArray, List.set_cons_zero, List.set_cons_succ, i64_w, i32_w]
       rfl
      refine one_ (i := 7) (N := some 104) #[true, true, true, true, true, true, true, true, false, true, true, true, true, true, true, false, false, false, false, false, false, false, false, false] rfl rfl (by kernel_rfl) (by decide) (fun K hK => ?_)
      refine value_ (w1 := ?_) (v := ?_) (by rfl) rfl ?_ ?_
      rotate_left 2
      ·go_simp
       constructor
       ·rfl
       ·rfl
      refine hK.out _ _ ⟨blk_cell (blk_alloc HBWd.out _) 0, blk_cell (blk_alloc HBWd.out _) 1⟩ (fun hHeld => ?_)
      clear hK K
      refine norm_ (a' := ?_) ?_ ?_
      rotate_left
      ·show Act.put _ (some 104) _ = _
       simp only [Act.put, List.setIfInBounds_toArray, List.set_cons_zero, List.set_cons_succ, i64_w, i32_w]
       rfl
      refine one_ (i := 8) (N := some 105) #[true, true, true, true, true, true, true, true, true, true, true, true, true, true, true, false, false, false, false, false, false, false, false, false] rfl rfl (by kernel_rfl) (by decide) (fun K hK => ?_)
      refine Kd.S_append_step (Kd.slice 5 (Kd.int .u8)) (w0 := w0) base (by rfl) (.tmp 102) (.tmp 104) 29 57 (.slice none 0 0) 24 rfl Tryd.underlying29 info57 rfl (by decide) (by omega) (.slice Ar j cr) (st.map Prod.fst) rn [.slice (some ⟨g, 0, none⟩) m cap] (fun _ => True) (fun k_ => k_ = g) rfl rfl ?aP ?aK ?aF ?aO ?aB ?aS ?aL ?_
      (case aP => exact Kd.M_row HRN1.out)
      (case aK => exact fun k_ hk_ => ⟨trivial, fun e_ => by have := Kd.S_lt HVR.out k_ e_.symm; omega⟩)
      (case aF => exact fun _ _ => trivial)
      (case aO => exact HVR2.out)
      (case aB => exact HBB.out)
      (case aS => exact Nat.le_trans hbs HBS.out)
      (case aL => have := HEL.out.1; omega)
      intro v1 w3 ho hb hg hat
      obtain ⟨A1, c1, hv1⟩ := Kd.S_slice ho
      generalize (st.map Prod.fst ++ [rn]).length = n1 at hv1
      subst hv1
      have HO3 := Aside0.mk ho
      have HB3 := Aside0.mk hb
      have HBW3 := Aside0.mk (blk_grown HBWd.out hg HNE1.out)
      have HVP3 := Aside0.mk (Kd.R_over HVP1.out (Kd.S_R HVR1.out) (by decide) hg)
      have HS3 := Aside0.mk hg.size
      clear ho hb hg hat
      refine hK.out _ _ ⟨blk_cell HBW3.out 0, blk_cell HBW3.out 1⟩ (fun hHeld => ?_)
      clear hK K
      refine norm_ (a' := ?_) ?_ ?_
      rotate_left
      ·show Act.put _ (some 105) _ = _
       simp only [Act.put, List.setIfInBounds_toArray, List.set_cons_zero, List.set_cons_succ, i64_w, i32_w]
       rfl
      refine one_ (i := 15) (N := some 112) #[true, true, true, true, true, true, true, true, true, true, true, true, true, true, true, true, false, false, false, false, false, false, false, false] rfl rfl (by kernel_rfl) (by decide) (fun K hK => ?_)
      refine goes_ Tryd.func106 (by kernel_rfl) rfl #[.int .u8 iv, .string p] (by rfl) rfl rfl (by simp only [List.map_toArray, List.map_cons, List.map_nil]; rfl) ?_
      with_reducible refine (HSC.out _ HB3.out).mono ?_
      rintro e w4 ⟨rfl, hb4⟩
      refine ⟨_, rfl, ?_⟩
      have HB4 := Aside0.mk (HB3.out.trans ⟨hb4.os, hb4.tape, hb4.output, hb4.size, fun i hi => hb4.block i (by have := HS3.out; have := HBS.out; omega)⟩)
      have HBW4 := Aside0.mk (blk_below HBW3.out hb4)
      have HVP4 := Aside0.mk (Kd.R_below HVP3.out hb4)
      have HO4 := Aside0.mk (Kd.S_below HO3.out hb4)
      have HS4 := Aside0.mk hb4.size
      clear hb4
      refine hK.out _ _ ⟨blk_cell HBW4.out 0, blk_cell HBW4.out 1⟩ (fun hHeld => ?_)
      clear hK K
      refine norm_ (a' := ?_) ?_ ?_
      rotate_left
      ·show Act.put _ (some 112) _ = _
       simp only [Act.put, List.setIfInBounds_toArray, List.set_cons_zero, List.set_cons_succ, i64_w, i32_w]
       rfl
      refine one_ (i := 16) (N := some 113) #[true, true, true, true, true, true, true, true, true, true, true, true, true, true, true, true, true, false, false, false, false, false, false, false] rfl rfl (by kernel_rfl) (by decide) (fun K hK => ?_)
      refine value_ (w1 := ?_) (v := ?_) (by rfl) rfl ?_ ?_
      rotate_left 2
      ·go_simp
       constructor
       ·rfl
       ·rfl
      refine hK.out _ _ ⟨blk_cell (blk_alloc HBW4.out _) 0, blk_cell (blk_alloc HBW4.out _) 1⟩ (fun hHeld => ?_)
      clear hK K
      refine norm_ (a' := ?_) ?_ ?_
      rotate_left
      ·show Act.put _ (some 113) _ = _
       simp only [Act.put, List.setIfInBounds_toArray, List.set_cons_zero, List.set_cons_succ, i64_w, i32_w]
       rfl
      refine one_ (i := 17) (N := some 114) #[true, true, true, true, true, true, true, true, true, true, true, true, true, true, true, true, true, true, false, false, false, false, false, false] rfl rfl (by kernel_rfl) (by decide) (fun K hK => ?_)
      refine Kd.R_append_step Kd.string (w0 := w0) base (by rfl) (.tmp 109) (.tmp 113) 32 9 (.string ⟨#[]⟩) 16 rfl Tryd.underlying32 info9 rfl (by decide) (by omega) (.slice Ap j cp) (st.map Prod.snd) pn [.string pn] (fun _ => True) (fun _ => False) rfl rfl ?bP (fun _ hk => hk.elim) ?bF ?bO ?bB ?bS ?bL ?_
      (case bP => exact rfl)
      (case bF => exact fun _ _ => trivial)
      (case bO => exact HVP4.out)
      (case bB => exact HB4.out)
      (case bS => have := HS3.out; have := HBS.out; have := HS4.out; omega)
      (case bL => have := HEL.out.2; omega)
      intro v2 w5 ho hb hg hat
      obtain ⟨A2, c2, hv2⟩ := Kd.R_slice ho
      generalize (st.map Prod.snd ++ [pn]).length = n2 at hv2
      subst hv2
      have HP5 := Aside0.mk ho
      have HB5 := Aside0.mk hb
      have HBW5 := Aside0.mk (blk_grown HBW4.out hg HNE2.out)
      have HO5 := Aside0.mk (Kd.S_over' HO4.out (Kd.R_typed HVP4.out) (by decide) hg)
      have HS5 := Aside0.mk hg.size
      have hfz := blk_frozen HBW5.out 0
      have hfc := blk_cell HBW5.out 0
      have hb6 := blk_set HBW5.out 0 (.slice A1 n1 c1)
      have HBW6 := Aside0.mk hb6
      have hfz6 := blk_frozen hb6 1
      have hfc6 := blk_cell hb6 1
      clear ho hb hg hat hb6
      refine hK.out _ _ ⟨blk_cell HBW5.out 0, blk_cell HBW5.out 1⟩ (fun hHeld => ?_)
      clear hK K
      refine norm_ (a' := ?_) ?_ ?_
      rotate_left
      ·show Act.put _ (some 114) _ = _
       simp only [Act.put, List.setIfInBounds_toArray, List.set_cons_zero, List.set_cons_succ, i64_w, i32_w]
       rfl
      refine pure_ (i := 18) (N := some 115) (v := ?_) (a' := ?_) #[true, true, true, true, true, true, true, true, true, true, true, true, true, true, true, true, true, true, true, false, false, false, false, false] rfl rfl (by kernel_rfl) (fun _ _ _ h => h) (Or.inl ⟨by rfl, ?_⟩) ?_ ?_
      rotate_left
      ·intro w'
       go_simp
       with_reducible rfl
      rotate_left
      ·simp only [Act.put, List.setIfInBounds_toArray, List.set_cons_zero, List.set_cons_succ, i64_w, i32_w]
       rfl
      refine pure_ (i := 19) (N := some 116) (v := ?_) (a' := ?_) #[true, true, true, true, true, true, true, true, true, true, true, true, true, true, true, true, true, true, true, true, false, false, false, false] rfl rfl (by kernel_rfl) (fun _ _ _ h => h) (Or.inl ⟨by rfl, ?_⟩) ?_ ?_
      rotate_left
      ·intro w'
       go_simp
       with_reducible rfl
      rotate_left
      ·simp only [Act.put, List.setIfInBounds_toArray, List.set_cons_zero, List.set_cons_succ, i64_w, i32_w]
       rfl
      refine last_ (i := 20) (N := none) #[true, true, true, true, true, true, true, true, true, true, true, true, true, true, true, true, true, true, true, true, true, false, false, false] rfl rfl (by kernel_rfl) (by decide) (fun K hK => ?_)
      refine skip_ (w1 := ?_) (by rfl) rfl ?_ ?_
      rotate_left
      ·go_simp
       rfl
      refine hK.out _ _ ?_
      clear hK K
      refine pure_ (i := 21) (N := some 117) (v := ?_) (a' := ?_) #[true, true, true, true, true, true, true, true, true, true, true, true, true, true, true, true, true, true, true, true, true, true, false, false] rfl rfl (by kernel_rfl) (fun _ _ _ h => h) (Or.inl ⟨by rfl, ?_⟩) ?_ ?_
      rotate_left
      ·intro w'
       go_simp
       with_reducible rfl
      rotate_left
      ·simp only [Act.put, List.setIfInBounds_toArray, List.set_cons_zero, List.set_cons_succ, i64_w, i32_w]
       rfl
      refine pure_ (i := 22) (N := some 118) (v := ?_) (a' := ?_) #[true, true, true, true, true, true, true, true, true, true, true, true, true, true, true, true, true, true, true, true, true, true, true, false] rfl rfl (by kernel_rfl) (fun _ _ _ h => h) (Or.inl ⟨by rfl, ?_⟩) ?_ ?_
      rotate_left
      ·intro w'
       go_simp
       with_reducible rfl
      rotate_left
      ·simp only [Act.put, List.setIfInBounds_toArray, List.set_cons_zero, List.set_cons_succ, i64_w, i32_w]
       rfl
      refine last_ (i := 23) (N := none) #[true, true, true, true, true, true, true, true, true, true, true, true, true, true, true, true, true, true, true, true, true, true, true, true] rfl rfl (by kernel_rfl) (by decide) (fun K hK => ?_)
      refine skip_ (w1 := ?_) (by rfl) rfl ?_ ?_
      rotate_left
      ·go_simp
       rfl
      refine hK.out _ _ ?_
      clear hK K
      refine done_ (by kernel_rfl) ?_
      go_wp2
      go_ret
      have hn := HAD.out
      rw [hn]
      refine ⟨rfl, ⟨hgs, _, _, blk_set HBW6.out 1 (.slice A2 n2 c2), ?_, ?_⟩, ?_, ?_⟩
      ·rw [show (some (rn, pn)).toList = [(rn, pn)] from rfl, List.map_append]
       exact Kd.S_set (Kd.S_set HO5.out HBW5.out (by decide) 0 _) HBW6.out (by decide) 1 _
      ·rw [show (some (rn, pn)).toList = [(rn, pn)] from rfl, List.map_append]
       exact Kd.R_set (Kd.R_set HP5.out HBW5.out (by decide) 0 _) HBW6.out (by decide) 1 _
      ·exact (HB5.out.setCell (p := ⟨gs, 0, none⟩) hgs _).setCell (p := ⟨gs, 1, none⟩) hgs _
      ·have h1 := HS3.out; have h2 := HBS.out; have h3 := HS4.out; have h4 := HS5.out
       rw [World.size_setCell, World.size_setCell]; omega


/-! ### code_collect: function 67 -/
/-- The stairs of the first n rows that a set names. -/
def collectUpto (width mask : Nat) (rows : List (List Int)) (pieces : List ByteArray) : Nat → St
 | 0 => []
 | n + 1 => if (mask >>> n) % 2 = 1 ∧ (collectUpto width mask rows pieces n).length < width then collectUpto width mask rows pieces n ++ (addSt (collectUpto width mask rows pieces n) (rd_L4 rows (n : Int)) (rdOf ByteArray.empty pieces (n : Int))).toList else collectUpto width mask rows pieces n
def rowWidth (rows : List (List Int)) : Nat := (rd_L4 rows ((0 : Nat) : Int)).length
def collectSt (rows : List (List Int)) (mask : Nat) (pieces : List ByteArray) : St := collectUpto (rowWidth rows) mask rows pieces rows.length
def collectOk (rows : List (List Int)) (mask : Int) (pieces : List ByteArray) : Option St :=
 if rows.length = 0 ∨ mask < 0 ∨ (2 : Int) ^ rows.length ≤ mask then none else if (collectSt rows mask.toNat pieces).length < rowWidth rows then none else some (collectSt rows mask.toNat pieces)
theorem collectUpto_length (width mask : Nat) (rows : List (List Int)) (pieces : List ByteArray) : ∀ n, (collectUpto width mask rows pieces n).length ≤ width
 | 0 => Nat.zero_le _
 | n + 1 => by
  have ih := collectUpto_length width mask rows pieces n
  unfold collectUpto
  split
  ·next h =>
   rw [List.length_append]
   have : ∀ o : Option (List Int × ByteArray), o.toList.length ≤ 1 := fun o => by cases o <;> simp
   have := this (addSt (collectUpto width mask rows pieces n) (rd_L4 rows (n : Int)) (rdOf ByteArray.empty pieces (n : Int)))
   omega
  ·exact ih
theorem imul_ne {a b : Int} (ha : isB a = true) (hb : isB b = true) (h1 : a ≠ 0) (h2 : b ≠ 0) : imul a b ≠ 0 := by
 rw [isB_iff] at ha hb
 obtain ⟨m, rfl⟩ := Int.eq_ofNat_of_zero_le ha.1
 obtain ⟨n, rfl⟩ := Int.eq_ofNat_of_zero_le hb.1
 intro h
 have h' : QGF.mulN m n = 0 := by
  have : ((QGF.mulN m n : Nat) : Int) = 0 := h
  omega
 rcases QGF.mul_eq_zero (by omega) (by omega) h' with e | e <;> omega
theorem iinv_ne {a : Int} (ha : isB a = true) (h1 : a ≠ 0) : iinv a ≠ 0 := by
 rw [isB_iff] at ha
 obtain ⟨m, rfl⟩ := Int.eq_ofNat_of_zero_le ha.1
 intro h
 have h' : QGF.invN m = 0 := by
  have : ((QGF.invN m : Nat) : Int) = 0 := h
  omega
 exact QGF.inv_ne (a := m) (by omega) (by omega) h'
theorem fstIdx_lt {r : List Int} {i : Nat} (h : i < r.length) (h0 : rd r (i : Int) ≠ 0) : fstIdx r < r.length := by
 rw [rdi h] at h0
 exact List.findIdx_lt_length.2 ⟨r[i], List.getElem_mem h, bne_iff_ne.2 h0⟩
theorem rd_fst {r : List Int} (h : fstIdx r < r.length) : rd r ((fstIdx r : Nat) : Int) ≠ 0 := by
 rw [rdi h]
 exact bne_iff_ne.1 (List.findIdx_getElem (xs := r) (p := fun x => x != 0) (w := h))
theorem addSt_wf {width M : Nat} {st : St} (h : WfSt width M st) {row : List Int} {part : ByteArray} (hr : WfRow width M (row, part)) {x : List Int × ByteArray} (hx : addSt st row part = some x) : WfRow width M x ∧ fstIdx x.1 < width := by
 have hw := redRow_wf h hr
 unfold addSt at hx
 by_cases hz : fstIdx (redRow st (row, part)).1 = (redRow st (row, part)).1.length
 ·rw [if_pos hz] at hx; cases hx
 ·rw [if_neg hz] at hx
  obtain rfl := Option.some.inj hx
  have hlt : fstIdx (redRow st (row, part)).1 < (redRow st (row, part)).1.length := Nat.lt_of_le_of_ne (fstIdx_le _) hz
  have hne := rd_fst hlt
  have hB := isB_rd hw.1 _ hlt
  refine ⟨⟨all_isB_mul (isB_inv _), by rw [mulRow_length]; exact hw.2.1, by rw [scaleBytes_size]; exact hw.2.2⟩, ?_⟩
  have := fstIdx_lt (r := mulRow (iinv (rd (redRow st (row, part)).1 ((fstIdx (redRow st (row, part)).1 : Nat) : Int))) (redRow st (row, part)).1) (i := fstIdx (redRow st (row, part)).1) (by rw [mulRow_length]; exact hlt) (by
   rw [rdi (by rw [mulRow_length]; exact hlt)]
   simp only [mulRow, List.getElem_map, List.getElem_range]
   exact imul_ne (isB_inv _) hB (iinv_ne hB hne) hne)
  rw [mulRow_length, hw.2.1] at this
  exact this
theorem WfSt.snoc {width M : Nat} {st : St} (h : WfSt width M st) {row : List Int} {part : ByteArray} (hr : WfRow width M (row, part)) : WfSt width M (st ++ (addSt st row part).toList) := by
 intro x hx
 rcases List.mem_append.1 hx with hx | hx
 ·exact h x hx
 ·cases he : addSt st row part with
  | none => rw [he] at hx; cases hx
  | some y =>
   rw [he] at hx
   obtain rfl : x = y := by simpa using hx
   exact addSt_wf h hr he
theorem collectUpto_wf {width M mask : Nat} {rows : List (List Int)} {pieces : List ByteArray} (hr : ∀ k, k < rows.length → WfRow width M (rd_L4 rows (k : Int), rdOf ByteArray.empty pieces (k : Int))) : ∀ n, n ≤ rows.length → WfSt width M (collectUpto width mask rows pieces n)
 | 0, _ => fun x hx => by cases hx
 | n + 1, h => by
  have ih := collectUpto_wf (mask := mask) hr n (by omega)
  unfold collectUpto
  split
  ·exact ih.snoc (hr n (by omega))
  ·exact ih
theorem StairsAt.nil (width : Nat) (W : World) (base : Nat) (hb : base ≤ W.heap.size) : StairsAt W.heap.size base width (W.alloc (.cells #[.slice none 0 0, .slice none 0 0, .int .i64 (width : Int)] 117)) [] :=
 ⟨hb, _, _, blk_new _ _, Kd.S_nil _ _ _ _ _, Kd.R_nil _ _ _ _ _⟩
theorem equalIn_nil (P : Program) (t e : TypeId) (h : P.underlying t = some (.slice e)) (d : Nat) (a : Option Addr) (l c : Nat) (w : World) : (Op.equalIn (d + 1) t (.slice a l c) (.slice none 0 0)).run P w = .ok a.isNone w := by
 cases a <;> simp [Op.equalIn, run_underlying h]
theorem neq_nil (P : Program) (t e : TypeId) (h : P.underlying t = some (.slice e)) : ∀ (a : Option Addr) (l c : Nat) (w : World), (binOp .neq t (.slice a l c) (.slice none 0 0)).run P w = .ok (.bool (!a.isNone)) w := by
 intro a l c w
 have h1 : (Op.equal t (.slice a l c) (.slice none 0 0)).run P w = .ok a.isNone w := equalIn_nil P t e h 9999 a l c w
 simp only [binOp, Sem.run_bind, h1, Result.andThen_ok, Sem.run_pure]
theorem enters91 : ∀ args W, (callFunc 91 args).run Tryd.prog W = .ok (.enter 91 args) W := enters_of Tryd.func91 (by kernel_rfl) rfl
set_option maxHeartbeats 4000000 in
set_option maxRecDepth 100000 in
theorem code_collect.calls (M : Nat) (w : World) (Ar : Option Addr) (cr : Nat) (rows : List (List Int)) (mask : Int) (Ap : Option Addr) (cp : Nat) (pieces : List ByteArray) (hG : HG w)
  (hr : Kd.C (Kd.slice 5 (Kd.int .u8)) w Ar rows.length rows) (hcr : rows.length ≤ cr) (hrl : rows.length ≤ 24) (hw : 0 < rows.length → 1 ≤ rowWidth rows) (hw2 : rowWidth rows ≤ 16) (hM : M ≤ 140737488351232)
  (hp : Kd.C Kd.string w Ap pieces.length pieces) (hcp : pieces.length ≤ cp) (hnil : (Ap = none ∧ pieces = [] ∧ cp = 0) ∨ (Ap.isSome = true ∧ rows.length ≤ pieces.length))
  (hwf : ∀ k, k < rows.length → WfRow (rowWidth rows) M (rd_L4 rows (k : Int), rdOf ByteArray.empty pieces (k : Int))) :
  Calls Tryd.prog 67 #[.slice Ar rows.length cr, .int .i64 mask, .slice Ap pieces.length cp] w fun e w' =>
   Below w.heap.size w w' ∧ ((collectOk rows mask pieces = none ∧ e = .returned (.pointer none)) ∨ ∃ gs st, collectOk rows mask pieces = some st ∧ e = .returned (.pointer (some ⟨gs, 0, none⟩)) ∧ StairsAt gs w.heap.size (rowWidth rows) w' st) := by
 have hmf := run_mf Tryd.prog
 have hu117 := Tryd.underlying117
 have hnn := neq_nil Tryd.prog 32 9 Tryd.underlying32
 by_cases h0 : rows.length = 0
 ·have hok : collectOk rows mask pieces = none := if_pos (.inl h0)
  have h0b : ((rows.length : Int) == 0) = true := beq_iff_eq.2 (by omega)
  clear hr hp hwf hG
  go_enter Tryd.func67, Tryd.ntmps67
  go_wp2
  go_ret
  exact ⟨Below.refl _ _, .inl ⟨hok, rfl⟩⟩
 ·have h0b : ((rows.length : Int) == 0) = false := beq_eq_false_iff_ne.2 (by omega)
  have h0c : (rows.length == 0) = false := beq_eq_false_iff_ne.2 h0
  by_cases hneg : mask < 0
  ·have hok : collectOk rows mask pieces = none := if_pos (.inr (.inl hneg))
   clear hr hp hwf hG
   go_enter Tryd.func67, Tryd.ntmps67
   go_wp2
   go_ret
   exact ⟨Below.refl _ _, .inl ⟨hok, rfl⟩⟩
  ·have hw1 : wrap64 ((2 : Int) ^ rows.length) = 2 ^ rows.length := by
    have h1 : 2 ^ rows.length ≤ 2 ^ 24 := Nat.pow_le_pow_right (by decide) hrl
    have h2 : ((2 : Int) ^ rows.length) = ((2 ^ rows.length : Nat) : Int) := by simp
    rw [h2]
    generalize 2 ^ rows.length = z at h1
    unfold wrap64; omega
   by_cases hbig : (2 : Int) ^ rows.length ≤ mask
   ·have hok : collectOk rows mask pieces = none := if_pos (.inr (.inr hbig))
    have hb1 : decide (wrap64 ((2 : Int) ^ rows.length) ≤ mask) = true := decide_eq_true (by rw [hw1]; exact hbig)
    have HOK := Aside0.mk hok
    clear hr hp hwf hG hw1 hok
    go_enter Tryd.func67, Tryd.ntmps67
    go_wp2
    go_ret
    exact ⟨Below.refl _ _, .inl ⟨HOK.out, rfl⟩⟩
   ·have hb1 : decide (wrap64 ((2 : Int) ^ rows.length) ≤ mask) = false := decide_eq_false (by rw [hw1]; exact hbig)
    clear hw1
    have hok : collectOk rows mask pieces = if (collectSt rows mask.toNat pieces).length < rowWidth rows then none else some (collectSt rows mask.toNat pieces) := if_neg (by omega)
    obtain ⟨mk, rfl⟩ := Int.eq_ofNat_of_zero_le (show 0 ≤ mask by omega)
    rw [Int.toNat_natCast] at hok
    unfold collectSt at hok
    have hmk : mk < 2 ^ 24 := by
     have h1 : 2 ^ rows.length ≤ 2 ^ 24 := Nat.pow_le_pow_right (by decide) hrl
     have h2 : ((2 : Int) ^ rows.length) = ((2 ^ rows.length : Nat) : Int) := by simp
     rw [h2] at hbig
     omega
    obtain ⟨ad0, A0, c0, rfl, hx0, hx1, hx2⟩ := at_bytes_nat' hr 0 (by omega)
    have hwd : (rd_L4 rows ((0 : Nat) : Int)).length = rowWidth rows := rfl
    rw [hwd] at hx0 hx1 hx2
    rw [show ad0.add 0 = ad0 by unfold Addr.add; rfl] at hx0
    have HOK := Aside0.mk hok
    have HWF := Aside0.mk hwf
    have HG0 := Aside0.mk hG
    have HR := Aside0.mk hr
    have HP := Aside0.mk hp
    have HE := Aside0.mk enters91
    have hw' := hw (by omega)
    clear hok hwf hG hr hp hbig hw hwd hx2
    generalize hwd : rowWidth rows = width at *
    generalize hRN : rows.length = N at *
    generalize hpl : pieces.length = np at *
    have HPL := Aside0.mk hpl
    clear hpl
    go_enter Tryd.func67, Tryd.ntmps67
    go_wp2
    have hI0 := StairsAt.nil width w w.heap.size (Nat.le_refl _)
    have HI0 := Aside0.mk hI0
    clear hI0
    go_loopw [36] (fun v W => ∃ j : Nat, j ≤ N ∧ v = .int .i64 (j : Int) ∧ Aside0 (StairsAt w.heap.size w.heap.size width W (collectUpto width mk rows pieces j)) ∧ Aside0 (Below w.heap.size w W)) (fun v _ => N - (intOf v).toNat)
    case atStart => exact ⟨0, Nat.zero_le _, rfl, HI0, ⟨below_alloc (Below.refl _ _) _⟩⟩
    case round =>
     clear HI0
     obtain ⟨j, hj, rfl, HS, HB⟩ := hrel
     have hsl := collectUpto_length width mk rows pieces j
     obtain ⟨_, vr, vp, hbk, hvr, hvp⟩ := HS.out
     obtain ⟨As, cs, rfl⟩ := Kd.S_slice hvr
     rw [List.length_map] at hbk
     have hcy0 : wr.cell? ⟨w.heap.size, 0, none⟩ = some (.slice As (collectUpto width mk rows pieces j).length cs) := blk_cell hbk 0
     have hcy2 : wr.cell? ⟨w.heap.size, 2, none⟩ = some (.int .i64 (width : Int)) := blk_cell hbk 2
     clear hbk hvr hvp
     by_cases hlt : j < N
     ·obtain ⟨ad1, A1, c1, e1, hy0, hy1, hy2⟩ := at_bytes_nat' HR.out j hlt
      obtain rfl : ad0 = ad1 := by injection e1
      have hwf1 := HWF.out j hlt
      rw [hwf1.2.1] at hy0 hy1 hy2
      have hy0 := pw_cell_below HB.out hy0
      have hB1 : Go.bits .and .i64 ((mk : Int) / 2 ^ j) 1 = ((mk >>> j % 2 : Nat) : Int) := by
       rw [show ((mk : Int) / 2 ^ j) = ((mk >>> j : Nat) : Int) by rw [Nat.shiftRight_eq_div_pow]; simp, i64_and1 _ (by have := Nat.shiftRight_le mk j; omega)]
      have HCU := Aside0.mk (show collectUpto width mk rows pieces (j + 1) = if (mk >>> j) % 2 = 1 ∧ (collectUpto width mk rows pieces j).length < width then collectUpto width mk rows pieces j ++ (addSt (collectUpto width mk rows pieces j) (rd_L4 rows (j : Int)) (rdOf ByteArray.empty pieces (j : Int))).toList else collectUpto width mk rows pieces j from rfl)
      have HWS := Aside0.mk (collectUpto_wf (mask := mk) (fun k hk => HWF.out k (by omega)) j (by omega))
      have HWF1 := Aside0.mk hwf1
      clear hwf1
      generalize collectUpto width mk rows pieces j = st at HS hsl hcy0 HCU HWS
      have hm2 : (mk >>> j) % 2 < 2 := Nat.mod_lt _ (by decide)
      generalize (mk >>> j) % 2 = bit at hB1 HCU hm2
      by_cases hbit : bit = 1
      ·subst hbit
       by_cases hsw : st.length < width
       ·have hcu := HCU.out
        rw [if_pos ⟨rfl, hsw⟩] at hcu
        have HCU' := Aside0.mk hcu
        clear hcu
        have HADD := Aside0.mk (show ∀ W, Below wr.heap.size wr W → Calls Tryd.prog 91 #[.pointer (some ⟨w.heap.size, 0, none⟩), .slice A1 width c1, .string (rdOf ByteArray.empty pieces (j : Int))] W fun e w' => e = .returned (.bool (addSt st (rd_L4 rows (j : Int)) (rdOf ByteArray.empty pieces (j : Int))).isSome) ∧ StairsAt w.heap.size w.heap.size width w' (st ++ (addSt st (rd_L4 rows (j : Int)) (rdOf ByteArray.empty pieces (j : Int))).toList) ∧ Below w.heap.size w w' ∧ W.heap.size ≤ w'.heap.size from by
         intro W hb
         have h2 := code_stairs_add.calls w.heap.size w.heap.size width M w W st A1 c1 (rd_L4 rows (j : Int)) (rdOf ByteArray.empty pieces (j : Int)) HG0.out rfl (HS.out.below hb) HWS.out (by omega) (below_step HB.out hb) (below_step HB.out hb).size hw' (by omega) hM (by rw [HWF1.out.2.1]; exact Kd.C_below hy2 (below_step HB.out hb)) (by rw [HWF1.out.2.1]; exact hy1) HWF1.out
         rw [HWF1.out.2.1] at h2
         exact h2)
        clear hy2
        rcases hnil with ⟨rfl, rfl, rfl⟩ | ⟨hsome, hle⟩
        ·have hpe : rdOf ByteArray.empty ([] : List ByteArray) (j : Int) = ⟨#[]⟩ := by simp [rdOf]; rfl
         rw [hpe] at HADD HCU'
         go_wp2
         go_quiet (fail)
         go_wp2_with ((with_reducible refine (HADD.out _ (by repeat (first | exact Below.refl _ _ | apply pw_below_drewN | apply below_drew))).mono ?_); rintro e w' ⟨rfl, hS2, hB2, hZ2⟩; have HS2 := Aside0.mk hS2; have HB2 := Aside0.mk hB2; clear hS2 hB2 hZ2)
         go_roundw
         case rel => exact ⟨j + 1, by omega, by go_num, ⟨by rw [HCU'.out]; exact HS2.out⟩, HB2⟩
         case measure => simp [intOf]; omega
        ·obtain ⟨adp, rfl, hp0⟩ := at_string_nat HP.out j (by omega)
         have hp0 := pw_cell_below HB.out hp0
         generalize rdOf ByteArray.empty pieces (j : Int) = pt at hp0 HADD HCU'
         go_wp2
         go_quiet (fail)
         go_wp2_with ((with_reducible refine (HADD.out _ (by repeat (first | exact Below.refl _ _ | apply pw_below_drewN | apply below_drew))).mono ?_); rintro e w' ⟨rfl, hS2, hB2, hZ2⟩; have HS2 := Aside0.mk hS2; have HB2 := Aside0.mk hB2; clear hS2 hB2 hZ2)
         go_roundw
         case rel => exact ⟨j + 1, by omega, by go_num, ⟨by rw [HCU'.out]; exact HS2.out⟩, HB2⟩
         case measure => simp [intOf]; omega
       ·have hcu := HCU.out
        rw [if_neg (fun h => hsw h.2)] at hcu
        have HCU' := Aside0.mk hcu
        clear hcu
        go_wp2
        go_quiet (fail)
        go_wp2
        go_roundw
        case rel => exact ⟨j + 1, by omega, by go_num, ⟨by rw [HCU'.out]; exact HS.out.below (by repeat (first | exact Below.refl _ _ | apply pw_below_drewN | apply below_drew))⟩, ⟨by repeat (first | exact HB.out | apply pw_below_drewN | apply below_drew)⟩⟩
        case measure => simp [intOf]; omega
      ·obtain rfl : bit = 0 := by omega
       have hcu := HCU.out
       rw [if_neg (fun h => absurd h.1 (by decide))] at hcu
       have HCU' := Aside0.mk hcu
       clear hcu
       go_wp2
       go_quiet (fail)
       go_wp2
       go_roundw
       case rel => exact ⟨j + 1, by omega, by go_num, ⟨by rw [HCU'.out]; exact HS.out.below (by repeat (first | exact Below.refl _ _ | apply pw_below_drewN | apply below_drew))⟩, ⟨by repeat (first | exact HB.out | apply pw_below_drewN | apply below_drew)⟩⟩
       case measure => simp [intOf]; omega
     ·obtain rfl : j = N := by omega
      have hok := HOK.out
      by_cases hsw : (collectUpto width mk rows pieces j).length < width
      ·rw [if_pos hsw] at hok
       have HOK2 := Aside0.mk hok
       clear HOK hok
       go_wp2
       go_quiet (fail)
       go_wp2
       go_ret
       exact ⟨by repeat (first | exact HB.out | apply pw_below_drewN | apply below_drew), .inl ⟨HOK2.out, rfl⟩⟩
      ·rw [if_neg hsw] at hok
       have HOK2 := Aside0.mk hok
       clear HOK hok
       go_wp2
       go_quiet (fail)
       go_wp2
       go_ret
       exact ⟨by repeat (first | exact HB.out | apply pw_below_drewN | apply below_drew), .inr ⟨_, _, HOK2.out, rfl, HS.out.below (by repeat (first | exact Below.refl _ _ | apply pw_below_drewN | apply below_drew))⟩⟩


/-! ### code_Recoverable: function 30 -/
/-- Rows that collect is given: few, of one length, of bytes. -/
def okRows (rows : List (List Int)) : Bool := decide (rows.length ≤ 24) && (decide (1 ≤ rowWidth rows) || decide (rows.length = 0)) && decide (rowWidth rows ≤ 16) && rows.all fun r => r.all isB && decide (r.length = rowWidth rows)
theorem okRows_iff {rows : List (List Int)} (h : okRows rows = true) : rows.length ≤ 24 ∧ (0 < rows.length → 1 ≤ rowWidth rows) ∧ rowWidth rows ≤ 16 ∧ ∀ k, k < rows.length → (rd_L4 rows (k : Int)).all isB = true ∧ (rd_L4 rows (k : Int)).length = rowWidth rows := by
 simp only [okRows, Bool.and_eq_true, Bool.or_eq_true, decide_eq_true_eq, List.all_eq_true] at h
 obtain ⟨⟨⟨h1, h2⟩, h3⟩, h4⟩ := h
 refine ⟨h1, fun hp => by omega, h3, fun k hk => ?_⟩
 have hr : rd_L4 rows (k : Int) = rows[k] := by simp [rd_L4, List.getD_eq_getElem?_getD, List.getElem?_eq_getElem hk]
 rw [hr]
 have := h4 _ (List.getElem_mem hk)
 exact ⟨List.all_eq_true.2 this.1, this.2⟩
def code_Recoverable.f (k : Nat) (a0_0 : Int) (l0_1 : List (List Int)) (a0_2 : Int) (a1 : Int) : Option Bool :=
 (code_Rows.f k a0_0 l0_1 a0_2).bind fun r => if okRows r.1 = true then some (collectOk r.1 a1 []).isSome else none
set_option maxHeartbeats 4000000 in
set_option maxRecDepth 100000 in
theorem code_Recoverable.calls (k : Nat) (a0_0 : Int) (A0_1 : Option Addr) (c0_1 : Nat) (l0_1 : List (List Int)) (a0_2 : Int) (a1 : Int) (r : Bool) (w : World) (hG : HG w) (hr0_1 : Kd.C (Kd.slice 3 (Kd.int .i64)) w A0_1 l0_1.length l0_1) (hc0_1 : l0_1.length ≤ c0_1) (h : code_Recoverable.f k a0_0 l0_1 a0_2 a1 = some r) :
  Calls Tryd.prog 30 #[.agg #[.int .i64 a0_0, .slice A0_1 l0_1.length c0_1, .int .i64 a0_2], .int .i64 a1] w fun e w' => e = .returned (.bool r) ∧ Below w.heap.size w w' := by
 obtain ⟨⟨rows, e0⟩, hrows, h2⟩ := Option.bind_eq_some_iff.1 h
 have HRW := Aside0.mk (fun W (hb : Below w.heap.size w W) => code_Rows.calls k a0_0 A0_1 c0_1 l0_1 a0_2 rows e0 W (hG.below hb) (Kd.C_below hr0_1 hb) hc0_1 hrows)
 have HGw := Aside0.mk hG
 by_cases hok : okRows rows = true
 ·rw [if_pos hok] at h2
  obtain rfl := Option.some.inj h2
  obtain ⟨h3, h4, h5, h6⟩ := okRows_iff hok
  have hu24 := Tryd.underlying24
  have hup := Tryd.underlying96
  have HWF := Aside0.mk (show ∀ k, k < rows.length → WfRow (rowWidth rows) 0 (rd_L4 rows (k : Int), rdOf ByteArray.empty ([] : List ByteArray) (k : Int)) from fun k hk => ⟨(h6 k hk).1, (h6 k hk).2, by simp [rdOf]⟩)
  have HCO := Aside0.mk (show ∀ W Ar cr, Below w.heap.size w W → Kd.C (Kd.slice 5 (Kd.int .u8)) W Ar rows.length rows → rows.length ≤ cr → Calls Tryd.prog 67 #[.slice Ar rows.length cr, .int .i64 a1, .slice none 0 0] W fun e w' => Below W.heap.size W w' ∧ ((collectOk rows a1 [] = none ∧ e = .returned (.pointer none)) ∨ ∃ gs st, collectOk rows a1 [] = some st ∧ e = .returned (.pointer (some ⟨gs, 0, none⟩)) ∧ StairsAt gs W.heap.size (rowWidth rows) w' st) from
   fun W Ar cr hb hC hcr => code_collect.calls 0 W Ar cr rows a1 none 0 [] (hG.below hb) hC hcr h3 h4 h5 (by decide) ⟨rfl, by decide, fun h_ => absurd h_ (by decide)⟩ (Nat.le_refl _) (.inl ⟨rfl, rfl, rfl⟩) HWF.out)
  clear h h2 hok h6 hG hrows hr0_1
  go_enter Tryd.func30, Tryd.ntmps30
  go_wp2_with (first | (go_at_call 17; (with_reducible refine (HRW.out _ (by repeat (first | exact Below.refl _ _ | apply below_alloc))).mono ?_); rintro e w1 ⟨v0, rfl, hS, hb1⟩; obtain ⟨Ar, cr, rfl, hcr, hCr⟩ := Kd.S_reads hS; have HCR := Aside0.mk hCr; have HB1 := Aside0.mk (below_step (below_alloc (Below.refl w.heap.size w) _) hb1); clear hb1 hS hCr) | (go_at_call 67; (with_reducible refine (HCO.out w1 Ar cr HB1.out HCR.out hcr).mono ?_); rintro e w2 ⟨hb2, hor⟩; have HB2 := Aside0.mk hb2; clear hb2; rcases hor with ⟨hn, rfl⟩ | ⟨gs, st, hn, rfl, _⟩ <;> (have HN_ := Aside0.mk hn; clear hn)))
  all_goals
   rw [HN_.out]
   go_ret
   exact ⟨rfl, below_step HB1.out HB2.out⟩
 ·rw [if_neg hok] at h2
  cases h2


/-! ### code_stairs_solve: function 93 -/
def solvePart (out : List ByteArray) (x : List Int) (at_ : Nat) (p : ByteArray) : Nat → ByteArray
 | 0 => p
 | i + 1 => if i ≠ at_ ∧ rd x (i : Int) ≠ 0 then sumP (solvePart out x at_ p i) (scaleBytes (rd x (i : Int)) (rdOf ByteArray.empty out (i : Int))) else solvePart out x at_ p i
def solveStep (width : Nat) (xq : List Int × ByteArray) (out : List ByteArray) : List ByteArray := out.set (fstIdx xq.1) (solvePart out xq.1 (fstIdx xq.1) xq.2 width)
/-- The data pieces, by the rows from the last to the first. -/
def solveRev (width : Nat) (l : St) : List ByteArray := l.foldr (solveStep width) (List.replicate width ByteArray.empty)
theorem solveStep_length (width : Nat) (xq : List Int × ByteArray) (out : List ByteArray) : (solveStep width xq out).length = out.length := by simp [solveStep]
theorem solveRev_length (width : Nat) : ∀ l : St, (solveRev width l).length = width
 | [] => by simp [solveRev]
 | x :: l => by
  show (solveStep width x (solveRev width l)).length = width
  rw [solveStep_length, solveRev_length width l]
def AllLe (M : Nat) (l : List ByteArray) : Prop := ∀ s ∈ l, s.size ≤ M
theorem AllLe.rd {M : Nat} {l : List ByteArray} (h : AllLe M l) (i : Nat) : (rdOf ByteArray.empty l (i : Int)).size ≤ M := by
 by_cases hi : i < l.length
 ·have : rdOf ByteArray.empty l (i : Int) = l[i] := by simp [rdOf, List.getD_eq_getElem?_getD, List.getElem?_eq_getElem hi]
  rw [this]; exact h _ (List.getElem_mem hi)
 ·have : rdOf ByteArray.empty l (i : Int) = ByteArray.empty := by simp [rdOf, List.getD_eq_getElem?_getD, List.getElem?_eq_none (Nat.le_of_not_lt hi)]
  rw [this]; exact Nat.zero_le _
theorem solvePart_size {M : Nat} {out : List ByteArray} (ho : AllLe M out) (x : List Int) (at_ : Nat) {p : ByteArray} (hp : p.size ≤ M) : ∀ i, (solvePart out x at_ p i).size ≤ M
 | 0 => hp
 | i + 1 => by
  unfold solvePart
  split
  ·exact sumP_size (solvePart_size ho x at_ hp i) (by rw [scaleBytes_size]; exact ho.rd i)
  ·exact solvePart_size ho x at_ hp i
theorem solveRev_le {M width : Nat} : ∀ {l : St}, (∀ x ∈ l, x.2.size ≤ M) → AllLe M (solveRev width l)
 | [], _ => fun s hs => by
  obtain ⟨_, rfl⟩ := List.mem_replicate.1 hs
  exact Nat.zero_le _
 | x :: l, h => fun s hs => by
  have ih := solveRev_le (width := width) (l := l) (fun y hy => h y (List.mem_cons_of_mem _ hy))
  rcases List.mem_or_eq_of_mem_set hs with hs | rfl
  ·exact ih s hs
  ·exact solvePart_size ih _ _ (h x (List.mem_cons_self)) _
theorem solveRev_drop (width : Nat) (st : St) {k : Nat} (h : k < st.length) : solveRev width (st.drop k) = solveStep width st[k] (solveRev width (st.drop (k + 1))) := by
 rw [List.drop_eq_getElem_cons h]; rfl
/-- What the stairs are to a reader. -/
def StairsRd (gs width : Nat) (W : World) (st : St) : Prop :=
 ∃ Ar cr Ap cp, W.heap[gs]? = some (.cells #[.slice Ar st.length cr, .slice Ap st.length cp, .int .i64 (width : Int)] 117 (0, 0)) ∧ st.length ≤ cr ∧ st.length ≤ cp ∧
  (∀ k (h : k < st.length), ∃ ad A0 c0, Ar = some ad ∧ W.cell? (ad.add k) = some (.slice A0 st[k].1.length c0) ∧ st[k].1.length ≤ c0 ∧ (Kd.int .u8).C W A0 st[k].1.length st[k].1) ∧
  (∀ k (h : k < st.length), ∃ ad, Ap = some ad ∧ W.cell? (ad.add k) = some (.string st[k].2))
theorem StairsAt.rd {gs base width : Nat} {W : World} {st : St} (h : StairsAt gs base width W st) : StairsRd gs width W st := by
 obtain ⟨_, vr, vp, hb, hvr, hvp⟩ := h
 have hfl : (st.map Prod.fst).length = st.length := List.length_map ..
 have hsl : (st.map Prod.snd).length = st.length := List.length_map ..
 obtain ⟨Ar, cr, er, hcr, hCr⟩ := Kd.S_reads hvr
 obtain ⟨Ap, cp, ep, hcp, hCp⟩ := Kd.R_reads hvp
 rw [hfl] at er hcr hCr
 rw [hsl] at ep hcp hCp
 subst er ep
 refine ⟨Ar, cr, Ap, cp, hb, hcr, hcp, fun k hk => ?_, fun k hk => ?_⟩
 ·have := at_bytes_nat' hCr k hk
  rwa [rdF st hk] at this
 ·have := at_string_nat hCp k hk
  rwa [rdS st hk] at this
theorem StairsRd.below {gs width : Nat} {W W1 : World} {st : St} (h : StairsRd gs width W st) (hb : Below W.heap.size W W1) : StairsRd gs width W1 st := by
 obtain ⟨Ar, cr, Ap, cp, h1, h2, h3, h4, h5⟩ := h
 refine ⟨Ar, cr, Ap, cp, blk_below h1 hb, h2, h3, fun k hk => ?_, fun k hk => ?_⟩
 ·obtain ⟨ad, A0, c0, e, h6, h7, h8⟩ := h4 k hk
  exact ⟨ad, A0, c0, e, pw_cell_below hb h6, h7, Kd.C_below h8 hb⟩
 ·obtain ⟨ad, e, h6⟩ := h5 k hk
  exact ⟨ad, e, pw_cell_below hb h6⟩
set_option maxHeartbeats 4000000 in
set_option maxRecDepth 100000 in
theorem code_stairs_solve.calls (gs width M : Nat) (w : World) (st : St) (hG : HG w) (hS : StairsRd gs width w st) (hwf : WfSt width M st) (hst : st.length < 1000000) (hw2 : width < 1000) (hM : M ≤ 140737488351232) :
  Calls Tryd.prog 93 #[.pointer (some ⟨gs, 0, none⟩)] w fun e w' => ∃ v, e = .returned v ∧ Kd.R Kd.string 9 w' w.heap.size (fun _ => True) v (solveRev width st) ∧ Below w.heap.size w w' := by
 obtain ⟨Ar, cr, Ap, cp, hb, hcr, hcp, hCr, hCp⟩ := hS
 obtain ⟨N, hN⟩ : ∃ N : Nat, N = st.length := ⟨_, rfl⟩
 have HCR := Aside0.mk hCr
 have HCP := Aside0.mk hCp
 rw [← hN] at hst hb hcr hcp
 have hcz0 : w.cell? ⟨gs, 0, none⟩ = some (.slice Ar N cr) := blk_cell hb 0
 have hcz1 : w.cell? ⟨gs, 1, none⟩ = some (.slice Ap N cp) := blk_cell hb 1
 have hcz2 : w.cell? ⟨gs, 2, none⟩ = some (.int .i64 (width : Int)) := blk_cell hb 2
 have HGw := Aside0.mk hG
 have HBK := Aside0.mk hb
 have HWF := Aside0.mk hwf
 have HN := Aside0.mk hN
 have hu117 := Tryd.underlying117
 clear hG hb hCr hCp hwf hN
 go_enter Tryd.func93, Tryd.ntmps93
 go_wp2_with ((with_reducible refine gate_dst (N := 13) rfl ?_); refine Kd.R_make Kd.string (w0 := w) w.heap.size 9 rfl (N := 13) rfl 32 _ _ rfl (width : Int) rfl rfl Tryd.underlying32 (.string ⟨#[]⟩) 16 info9 rfl (by decide) (by omega) ByteArray.empty (ok := fun _ => True) (okp := fun _ => False) rfl (fun _ hk => hk.elim) trivial (by omega) (by simp; omega) (Below.refl _ _) (Nat.le_refl _) ?_; intro v1 w1 ho hb hg hat; rw [Int.toNat_natCast] at ho; obtain ⟨Ao, co, ev⟩ := Kd.R_slice ho; rw [List.length_replicate] at ev; subst ev; have HO := Aside0.mk ho; have HB1 := Aside0.mk hb; have hbk := blk_below HBK.out hb; have hcy0 : w1.cell? ⟨gs, 0, none⟩ = some (.slice Ar N cr) := blk_cell hbk 0; clear hbk ho hb hg hat)
 go_loopw [4] (fun v W => ∃ j : Nat, j ≤ N ∧ v = .int .i64 ((j : Int) - 1) ∧ Aside0 (Kd.string.R 9 W w.heap.size (fun _ => True) (.slice Ao width co) (solveRev width (st.drop j))) ∧ Aside0 (Below w.heap.size w W)) (fun v _ => (intOf v + 1).toNat)
 case atStart => exact ⟨N, Nat.le_refl _, by go_num, ⟨by rw [List.drop_of_length_le (by have := HN.out; omega)]; exact HO.out⟩, HB1⟩
 case round =>
  clear hcy0 HB1 HO hcz0 hcz1 hcz2
  obtain ⟨j, hj, rfl, HR, HB⟩ := hrel
  by_cases hlt : 0 < j
  ·obtain ⟨i, rfl⟩ : ∃ i, j = i + 1 := ⟨j - 1, by omega⟩
   rw [show (((i + 1 : Nat) : Int) - 1) = (i : Int) by omega]
   have his : i < st.length := by have := HN.out; omega
   obtain ⟨⟨hxB, hxl, hxM⟩, hxf⟩ := HWF.out _ (List.getElem_mem his)
   have HSR := Aside0.mk (solveRev_drop width st his)
   have HLE := Aside0.mk (solveRev_le (M := M) (width := width) (l := st.drop (i + 1)) (fun x hx => (HWF.out x (List.mem_of_mem_drop hx)).1.2.2))
   have HOL := Aside0.mk (solveRev_length width (st.drop (i + 1)))
   obtain ⟨g, cap, e1, hgb, hglt, _⟩ := Kd.R_form HR.out (by rw [HOL.out]; omega)
   rw [HOL.out] at e1
   obtain ⟨e2, e3⟩ : Ao = some ⟨g, 0, none⟩ ∧ co = cap := by injection e1 with e1 _ e3; exact ⟨e1, e3⟩
   subst e2 e3
   obtain ⟨ad0, A0, c0, rfl, hx0, hx1, hx2⟩ := HCR.out i his
   obtain ⟨ad1, rfl, hq0⟩ := HCP.out i his
   generalize st[i] = xq at hxB hxl hxM hxf HSR hx0 hx1 hx2 hq0
   obtain ⟨x, q⟩ := xq
   dsimp only at hxB hxl hxM hxf hx0 hx1 hx2 hq0
   rw [hxl] at hx0 hx1 hx2
   have hbk := blk_below HBK.out HB.out
   have hcz0 : wr.cell? ⟨gs, 0, none⟩ = some (.slice (some ad0) N cr) := blk_cell hbk 0
   have hcz1 : wr.cell? ⟨gs, 1, none⟩ = some (.slice (some ad1) N cp) := blk_cell hbk 1
   replace hx0 := pw_cell_below HB.out hx0
   replace hq0 := pw_cell_below HB.out hq0
   have HX2 := Aside0.mk (Kd.C_below hx2 HB.out)
   have HXB := Aside0.mk hxB
   have HXL := Aside0.mk hxl
   have HF1 := Aside0.mk (show ∀ W, Below wr.heap.size wr W → Calls Tryd.prog 92 #[.slice A0 width c0] W fun e w' => e = .returned (.int .i64 ((fstIdx x : Nat) : Int)) ∧ Drawn0 W w' from by
    intro W hb
    have := code_first.fst A0 c0 x W ((HGw.out.below HB.out).below hb) (by rw [HXL.out]; exact Kd.C_below HX2.out hb) (by rw [HXL.out]; exact hx1) (by rw [HXL.out]; omega)
    rw [HXL.out] at this
    exact this)
   clear hx2 hxB hxl hx1 e1 hbk
   have HGW := Aside0.mk (fun W (hb : Below wr.heap.size wr W) => (HGw.out.below HB.out).below hb)
   generalize hou : solveRev width (st.drop (i + 1)) = out at HR HSR HLE HOL
   generalize hfe : fstIdx x = fi at HF1 hxf
   have HFE := Aside0.mk hfe
   clear hou hfe
   go_wp2_with (go_at_call 92; (with_reducible refine (HF1.out _ (Below.refl _ _)).mono ?_); rintro e w' ⟨rfl, ⟨nd, rfl⟩⟩)
   have HRo := Aside0.mk (Kd.R_drewN HR.out nd)
   have HBo := Aside0.mk (pw_below_drewN HB.out nd)
   have HXo := Aside0.mk (Kd.C_below HX2.out (pw_below_drewN (Below.refl _ _) nd))
   have HGo := Aside0.mk (fun W (hb : Below (wr.drewN nd).heap.size (wr.drewN nd) W) => HGW.out W (below_step (pw_below_drewN (Below.refl _ _) nd) hb))
   generalize wr.drewN nd = wo at *
   clear HX2 HF1 HR HB hx0 hcz0 hcz1 hq0 HGW
   go_loopw [5, 47] (fun y v W => ∃ m : Nat, m ≤ width ∧ v = .int .i64 (m : Int) ∧ y = .string (solvePart out x fi q m) ∧ Aside0 (Below wo.heap.size wo W)) (fun _ v _ => width - (intOf v).toNat)
   case atStart => exact ⟨0, Nat.zero_le _, rfl, rfl, ⟨Below.refl _ _⟩⟩
   case round =>
    obtain ⟨m, hm, rfl, rfl, HB⟩ := hrel
    by_cases hlt2 : m < width
    ·obtain ⟨ad2, rfl, hxm⟩ := at_int_nat (Kd.C_below HXo.out HB.out) m hlt2
     have hXi := isB_rd HXB.out m (by rw [HXL.out]; exact hlt2)
     have HSP := Aside0.mk (show solvePart out x fi q (m + 1) = if m ≠ fi ∧ rd x (m : Int) ≠ 0 then sumP (solvePart out x fi q m) (scaleBytes (rd x (m : Int)) (rdOf ByteArray.empty out (m : Int))) else solvePart out x fi q m from rfl)
     have hps := solvePart_size HLE.out x fi hxM m
     have hos := HLE.out.rd m
     obtain ⟨hom, _⟩ := Kd.R_celln (ByteArray.empty) (Kd.R_below HRo.out HB.out) ((m : Nat) : Int) (by omega) (by omega)
     rw [Int.toNat_natCast] at hom
     generalize rdOf ByteArray.empty out (m : Int) = om at hom HSP hos
     generalize solvePart out x fi q m = pm at HSP hps
     generalize rd x (m : Int) = xm at hxm hXi HSP
     have HSC := Aside0.mk (fun W (hb : Below wr.heap.size wr W) => gf_Scale.scale xm om hXi (Nat.le_trans hos hM) W (HGo.out W (below_step HB.out hb)))
     have HSM := Aside0.mk (fun W (hb : Below wr.heap.size wr W) => gf_Sum.sum pm (scaleBytes xm om) (Nat.le_trans hps hM) (by rw [scaleBytes_size]; exact Nat.le_trans hos hM) W (HGo.out W (below_step HB.out hb)))
     clear hXi
     by_cases hne : m = fi
     ·subst hne
      have hsp := HSP.out
      rw [if_neg (fun h => h.1 rfl)] at hsp
      have HSP2 := Aside0.mk hsp
      clear hsp
      go_wp2
      go_roundw
      case rel => exact ⟨m + 1, by omega, by go_num, by rw [HSP2.out], HB⟩
      case measure => simp [intOf]; omega
     ·have hb1 : ((m : Int) == (fi : Int)) = false := beq_eq_false_iff_ne.2 (by omega)
      have hb2 : (m == fi) = false := beq_eq_false_iff_ne.2 hne
      have hb3 : ((m : Int) != (fi : Int)) = true := bne_iff_ne.2 (by omega)
      by_cases hz : xm = 0
      ·have hsp := HSP.out
       rw [if_neg (fun h => h.2 hz)] at hsp
       subst hz
       have HSP2 := Aside0.mk hsp
       clear hsp
       go_wp2
       go_roundw
       case rel => exact ⟨m + 1, by omega, by go_num, by rw [HSP2.out], HB⟩
       case measure => simp [intOf]; omega
      ·have hz1 : (xm == 0) = false := beq_eq_false_iff_ne.2 hz
       have hz3 : (xm != 0) = true := bne_iff_ne.2 hz
       have hsp := HSP.out
       rw [if_pos ⟨hne, hz⟩] at hsp
       have HSP2 := Aside0.mk hsp
       clear hsp
       go_wp2_with (first | (go_at_call 106; (with_reducible refine (HSC.out _ (Below.refl _ _)).mono ?_); rintro e w2 ⟨rfl, hb2⟩; have HB2 := Aside0.mk hb2; clear hb2) | (go_at_call 36; (with_reducible refine (HSM.out _ HB2.out).mono ?_); rintro e w3 ⟨rfl, hb3⟩; have HB3 := Aside0.mk (below_step HB2.out hb3); clear hb3))
       go_roundw
       case rel => exact ⟨m + 1, by omega, by go_num, by rw [HSP2.out], ⟨below_step HB.out HB3.out⟩⟩
       case measure => simp [intOf]; omega
    ·obtain rfl : m = width := by omega
     obtain ⟨hom, hfz⟩ := Kd.R_celln (ByteArray.empty) (Kd.R_below HRo.out HB.out) ((fi : Nat) : Int) (by omega) (by omega)
     rw [Int.toNat_natCast] at hom hfz
     have HPUT := Aside0.mk (Kd.R_putn (Kd.R_below HRo.out HB.out) ((fi : Nat) : Int) (solvePart out x fi q m))
     generalize hsq : solvePart out x fi q m = sp at HPUT
     have HSQ := Aside0.mk hsq
     clear hsq
     go_wp2
     go_roundw
     case rel => exact ⟨i, by omega, by go_num, ⟨by rw [HSR.out]; unfold solveStep; dsimp only; rw [HFE.out, HSQ.out]; have := HPUT.out; rw [Int.toNat_natCast] at this; exact this⟩, ⟨below_set (below_step HBo.out HB.out) hgb⟩⟩
     case measure => (simp [intOf] <;> omega)
  ·obtain rfl : j = 0 := by omega
   go_wp2
   go_ret
   exact ⟨_, rfl, HR.out, HB.out⟩


/-! ### code_stairs_sorted: function 68 -/
def atPlace (a : Nat) (x : List Int × ByteArray) : Bool := fstIdx x.1 == a
def sortUpto (st : St) (a : Nat) : St := (List.range a).flatMap fun i => st.filter (atPlace i)
def sortSt (width : Nat) (st : St) : St := sortUpto st width
theorem sortUpto_succ (st : St) (a : Nat) : sortUpto st (a + 1) = sortUpto st a ++ st.filter (atPlace a) := by simp [sortUpto, List.range_succ]
theorem sortUpto_mem {st : St} {a : Nat} {x : List Int × ByteArray} (h : x ∈ sortUpto st a) : x ∈ st := by
 simp only [sortUpto, List.mem_flatMap] at h
 obtain ⟨i, _, hx⟩ := h
 exact (List.mem_filter.1 hx).1
theorem sortUpto_length (st : St) : ∀ a, (sortUpto st a).length ≤ a * st.length
 | 0 => by simp [sortUpto]
 | a + 1 => by
  rw [sortUpto_succ, List.length_append, Nat.succ_mul]
  exact Nat.add_le_add (sortUpto_length st a) (List.length_filter_le _ _)
theorem filter_take_succ (st : St) (a : Nat) {k : Nat} (h : k < st.length) : (st.take (k + 1)).filter (atPlace a) = (st.take k).filter (atPlace a) ++ (if fstIdx st[k].1 = a then [st[k]] else []) := by
 rw [List.take_succ_eq_append_getElem h, List.filter_append]
 congr 1
 by_cases e : fstIdx st[k].1 = a
 ·rw [if_pos e]; simp [atPlace, e]
 ·rw [if_neg e]; simp [atPlace, e]
/-- A slice's header. -/
abbrev Hd := Option Addr × Nat × Nat
def encH (h : Hd) : Value := .slice h.1 h.2.1 h.2.2
/-- Stairs whose rows lie elsewhere. -/
def StairsUp (gt base width : Nat) (w W : World) (st : St) : Prop :=
 ∃ vr vp, ∃ hs : List Hd, W.heap[gt]? = some (.cells #[vr, vp, .int .i64 (width : Int)] 117 (0, 0)) ∧ (Kd.scalar encH (fun _ => rfl)).R 57 W base (fun _ => True) vr hs ∧ Kd.R Kd.string 9 W base (fun _ => True) vp (st.map Prod.snd) ∧
  hs.length = st.length ∧ ∀ k (h : k < st.length) (h2 : k < hs.length), hs[k].2.1 = st[k].1.length ∧ st[k].1.length ≤ hs[k].2.2 ∧ (Kd.int .u8).C w hs[k].1 st[k].1.length st[k].1
theorem StairsUp.below {gt base width : Nat} {w W W1 : World} {st : St} (h : StairsUp gt base width w W st) (hb : Below W.heap.size W W1) : StairsUp gt base width w W1 st := by
 obtain ⟨vr, vp, hs, h1, h2, h3, h4⟩ := h
 exact ⟨vr, vp, hs, blk_below h1 hb, Kd.R_below h2 hb, Kd.R_below h3 hb, h4⟩
theorem StairsUp.rd {gt base width : Nat} {w W : World} {st : St} (h : StairsUp gt base width w W st) (hb : Below w.heap.size w W) : StairsRd gt width W st := by
 obtain ⟨vr, vp, hs, h1, h2, h3, h4, h5⟩ := h
 have hsl : (st.map Prod.snd).length = st.length := List.length_map ..
 obtain ⟨Ar, cr, er, hcr, hCr⟩ := Kd.R_reads h2
 obtain ⟨Ap, cp, ep, hcp, hCp⟩ := Kd.R_reads h3
 rw [hsl] at ep hcp hCp
 rw [h4] at er hcr
 subst er ep
 refine ⟨Ar, cr, Ap, cp, h1, hcr, hcp, fun k hk => ?_, fun k hk => ?_⟩
 ·obtain ⟨e1, e2, e3⟩ := h5 k hk (by omega)
  obtain ⟨g, rfl⟩ : ∃ g, Ar = some ⟨g, 0, none⟩ := by
   obtain ⟨g, cap, e, _⟩ := Kd.R_form h2 (by omega)
   injection e with e _ _
   exact ⟨g, e⟩
  have := (Kd.R_celln ((none, 0, 0) : Hd) h2 ((k : Nat) : Int) (by omega) (by omega)).1
  rw [Int.toNat_natCast] at this
  refine ⟨_, hs[k].1, hs[k].2.2, rfl, ?_, e2, Kd.C_below e3 hb⟩
  rw [show ((⟨g, 0, none⟩ : Addr).add k) = ⟨g, k, none⟩ by rw [add_plain]]
  rw [this, ← e1]
  have : rdOf ((none, 0, 0) : Hd) hs (k : Int) = hs[k] := by simp [rdOf, List.getD_eq_getElem?_getD, List.getElem?_eq_getElem (show k < hs.length by omega)]
  rw [this]; rfl
 ·have := at_string_nat hCp k hk
  rwa [rdS st hk] at this
section
variable {P : Program} {ops : Array Oper} {o : Oper} {a : Act} {Q : Exit → Act → World → Prop} {Kc : Act → World → Prop}
/-- append(v, x) in a region that draws its order: x lies in a block that is known. -/
theorem append_one_step {α : Type} (enc : α → Value) {h1 : ∀ x, (enc x).oneCell' = true} {w0 W : World} (base : Nat) (hw : Region.wanted o (yielded ops a.tmps) = true) (s x : Operand) (t e : TypeId) (z : Value) (bytes : Nat)
  (ho : o.op = .call { callee := .builtin .append, args := #[s, x], argTypes := #[t, t] })
  (ht : P.underlying t = some (.slice e)) (hinfo : (P.info? e).map (fun i => (i.zero, i.size, i.bytes)) = some (some z, 1, bytes)) (hz : z.cells.size = 1) (hb0 : 0 < bytes)
  (v : Value) (xs : List α) (p : α) (gb : Nat) (te : TypeId) (hs : a.eval s = v) (hx : a.eval x = .slice (some ⟨gb, 0, none⟩) 1 1) (hgb : W.heap[gb]? = some (.cells #[enc p] te (0, 0)))
  (HO : (Kd.scalar enc h1).R e W base (fun _ => True) v xs) (HB : Below base w0 W) (hbase : base ≤ W.heap.size) (hl : (xs.length + 1) * bytes ≤ 140737488355328)
  (h : ∀ v1 w1, (Kd.scalar enc h1).R e w1 base (fun _ => True) v1 (xs ++ [p]) → Below base w0 w1 → W.grownBy w1 v.ownBlock → (v1.ownBlock = v.ownBlock ∨ ∃ b, v1.ownBlock = some b ∧ W.heap.size ≤ b) → Kc (a.put o.dst v1) w1) :
  if Region.wanted o (yielded ops a.tmps) = true then Oper.wp P o a W Kc Q else Kc (a.put o.dst undef) W := by
 refine Kd.R_append_rows_step (Kd.scalar enc h1) (Rr := fun x cs => cs = [enc x]) base hw s x t e z bytes ho ht hinfo hz Nat.zero_lt_one hb0 v xs [p] (some ⟨gb, 0, none⟩) 1 1 (fun _ => True) (fun _ => False) hs hx HO ⟨rfl, by decide, fun _ => ⟨_, rfl, fun j q hj => ?_⟩⟩ (fun _ _ h => h) (fun _ hk => hk.elim) (fun _ _ => trivial) HB hbase hl h
 cases j with
 | succ j => simp at hj
 | zero =>
  obtain rfl : p = q := by simpa using hj
  refine ⟨[enc p], rfl, rfl, fun i u hu => ?_⟩
  cases i with
  | succ i => simp at hu
  | zero =>
   obtain rfl : enc p = u := by simpa using hu
   rw [add_plain]
   exact blk_cell hgb 0
end
set_option maxHeartbeats 4000000 in
set_option maxRecDepth 100000 in
theorem code_stairs_sorted.calls (gs width M : Nat) (w : World) (st : St) (hG : HG w) (hS : StairsRd gs width w st) (hwf : WfSt width M st) (hst : st.length < 1000) (hw2 : width < 1000) (hM : M ≤ 140737488351232) :
  Calls Tryd.prog 68 #[.pointer (some ⟨gs, 0, none⟩)] w fun e w' => ∃ v, e = .returned v ∧ Kd.R Kd.string 9 w' w.heap.size (fun _ => True) v (solveRev width (sortSt width st)) ∧ Below w.heap.size w w' := by
 obtain ⟨Ar, cr, Ap, cp, hb, hcr, hcp, hCr, hCp⟩ := hS
 obtain ⟨N, hN⟩ : ∃ N : Nat, N = st.length := ⟨_, rfl⟩
 have HCR := Aside0.mk hCr
 have HCP := Aside0.mk hCp
 rw [← hN] at hst hb hcr hcp
 have hcz0 : w.cell? ⟨gs, 0, none⟩ = some (.slice Ar N cr) := blk_cell hb 0
 have hcz2 : w.cell? ⟨gs, 2, none⟩ = some (.int .i64 (width : Int)) := blk_cell hb 2
 have HGw := Aside0.mk hG
 have HBK := Aside0.mk hb
 have HWF := Aside0.mk hwf
 have hgl : gs < w.heap.size := blk_lt hb
 have HN := Aside0.mk hN
 have hu117 := Tryd.underlying117
 clear hG hb hCr hCp hwf hN
 go_enter Tryd.func68, Tryd.ntmps68
 go_wp2
 have HI0 : Aside0 (StairsUp w.heap.size w.heap.size width w (w.alloc (.cells #[.slice none 0 0, .slice none 0 0, .int .i64 (width : Int)] 117)) (sortUpto st 0)) := ⟨_, _, [], blk_new _ _, Kd.R_nil _ _ _ _ _, Kd.R_nil _ _ _ _ _, rfl, fun k h => absurd h (Nat.not_lt_zero k)⟩
 clear hcz0 hcz2
 go_loopw [17] (fun v W => ∃ a : Nat, a ≤ width ∧ v = .int .i64 (a : Int) ∧ Aside0 (StairsUp w.heap.size w.heap.size width w W (sortUpto st a)) ∧ Aside0 (Below w.heap.size w W)) (fun v _ => width - (intOf v).toNat)
 case atStart => exact ⟨0, Nat.zero_le _, rfl, HI0, ⟨below_alloc (Below.refl _ _) _⟩⟩
 case round =>
  clear HI0
  obtain ⟨a, ha, rfl, HS, HB⟩ := hrel
  by_cases hlt : a < width
  ·have hbk := blk_below HBK.out HB.out
   have hcz0 : wr.cell? ⟨gs, 0, none⟩ = some (.slice Ar N cr) := blk_cell hbk 0
   clear hbk
   go_wp2
   obtain ⟨wo, rfl⟩ : ∃ wo : World, wo = wr := ⟨_, rfl⟩
   go_loopw [25] (fun v W => ∃ k : Nat, k ≤ N ∧ v = .int .i64 (k : Int) ∧ Aside0 (StairsUp w.heap.size w.heap.size width w W (sortUpto st a ++ (st.take k).filter (atPlace a))) ∧ Aside0 (Below w.heap.size w W)) (fun v _ => N - (intOf v).toNat)
   case atStart => exact ⟨0, Nat.zero_le _, rfl, ⟨by rw [List.take_zero, List.filter_nil, List.append_nil]; exact HS.out⟩, HB⟩
   case round =>
    clear hcz0 HS HB
    obtain ⟨k, hk, rfl, HS, HB⟩ := hrel
    by_cases hlt2 : k < N
    ·have his : k < st.length := by have := HN.out; omega
     obtain ⟨⟨hxB, hxl, hxM⟩, hxf⟩ := HWF.out _ (List.getElem_mem his)
     have HF := Aside0.mk (filter_take_succ st a his)
     have HLN := Aside0.mk (show (sortUpto st a ++ (st.take k).filter (atPlace a)).length ≤ 1000000 by
      have h1 := sortUpto_length st a
      have h2 := List.length_filter_le (atPlace a) (st.take k)
      have h3 : a * st.length ≤ 999 * 999 := Nat.mul_le_mul (by omega) (by have := HN.out; omega)
      rw [List.length_append]
      rw [List.length_take] at h2
      have := HN.out
      omega)
     obtain ⟨ad0, A0, c0, rfl, hx0, hx1, hx2⟩ := HCR.out k his
     obtain ⟨ad1, rfl, hq0⟩ := HCP.out k his
     generalize st[k] = xq at hxB hxl hxM hxf HF hx0 hx1 hx2 hq0
     obtain ⟨x, q⟩ := xq
     dsimp only at hxB hxl hxM hxf hx0 hx1 hx2 hq0 HF
     have HX2 := Aside0.mk hx2
     have HQ0 := Aside0.mk hq0
     have HXL := Aside0.mk hxl
     rw [hxl] at hx0 hx1
     replace hx0 := pw_cell_below HB.out hx0
     have HF1 := Aside0.mk (show ∀ W, Below wr.heap.size wr W → Calls Tryd.prog 92 #[.slice A0 width c0] W fun e w' => e = .returned (.int .i64 ((fstIdx x : Nat) : Int)) ∧ Drawn0 W w' from by
      intro W hb
      have := code_first.fst A0 c0 x W ((HGw.out.below HB.out).below hb) (Kd.C_below HX2.out (below_step HB.out hb)) (by rw [HXL.out]; exact hx1) (by rw [HXL.out]; omega)
      rw [HXL.out] at this
      exact this)
     clear hx2 hq0 hxl
     generalize hfe : fstIdx x = fi at HF1 hxf HF
     clear hfe
     by_cases hfa : fi = a
     ·subst hfa
      have hb1 : ((fi : Int) == (fi : Int)) = true := beq_self_eq_true _
      have hf := HF.out
      rw [if_pos rfl] at hf
      have HF2 := Aside0.mk hf
      clear hf
      go_wp2_with (go_at_call 92; (with_reducible refine (HF1.out _ (Below.refl _ _)).mono ?_); rintro e w' ⟨rfl, ⟨nd, rfl⟩⟩)
      have HSp := Aside0.mk (HS.out.below (pw_below_drewN (Below.refl _ _) nd))
      have HBp := Aside0.mk (pw_below_drewN HB.out nd)
      generalize wr.drewN nd = wp at *
      have HBd := Aside0.mk (below_drew HBp.out)
      have hSd := HSp.out.below (below_drew (Below.refl _ _))
      clear HS HB HF1 hx0 HSp HBp
      generalize hTe : sortUpto st fi ++ (st.take k).filter (atPlace fi) = T at HLN hSd
      have HTE := Aside0.mk hTe
      clear hTe
      obtain ⟨vr, vp, hs, hbk, hR, hP, hlen, hall⟩ := hSd
      obtain ⟨Ht, hc, ev⟩ := Kd.R_slice hR
      obtain ⟨Pt, pc, ew⟩ := Kd.R_slice hP
      obtain ⟨tn, htn⟩ : ∃ tn : Nat, tn = T.length := ⟨_, rfl⟩
      rw [List.length_map, ← htn] at ew
      rw [hlen, ← htn] at ev
      subst ev ew
      have HT := Aside0.mk hbk
      have HRc := Aside0.mk hR
      have HPc := Aside0.mk hP
      have HBc := Aside0.mk HBd.out
      have HLE := Aside0.mk hlen
      have HALL := Aside0.mk hall
      have HNE1 := Aside0.mk (Kd.R_ne hR hbk (by decide))
      have HNE2 := Aside0.mk (Kd.R_ne hP hbk (by decide))
      have hHT := Aside0.mk htn
      clear hbk hR hP hlen hall htn HBd
      refine start_ (n := 28) (S := fun w' => w'.cell? ⟨w.heap.size, 0, none⟩ = some (.slice Ht tn hc) ∧ w'.cell? ⟨w.heap.size, 1, none⟩ = some (.slice Pt tn pc) ∧ w'.cell? ⟨gs, 1, none⟩ = some (.slice (some ad1) N cp) ∧ w'.cell? (ad1.add k) = some (.string q)) (ds := [24, 27]) #[false, false, false, false, false, false, false, false, false, false, false, false, false, false, false, false, false, false, false, false, false, false, false, false, false, false, false, false] (by kernel_rfl) rfl rfl ⟨blk_cell HT.out 0, blk_cell HT.out 1, blk_cell (blk_below HBK.out HBc.out) 1, pw_cell_below HBc.out HQ0.out⟩ (fun hHeld => ?_)
      generalize wp.drew = wd at *
      refine pure_ (i := 0) (N := some 34) (v := ?_) (a' := ?_) #[true, false, false, false, false, false, false, false, false, false, false, false, false, false, false, false, false, false, false, false, false, false, false, false, false, false, false, false] rfl rfl (by kernel_rfl) (fun _ _ _ h => h) (Or.inl ⟨by rfl, ?_⟩) ?_ ?_
      rotate_left
      ·intro w'
       go_simp
       with_reducible rfl
      rotate_left
      ·simp only [Act.put, List.setIfInBounds_toArray, List.set_cons_zero, List.set_cons_succ, i64_w, i32_w]
       rfl
      refine pure_ (i := 1) (N := some 35) (v := ?_) (a' := ?_) #[true, true, false, false, false, false, false, false, false, false, false, false, false, false, false, false, false, false, false, false, false, false, false, false, false, false, false, false] rfl rfl (by kernel_rfl) (fun _ _ _ h => h) (Or.inl ⟨by rfl, ?_⟩) ?_ ?_
      rotate_left
      ·intro w'
       go_simp
       with_reducible rfl
      rotate_left
      ·simp only [Act.put, List.setIfInBounds_toArray, List.set_cons_zero, List.set_cons_succ, i64_w, i32_w]
       rfl
      refine pure_ (i := 2) (N := some 36) (v := ?_) (a' := ?_) #[true, true, true, false, false, false, false, false, false, false, false, false, false, false, false, false, false, false, false, false, false, false, false, false, false, false, false, false] rfl rfl (by kernel_rfl) (fun _ _ _ h => h) (Or.inl ⟨by rfl, ?_⟩) ?_ ?_
      rotate_left
      ·intro w'
       go_simp
       with_reducible rfl
      rotate_left
      ·simp only [Act.put, List.setIfInBounds_toArray, List.set_cons_zero, List.set_cons_succ, i64_w, i32_w]
       rfl
      refine pure_ (i := 3) (N := some 37) (v := ?_) (a' := ?_) #[true, true, true, true, false, false, false, false, false, false, false, false, false, false, false, false, false, false, false, false, false, false, false, false, false, false, false, false] rfl rfl (by kernel_rfl) (fun _ _ _ h => h) (Or.inl ⟨by rfl, ?_⟩) ?_ ?_
      rotate_left
      ·intro w'
       go_simp
       with_reducible rfl
      rotate_left
      ·simp only [Act.put, List.setIfInBounds_toArray, List.set_cons_zero, List.set_cons_succ, i64_w, i32_w]
       rfl
      refine pure_ (i := 4) (N := some 38) (v := ?_) (a' := ?_) #[true, true, true, true, true, false, false, false, false, false, false, false, false, false, false, false, false, false, false, false, false, false, false, false, false, false, false, false] rfl rfl (by kernel_rfl) (fun _ _ _ h => h) (Or.inl ⟨by rfl, ?_⟩) ?_ ?_
      rotate_left
      ·intro w'
       go_simp
       with_reducible rfl
      rotate_left
      ·simp only [Act.put, List.setIfInBounds_toArray, List.set_cons_zero, List.set_cons_succ, i64_w, i32_w]
       rfl
      refine pure_ (i := 6) (N := some 40) (v := ?_) (a' := ?_) #[true, true, true, true, true, false, true, false, false, false, false, false, false, false, false, false, false, false, false, false, false, false, false, false, false, false, false, false] rfl rfl (by kernel_rfl) (fun _ _ _ h => h) (Or.inl ⟨by rfl, ?_⟩) ?_ ?_
      rotate_left
      ·intro w'
       go_simp
       with_reducible rfl
      rotate_left
      ·simp only [Act.put, List.setIfInBounds_toArray, List.set_cons_zero, List.set_cons_succ, i64_w, i32_w]
       rfl
      refine pure_ (i := 9) (N := some 43) (v := ?_) (a' := ?_) #[true, true, true, true, true, false, true, false, false, true, false, false, false, false, false, false, false, false, false, false, false, false, false, false, false, false, false, false] rfl rfl (by kernel_rfl) (fun _ _ _ h => h) (Or.inl ⟨by rfl, ?_⟩) ?_ ?_
      rotate_left
      ·intro w'
       go_simp
       with_reducible rfl
      rotate_left
      ·simp only [Act.put, List.setIfInBounds_toArray, List.set_cons_zero, List.set_cons_succ, i64_w, i32_w]
       rfl
      refine pure_ (i := 10) (N := some 44) (v := ?_) (a' := ?_) #[true, true, true, true, true, false, true, false, false, true, true, false, false, false, false, false, false, false, false, false, false, false, false, false, false, false, false, false] rfl rfl (by kernel_rfl) (fun _ _ _ h => h) (Or.inl ⟨by rfl, ?_⟩) ?_ ?_
      rotate_left
      ·intro w'
       go_simp
       with_reducible rfl
      rotate_left
      ·simp only [Act.put, List.setIfInBounds_toArray, List.set_cons_zero, List.set_cons_succ, i64_w, i32_w]
       rfl
      refine pure_ (i := 11) (N := some 45) (v := ?_) (a' := ?_) #[true, true, true, true, true, false, true, false, false, true, true, true, false, false, false, false, false, false, false, false, false, false, false, false, false, false, false, false] rfl rfl (by kernel_rfl) (fun _ _ _ h => h) (Or.inl ⟨by rfl, ?_⟩) ?_ ?_
      rotate_left
      ·intro w'
       go_simp
       with_reducible rfl
      rotate_left
      ·simp only [Act.put, List.setIfInBounds_toArray, List.set_cons_zero, List.set_cons_succ, i64_w, i32_w]
       rfl
      refine pure_ (i := 13) (N := some 47) (v := ?_) (a' := ?_) #[true, true, true, true, true, false, true, false, false, true, true, true, false, true, false, false, false, false, false, false, false, false, false, false, false, false, false, false] rfl rfl (by kernel_rfl) (fun _ _ _ h => h) (Or.inl ⟨by rfl, ?_⟩) ?_ ?_
      rotate_left
      ·intro w'
       go_simp
       with_reducible rfl
      rotate_left
      ·simp only [Act.put, List.setIfInBounds_toArray, List.set_cons_zero, List.set_cons_succ, i64_w, i32_w]
       rfl
      refine pure_ (i := 14) (N := some 48) (v := ?_) (a' := ?_) #[true, true, true, true, true, false, true, false, false, true, true, true, false, true, true, false, false, false, false, false, false, false, false, false, false, false, false, false] rfl rfl (by kernel_rfl) (fun _ _ _ h => h) (Or.inl ⟨by rfl, ?_⟩) ?_ ?_
      rotate_left
      ·intro w'
       go_simp
       with_reducible rfl
      rotate_left
      ·simp only [Act.put, List.setIfInBounds_toArray, List.set_cons_zero, List.set_cons_succ, i64_w, i32_w]
       rfl
      refine pure_ (i := 15) (N := some 49) (v := ?_) (a' := ?_) #[true, true, true, true, true, false, true, false, false, true, true, true, false, true, true, true, false, false, false, false, false, false, false, false, false, false, false, false] rfl rfl (by kernel_rfl) (fun _ _ _ h => h) (Or.inl ⟨by rfl, ?_⟩) ?_ ?_
      rotate_left
      ·intro w'
       go_simp
       with_reducible rfl
      rotate_left
      ·simp only [Act.put, List.setIfInBounds_toArray, List.set_cons_zero, List.set_cons_succ, i64_w, i32_w]
       rfl
      refine pure_ (i := 17) (N := some 51) (v := ?_) (a' := ?_) #[true, true, true, true, true, false, true, false, false, true, true, true, false, true, true, true, false, true, false, false, false, false, false, false, false, false, false, false] rfl rfl (by kernel_rfl) (fun _ _ _ h => h) (Or.inl ⟨by rfl, ?_⟩) ?_ ?_
      rotate_left
      ·intro w'
       go_simp
       with_reducible rfl
      rotate_left
      ·simp only [Act.put, List.setIfInBounds_toArray, List.set_cons_zero, List.set_cons_succ, i64_w, i32_w]
       rfl
      refine take_ (i := 5) (N := some 39) (v := ?_) (a' := ?_) #[true, true, true, true, true, true, true, false, false, true, true, true, false, true, true, true, false, true, false, false, false, false, false, false, false, false, false, false] rfl rfl (by kernel_rfl) (fun _ _ _ h => h) (Or.inl ⟨by rfl, ?_⟩) hHeld ?_ ?_
      rotate_left
      ·rintro w' ⟨s0, s1, s2, s3⟩
       go_simp
       with_reducible rfl
      rotate_left
      ·simp only [Act.put, List.setIfInBounds_toArray, List.set_cons_zero, List.set_cons_succ, i64_w, i32_w]
       rfl
      refine take_ (i := 12) (N := some 46) (v := ?_) (a' := ?_) #[true, true, true, true, true, true, true, false, false, true, true, true, true, true, true, true, false, true, false, false, false, false, false, false, false, false, false, false] rfl rfl (by kernel_rfl) (fun _ _ _ h => h) (Or.inl ⟨by rfl, ?_⟩) hHeld ?_ ?_
      rotate_left
      ·rintro w' ⟨s0, s1, s2, s3⟩
       go_simp
       with_reducible rfl
      rotate_left
      ·simp only [Act.put, List.setIfInBounds_toArray, List.set_cons_zero, List.set_cons_succ, i64_w, i32_w]
       rfl
      refine take_ (i := 16) (N := some 50) (v := ?_) (a' := ?_) #[true, true, true, true, true, true, true, false, false, true, true, true, true, true, true, true, true, true, false, false, false, false, false, false, false, false, false, false] rfl rfl (by kernel_rfl) (fun _ _ _ h => h) (Or.inl ⟨by rfl, ?_⟩) hHeld ?_ ?_
      rotate_left
      ·rintro w' ⟨s0, s1, s2, s3⟩
       go_simp
       with_reducible rfl
      rotate_left
      ·simp only [Act.put, List.setIfInBounds_toArray, List.set_cons_zero, List.set_cons_succ, i64_w, i32_w]
       rfl
      refine pure_ (i := 18) (N := some 52) (v := ?_) (a' := ?_) #[true, true, true, true, true, true, true, false, false, true, true, true, true, true, true, true, true, true, true, false, false, false, false, false, false, false, false, false] rfl rfl (by kernel_rfl) (fun _ _ _ h => h) (Or.inl ⟨by rfl, ?_⟩) ?_ ?_
      rotate_left
      ·intro w'
       go_simp
       with_reducible rfl
      rotate_left
      ·simp only [Act.put, List.setIfInBounds_toArray, List.set_cons_zero, List.set_cons_succ, i64_w, i32_w]
       rfl
      refine take_ (i := 19) (N := some 53) (v := ?_) (a' := ?_) #[true, true, true, true, true, true, true, false, false, true, true, true, true, true, true, true, true, true, true, true, false, false, false, false, false, false, false, false] rfl rfl (by kernel_rfl) (fun _ _ _ h => h) (Or.inl ⟨by rfl, ?_⟩) hHeld ?_ ?_
      rotate_left
      ·rintro w' ⟨s0, s1, s2, s3⟩
       go_simp
       with_reducible rfl
      rotate_left
      ·simp only [Act.put, List.setIfInBounds_toArray, List.set_cons_zero, List.set_cons_succ, i64_w, i32_w]
       rfl
      refine join_ (σ := (Nat × Nat × Option Addr × Nat × Nat)) 7 #[true, true, true, true, true, true, true, true, true, true, true, true, true, true, true, true, true, true, true, true, true, false, false, false, false, false, false, false] (fun s => [(41, .slice (some ⟨s.1, 0, none⟩) 1 1), (42, .slice s.2.2.1 s.2.2.2.1 s.2.2.2.2), (54, .slice (some ⟨s.2.1, 0, none⟩) 1 1)]) (fun s w' => (w'.cell? ⟨w.heap.size, 0, none⟩ = some (.slice Ht tn hc) ∧ w'.cell? ⟨w.heap.size, 1, none⟩ = some (.slice Pt tn pc) ∧ w'.cell? ⟨gs, 1, none⟩ = some (.slice (some ad1) N cp) ∧ w'.cell? (ad1.add k) = some (.string q)) ∧ w'.heap[w.heap.size]? = some (.cells #[.slice Ht tn hc, .slice Pt tn pc, .int .i64 (width : Int)] 117 (0, 0)) ∧ Below w.heap.size w w' ∧ (Kd.scalar encH (fun _ => rfl)).R 57 w' w.heap.size (fun _ => True) (.slice s.2.2.1 s.2.2.2.1 s.2.2.2.2) (hs ++ [((A0, width, c0) : Hd)]) ∧ Kd.R Kd.string 9 w' w.heap.size (fun _ => True) (.slice Pt tn pc) (T.map Prod.snd) ∧ w'.heap[s.2.1]? = some (.cells #[.string q] 9 (0, 0))) ?_ ?_
      rotate_left
      ·intro hCont
       refine two_ (i := 7) (j := 20) (Ni := some 41) (Nj := some 54) #[true, true, true, true, true, true, true, true, false, true, true, true, true, true, true, true, true, true, true, true, false, false, false, false, false, false, false, false] #[true, true, true, true, true, true, true, false, false, true, true, true, true, true, true, true, true, true, true, true, true, false, false, false, false, false, false, false] rfl rfl rfl rfl (by kernel_rfl) (by decide) (by decide) (fun K hK => ?_) (fun K hK => ?_)
       ·skip
        refine value_ (w1 := ?_) (v := ?_) (by rfl) rfl ?_ ?_
        rotate_left 2
        ·go_simp
         constructor
         ·rfl
         ·rfl
        have HG := Aside0.mk (blk_new wd (.cells #[.slice A0 width c0] 57))
        have n_ := Aside0.mk (blk_alloc HT.out (.cells #[.slice A0 width c0] 57))
        clear HT
        have HT := n_
        clear n_
        have n_ := Aside0.mk (Kd.R_alloc HRc.out (.cells #[.slice A0 width c0] 57))
        clear HRc
        have HRc := n_
        clear n_
        have n_ := Aside0.mk (Kd.R_alloc HPc.out (.cells #[.slice A0 width c0] 57))
        clear HPc
        have HPc := n_
        clear n_
        have n_ := Aside0.mk (below_alloc HBc.out (.cells #[.slice A0 width c0] 57))
        clear HBc
        have HBc := n_
        clear n_
        clear hHeld
        generalize World.alloc wd (.cells #[.slice A0 width c0] 57) = w7 at *
        generalize wd.heap.size = gh at *
        refine hK.out _ _ ⟨blk_cell HT.out 0, blk_cell HT.out 1, blk_cell (blk_below HBK.out HBc.out) 1, pw_cell_below HBc.out HQ0.out⟩ (fun hHeld => ?_)
        clear hK K
        refine norm_ (a' := ?_) ?_ ?_
        rotate_left
        ·show Act.put _ (some 41) _ = _
         simp only [Act.put, List.setIfInBounds_toArray, List.set_cons_zero, List.set_cons_succ, i64_w, i32_w]
         rfl
        refine two_ (i := 8) (j := 20) (Ni := some 42) (Nj := some 54) #[true, true, true, true, true, true, true, true, true, true, true, true, true, true, true, true, true, true, true, true, false, false, false, false, false, false, false, false] #[true, true, true, true, true, true, true, true, false, true, true, true, true, true, true, true, true, true, true, true, true, false, false, false, false, false, false, false] rfl rfl rfl rfl (by kernel_rfl) (by decide) (by decide) (fun K hK => ?_) (fun K hK => ?_)
        ·skip
         refine append_one_step encH (w0 := w) w.heap.size (by rfl) (.tmp 39) (.tmp 41) 29 57 (.slice none 0 0) 24 rfl Tryd.underlying29 info57 rfl (by omega) (.slice Ht tn hc) hs ((A0, width, c0) : Hd) gh 57 rfl rfl HG.out HRc.out HBc.out HBc.out.size ?aL ?_
         (case aL => rw [HLE.out]; have := HLN.out; omega)
         intro v1 w3 ho hb hg hat
         obtain ⟨A1, c1, hv1⟩ := Kd.R_slice ho
         generalize (hs ++ [((A0, width, c0) : Hd)]).length = n1 at hv1
         subst hv1
         have n_ := Aside0.mk (blk_grown HT.out hg HNE1.out)
         clear HT
         have HT := n_
         clear n_
         have n_ := Aside0.mk (Kd.R_over HPc.out HRc.out (by decide) hg)
         clear HPc
         have HPc := n_
         clear n_
         clear HRc HBc HG hHeld
         have HRc := Aside0.mk ho
         have HBc := Aside0.mk hb
         clear ho hb hg hat
         refine hK.out _ _ ⟨blk_cell HT.out 0, blk_cell HT.out 1, blk_cell (blk_below HBK.out HBc.out) 1, pw_cell_below HBc.out HQ0.out⟩ (fun hHeld => ?_)
         clear hK K
         refine norm_ (a' := ?_) ?_ ?_
         rotate_left
         ·show Act.put _ (some 42) _ = _
          simp only [Act.put, List.setIfInBounds_toArray, List.set_cons_zero, List.set_cons_succ, i64_w, i32_w]
          rfl
         refine one_ (i := 20) (N := some 54) #[true, true, true, true, true, true, true, true, true, true, true, true, true, true, true, true, true, true, true, true, true, false, false, false, false, false, false, false] rfl rfl (by kernel_rfl) (by decide) (fun K hK => ?_)
         refine value_ (w1 := ?_) (v := ?_) (by rfl) rfl ?_ ?_
         rotate_left 2
         ·go_simp
          constructor
          ·rfl
          ·rfl
         have HQ := Aside0.mk (blk_new w3 (.cells #[.string q] 9))
         have n_ := Aside0.mk (blk_alloc HT.out (.cells #[.string q] 9))
         clear HT
         have HT := n_
         clear n_
         have n_ := Aside0.mk (Kd.R_alloc HRc.out (.cells #[.string q] 9))
         clear HRc
         have HRc := n_
         clear n_
         have n_ := Aside0.mk (Kd.R_alloc HPc.out (.cells #[.string q] 9))
         clear HPc
         have HPc := n_
         clear n_
         have n_ := Aside0.mk (below_alloc HBc.out (.cells #[.string q] 9))
         clear HBc
         have HBc := n_
         clear n_
         clear hHeld
         generalize World.alloc w3 (.cells #[.string q] 9) = w20 at *
         generalize w3.heap.size = gq at *
         refine hK.out _ _ ⟨blk_cell HT.out 0, blk_cell HT.out 1, blk_cell (blk_below HBK.out HBc.out) 1, pw_cell_below HBc.out HQ0.out⟩ (fun hHeld => ?_)
         clear hK K
         refine norm_ (a' := ?_) ?_ ?_
         rotate_left
         ·show Act.put _ (some 54) _ = _
          simp only [Act.put, List.setIfInBounds_toArray, List.set_cons_zero, List.set_cons_succ, i64_w, i32_w]
          rfl
         exact norm_ (by simp only [putAll, Act.put, List.setIfInBounds_toArray, List.set_cons_zero, List.set_cons_succ]) (hCont (gh, gq, A1, n1, c1) _ ⟨hHeld, HT.out, HBc.out, HRc.out, HPc.out, HQ.out⟩)
        ·skip
         refine value_ (w1 := ?_) (v := ?_) (by rfl) rfl ?_ ?_
         rotate_left 2
         ·go_simp
          constructor
          ·rfl
          ·rfl
         have HQ := Aside0.mk (blk_new w7 (.cells #[.string q] 9))
         have n_ := Aside0.mk (blk_alloc HT.out (.cells #[.string q] 9))
         clear HT
         have HT := n_
         clear n_
         have n_ := Aside0.mk (Kd.R_alloc HRc.out (.cells #[.string q] 9))
         clear HRc
         have HRc := n_
         clear n_
         have n_ := Aside0.mk (Kd.R_alloc HPc.out (.cells #[.string q] 9))
         clear HPc
         have HPc := n_
         clear n_
         have n_ := Aside0.mk (below_alloc HBc.out (.cells #[.string q] 9))
         clear HBc
         have HBc := n_
         clear n_
         have n_ := Aside0.mk (blk_alloc HG.out (.cells #[.string q] 9))
         clear HG
         have HG := n_
         clear n_
         clear hHeld
         generalize World.alloc w7 (.cells #[.string q] 9) = w20 at *
         generalize w7.heap.size = gq at *
         refine hK.out _ _ ⟨blk_cell HT.out 0, blk_cell HT.out 1, blk_cell (blk_below HBK.out HBc.out) 1, pw_cell_below HBc.out HQ0.out⟩ (fun hHeld => ?_)
         clear hK K
         refine norm_ (a' := ?_) ?_ ?_
         rotate_left
         ·show Act.put _ (some 54) _ = _
          simp only [Act.put, List.setIfInBounds_toArray, List.set_cons_zero, List.set_cons_succ, i64_w, i32_w]
          rfl
         refine one_ (i := 8) (N := some 42) #[true, true, true, true, true, true, true, true, true, true, true, true, true, true, true, true, true, true, true, true, true, false, false, false, false, false, false, false] rfl rfl (by kernel_rfl) (by decide) (fun K hK => ?_)
         refine append_one_step encH (w0 := w) w.heap.size (by rfl) (.tmp 39) (.tmp 41) 29 57 (.slice none 0 0) 24 rfl Tryd.underlying29 info57 rfl (by omega) (.slice Ht tn hc) hs ((A0, width, c0) : Hd) gh 57 rfl rfl HG.out HRc.out HBc.out HBc.out.size ?aL ?_
         (case aL => rw [HLE.out]; have := HLN.out; omega)
         intro v1 w3 ho hb hg hat
         obtain ⟨A1, c1, hv1⟩ := Kd.R_slice ho
         generalize (hs ++ [((A0, width, c0) : Hd)]).length = n1 at hv1
         subst hv1
         have n_ := Aside0.mk (blk_grown HT.out hg HNE1.out)
         clear HT
         have HT := n_
         clear n_
         have n_ := Aside0.mk (blk_grown HQ.out hg (Kd.R_ne HRc.out HQ.out (by decide)))
         clear HQ
         have HQ := n_
         clear n_
         have n_ := Aside0.mk (Kd.R_over HPc.out HRc.out (by decide) hg)
         clear HPc
         have HPc := n_
         clear n_
         clear HRc HBc HG hHeld
         have HRc := Aside0.mk ho
         have HBc := Aside0.mk hb
         clear ho hb hg hat
         refine hK.out _ _ ⟨blk_cell HT.out 0, blk_cell HT.out 1, blk_cell (blk_below HBK.out HBc.out) 1, pw_cell_below HBc.out HQ0.out⟩ (fun hHeld => ?_)
         clear hK K
         refine norm_ (a' := ?_) ?_ ?_
         rotate_left
         ·show Act.put _ (some 42) _ = _
          simp only [Act.put, List.setIfInBounds_toArray, List.set_cons_zero, List.set_cons_succ, i64_w, i32_w]
          rfl
         exact norm_ (by simp only [putAll, Act.put, List.setIfInBounds_toArray, List.set_cons_zero, List.set_cons_succ]) (hCont (gh, gq, A1, n1, c1) _ ⟨hHeld, HT.out, HBc.out, HRc.out, HPc.out, HQ.out⟩)
       ·skip
        refine value_ (w1 := ?_) (v := ?_) (by rfl) rfl ?_ ?_
        rotate_left 2
        ·go_simp
         constructor
         ·rfl
         ·rfl
        have HQ := Aside0.mk (blk_new wd (.cells #[.string q] 9))
        have n_ := Aside0.mk (blk_alloc HT.out (.cells #[.string q] 9))
        clear HT
        have HT := n_
        clear n_
        have n_ := Aside0.mk (Kd.R_alloc HRc.out (.cells #[.string q] 9))
        clear HRc
        have HRc := n_
        clear n_
        have n_ := Aside0.mk (Kd.R_alloc HPc.out (.cells #[.string q] 9))
        clear HPc
        have HPc := n_
        clear n_
        have n_ := Aside0.mk (below_alloc HBc.out (.cells #[.string q] 9))
        clear HBc
        have HBc := n_
        clear n_
        clear hHeld
        generalize World.alloc wd (.cells #[.string q] 9) = w20 at *
        generalize wd.heap.size = gq at *
        refine hK.out _ _ ⟨blk_cell HT.out 0, blk_cell HT.out 1, blk_cell (blk_below HBK.out HBc.out) 1, pw_cell_below HBc.out HQ0.out⟩ (fun hHeld => ?_)
        clear hK K
        refine norm_ (a' := ?_) ?_ ?_
        rotate_left
        ·show Act.put _ (some 54) _ = _
         simp only [Act.put, List.setIfInBounds_toArray, List.set_cons_zero, List.set_cons_succ, i64_w, i32_w]
         rfl
        refine one_ (i := 7) (N := some 41) #[true, true, true, true, true, true, true, true, false, true, true, true, true, true, true, true, true, true, true, true, true, false, false, false, false, false, false, false] rfl rfl (by kernel_rfl) (by decide) (fun K hK => ?_)
        refine value_ (w1 := ?_) (v := ?_) (by rfl) rfl ?_ ?_
        rotate_left 2
        ·go_simp
         constructor
         ·rfl
         ·rfl
        have HG := Aside0.mk (blk_new w20 (.cells #[.slice A0 width c0] 57))
        have n_ := Aside0.mk (blk_alloc HT.out (.cells #[.slice A0 width c0] 57))
        clear HT
        have HT := n_
        clear n_
        have n_ := Aside0.mk (Kd.R_alloc HRc.out (.cells #[.slice A0 width c0] 57))
        clear HRc
        have HRc := n_
        clear n_
        have n_ := Aside0.mk (Kd.R_alloc HPc.out (.cells #[.slice A0 width c0] 57))
        clear HPc
        have HPc := n_
        clear n_
        have n_ := Aside0.mk (below_alloc HBc.out (.cells #[.slice A0 width c0] 57))
        clear HBc
        have HBc := n_
        clear n_
        have n_ := Aside0.mk (blk_alloc HQ.out (.cells #[.slice A0 width c0] 57))
        clear HQ
        have HQ := n_
        clear n_
        clear hHeld
        generalize World.alloc w20 (.cells #[.slice A0 width c0] 57) = w7 at *
        generalize w20.heap.size = gh at *
        refine hK.out _ _ ⟨blk_cell HT.out 0, blk_cell HT.out 1, blk_cell (blk_below HBK.out HBc.out) 1, pw_cell_below HBc.out HQ0.out⟩ (fun hHeld => ?_)
        clear hK K
        refine norm_ (a' := ?_) ?_ ?_
        rotate_left
        ·show Act.put _ (some 41) _ = _
         simp only [Act.put, List.setIfInBounds_toArray, List.set_cons_zero, List.set_cons_succ, i64_w, i32_w]
         rfl
        refine one_ (i := 8) (N := some 42) #[true, true, true, true, true, true, true, true, true, true, true, true, true, true, true, true, true, true, true, true, true, false, false, false, false, false, false, false] rfl rfl (by kernel_rfl) (by decide) (fun K hK => ?_)
        refine append_one_step encH (w0 := w) w.heap.size (by rfl) (.tmp 39) (.tmp 41) 29 57 (.slice none 0 0) 24 rfl Tryd.underlying29 info57 rfl (by omega) (.slice Ht tn hc) hs ((A0, width, c0) : Hd) gh 57 rfl rfl HG.out HRc.out HBc.out HBc.out.size ?aL ?_
        (case aL => rw [HLE.out]; have := HLN.out; omega)
        intro v1 w3 ho hb hg hat
        obtain ⟨A1, c1, hv1⟩ := Kd.R_slice ho
        generalize (hs ++ [((A0, width, c0) : Hd)]).length = n1 at hv1
        subst hv1
        have n_ := Aside0.mk (blk_grown HT.out hg HNE1.out)
        clear HT
        have HT := n_
        clear n_
        have n_ := Aside0.mk (blk_grown HQ.out hg (Kd.R_ne HRc.out HQ.out (by decide)))
        clear HQ
        have HQ := n_
        clear n_
        have n_ := Aside0.mk (Kd.R_over HPc.out HRc.out (by decide) hg)
        clear HPc
        have HPc := n_
        clear n_
        clear HRc HBc HG hHeld
        have HRc := Aside0.mk ho
        have HBc := Aside0.mk hb
        clear ho hb hg hat
        refine hK.out _ _ ⟨blk_cell HT.out 0, blk_cell HT.out 1, blk_cell (blk_below HBK.out HBc.out) 1, pw_cell_below HBc.out HQ0.out⟩ (fun hHeld => ?_)
        clear hK K
        refine norm_ (a' := ?_) ?_ ?_
        rotate_left
        ·show Act.put _ (some 42) _ = _
         simp only [Act.put, List.setIfInBounds_toArray, List.set_cons_zero, List.set_cons_succ, i64_w, i32_w]
         rfl
        exact norm_ (by simp only [putAll, Act.put, List.setIfInBounds_toArray, List.set_cons_zero, List.set_cons_succ]) (hCont (gh, gq, A1, n1, c1) _ ⟨hHeld, HT.out, HBc.out, HRc.out, HPc.out, HQ.out⟩)
      rintro ⟨gh, gq, A1, n1, c1⟩ w3 ⟨hHeld, hT, hB, hR, hP, hQ⟩
      dsimp only at hR hQ
      clear HT HBc HRc HPc
      have HT := Aside0.mk hT
      have HBc := Aside0.mk hB
      have HRc := Aside0.mk hR
      have HPc := Aside0.mk hP
      have HQ := Aside0.mk hQ
      clear hT hB hR hP hQ
      refine norm_ (a' := ?_) ?_ ?_
      rotate_left
      ·simp only [putAll, Act.put, List.setIfInBounds_toArray, List.set_cons_zero, List.set_cons_succ]
       rfl
      refine one_ (i := 21) (N := some 55) #[true, true, true, true, true, true, true, true, true, true, true, true, true, true, true, true, true, true, true, true, true, true, false, false, false, false, false, false] rfl rfl (by kernel_rfl) (by decide) (fun K hK => ?_)
      refine append_one_step Value.string (w0 := w) w.heap.size (by rfl) (.tmp 46) (.tmp 54) 32 9 (.string ⟨#[]⟩) 16 rfl Tryd.underlying32 info9 rfl (by omega) (.slice Pt tn pc) (T.map Prod.snd) q gq 9 rfl rfl HQ.out HPc.out HBc.out HBc.out.size ?bL ?_
      (case bL => rw [List.length_map]; have := HLN.out; omega)
      intro v2 w5 ho hb hg hat
      obtain ⟨A2, c2, hv2⟩ := Kd.R_slice ho
      generalize (T.map Prod.snd ++ [q]).length = n2 at hv2
      subst hv2
      have HP5 := Aside0.mk ho
      have HB5 := Aside0.mk hb
      have HTK5 := Aside0.mk (blk_grown HT.out hg HNE2.out)
      have HO5 := Aside0.mk (Kd.R_over HRc.out HPc.out (by decide) hg)
      have hfz := blk_frozen HTK5.out 0
      have hfc := blk_cell HTK5.out 0
      have hb6 := blk_set HTK5.out 0 (.slice A1 n1 c1)
      have HTK6 := Aside0.mk hb6
      have hfz6 := blk_frozen hb6 1
      have hfc6 := blk_cell hb6 1
      clear ho hb hg hat hb6
      refine hK.out _ _ ⟨blk_cell HTK5.out 0, blk_cell HTK5.out 1, blk_cell (blk_below HBK.out HB5.out) 1, pw_cell_below HB5.out HQ0.out⟩ (fun hHeld => ?_)
      clear hK K
      refine norm_ (a' := ?_) ?_ ?_
      rotate_left
      ·show Act.put _ (some 55) _ = _
       simp only [Act.put, List.setIfInBounds_toArray, List.set_cons_zero, List.set_cons_succ, i64_w, i32_w]
       rfl
      refine pure_ (i := 22) (N := some 56) (v := ?_) (a' := ?_) #[true, true, true, true, true, true, true, true, true, true, true, true, true, true, true, true, true, true, true, true, true, true, true, false, false, false, false, false] rfl rfl (by kernel_rfl) (fun _ _ _ h => h) (Or.inl ⟨by rfl, ?_⟩) ?_ ?_
      rotate_left
      ·intro w'
       go_simp
       with_reducible rfl
      rotate_left
      ·simp only [Act.put, List.setIfInBounds_toArray, List.set_cons_zero, List.set_cons_succ, i64_w, i32_w]
       rfl
      refine pure_ (i := 23) (N := some 57) (v := ?_) (a' := ?_) #[true, true, true, true, true, true, true, true, true, true, true, true, true, true, true, true, true, true, true, true, true, true, true, true, false, false, false, false] rfl rfl (by kernel_rfl) (fun _ _ _ h => h) (Or.inl ⟨by rfl, ?_⟩) ?_ ?_
      rotate_left
      ·intro w'
       go_simp
       with_reducible rfl
      rotate_left
      ·simp only [Act.put, List.setIfInBounds_toArray, List.set_cons_zero, List.set_cons_succ, i64_w, i32_w]
       rfl
      refine last_ (i := 24) (N := none) #[true, true, true, true, true, true, true, true, true, true, true, true, true, true, true, true, true, true, true, true, true, true, true, true, true, false, false, false] rfl rfl (by kernel_rfl) (by decide) (fun K hK => ?_)
      refine skip_ (w1 := ?_) (by rfl) rfl ?_ ?_
      rotate_left
      ·go_simp
       rfl
      refine hK.out _ _ ?_
      clear hK K
      refine pure_ (i := 25) (N := some 58) (v := ?_) (a' := ?_) #[true, true, true, true, true, true, true, true, true, true, true, true, true, true, true, true, true, true, true, true, true, true, true, true, true, true, false, false] rfl rfl (by kernel_rfl) (fun _ _ _ h => h) (Or.inl ⟨by rfl, ?_⟩) ?_ ?_
      rotate_left
      ·intro w'
       go_simp
       with_reducible rfl
      rotate_left
      ·simp only [Act.put, List.setIfInBounds_toArray, List.set_cons_zero, List.set_cons_succ, i64_w, i32_w]
       rfl
      refine pure_ (i := 26) (N := some 59) (v := ?_) (a' := ?_) #[true, true, true, true, true, true, true, true, true, true, true, true, true, true, true, true, true, true, true, true, true, true, true, true, true, true, true, false] rfl rfl (by kernel_rfl) (fun _ _ _ h => h) (Or.inl ⟨by rfl, ?_⟩) ?_ ?_
      rotate_left
      ·intro w'
       go_simp
       with_reducible rfl
      rotate_left
      ·simp only [Act.put, List.setIfInBounds_toArray, List.set_cons_zero, List.set_cons_succ, i64_w, i32_w]
       rfl
      refine last_ (i := 27) (N := none) #[true, true, true, true, true, true, true, true, true, true, true, true, true, true, true, true, true, true, true, true, true, true, true, true, true, true, true, true] rfl rfl (by kernel_rfl) (by decide) (fun K hK => ?_)
      refine skip_ (w1 := ?_) (by rfl) rfl ?_ ?_
      rotate_left
      ·go_simp
       rfl
      refine hK.out _ _ ?_
      clear hK K
      refine done_ (by kernel_rfl) ?_
      go_wp2
      go_roundw
      case rel =>
       refine ⟨k + 1, by omega, by go_num, ⟨?_⟩, ⟨(HB5.out.setCell (p := ⟨w.heap.size, 0, none⟩) (Nat.le_refl _) _).setCell (p := ⟨w.heap.size, 1, none⟩) (Nat.le_refl _) _⟩⟩
       rw [HF2.out, ← List.append_assoc, HTE.out]
       refine ⟨_, _, hs ++ [((A0, width, c0) : Hd)], blk_set HTK6.out 1 (.slice A2 n2 c2), Kd.R_set (Kd.R_set HO5.out HTK5.out (by decide) 0 _) HTK6.out (by decide) 1 _, ?_, by rw [List.length_append, List.length_append, HLE.out]; rfl, fun i h h2 => ?_⟩
       ·rw [List.map_append]
        exact Kd.R_set (Kd.R_set HP5.out HTK5.out (by decide) 0 _) HTK6.out (by decide) 1 _
       ·have hle := HLE.out
        by_cases hi : i < T.length
        ·have h3 : i < hs.length := by omega
         rw [List.getElem_append_left h3]
         simp only [List.getElem_append_left hi]
         exact HALL.out i hi h3
        ·have h4 : i = T.length := by rw [List.length_append] at h; simp at h; omega
         subst h4
         rw [List.getElem_append_right (by omega)]
         simp only [List.getElem_append_right (Nat.le_refl _), Nat.sub_self, hle, List.getElem_singleton]
         exact ⟨HXL.out.symm, by rw [HXL.out]; exact hx1, HX2.out⟩
      case measure => simp [intOf]; omega
     ·have hb1 : ((fi : Int) == (a : Int)) = false := beq_eq_false_iff_ne.2 (by omega)
      have hb2 : (fi == a) = false := beq_eq_false_iff_ne.2 hfa
      have hf := HF.out
      rw [if_neg hfa, List.append_nil] at hf
      have HF2 := Aside0.mk hf
      clear hf
      go_wp2_with (go_at_call 92; (with_reducible refine (HF1.out _ (Below.refl _ _)).mono ?_); rintro e w' ⟨rfl, ⟨nd, rfl⟩⟩)
      go_roundw
      case rel => exact ⟨k + 1, by omega, by go_num, ⟨by rw [HF2.out]; exact HS.out.below (pw_below_drewN (Below.refl _ _) nd)⟩, ⟨pw_below_drewN HB.out nd⟩⟩
      case measure => simp [intOf]; omega
    ·obtain rfl : k = N := by omega
     go_wp2
     go_roundw
     case rel => exact ⟨a + 1, by omega, by go_num, ⟨by rw [sortUpto_succ]; have := HS.out; rwa [HN.out, List.take_length] at this⟩, HB⟩
     case measure => simp [intOf]; omega
  ·obtain rfl : a = width := by omega
   have HSV := Aside0.mk (code_stairs_solve.calls w.heap.size a M wr (sortUpto st a) (HGw.out.below HB.out) (HS.out.rd HB.out) (fun x hx => HWF.out x (sortUpto_mem hx)) (by
    have h1 := sortUpto_length st a
    have h3 : a * st.length ≤ 999 * 999 := Nat.mul_le_mul (by omega) (by have := HN.out; omega)
    omega) hw2 hM)
   go_wp2_with (go_at_call 93; (with_reducible refine HSV.out.mono ?_); rintro e w2 ⟨v, rfl, hR, hb2⟩; have HR := Aside0.mk hR; have HB2 := Aside0.mk hb2; clear hR hb2)
   go_ret
   exact ⟨_, rfl, Kd.R_lower HR.out HB.out.size, below_step HB.out HB2.out⟩


/-! ### code_Decode: function 28 -/
def sizesOk (mask size : Nat) (pieces : List ByteArray) : Bool := (List.range pieces.length).all fun k => decide ((mask >>> k) % 2 = 0) || decide ((rdOf ByteArray.empty pieces (k : Int)).size = size)
def agree (mask : Nat) (again pieces : List ByteArray) : Bool := (List.range pieces.length).all fun k => decide ((mask >>> k) % 2 = 0) || decide (rdOf ByteArray.empty again (k : Int) = rdOf ByteArray.empty pieces (k : Int))
def bounded (pieces : List ByteArray) : Bool := pieces.all fun s => decide (s.size ≤ 100000)
def joined (l : List ByteArray) : List Int := l.flatMap bytesOf
def fullOf (rows : List (List Int)) (st : St) : List Int := joined (solveRev (rowWidth rows) (sortSt (rowWidth rows) st))
def decodeWith (k : Nat) (a0_0 : Int) (l0_1 : List (List Int)) (a0_2 : Int) (rows : List (List Int)) (n mask : Nat) (pieces : List ByteArray) : Option St → Option (ByteArray × Int)
  | none => some (⟨#[]⟩, 17)
  | some st => if n ≤ (fullOf rows st).length then (code_Encode.f k a0_0 l0_1 a0_2 (strOfNums ((fullOf rows st).take n))).bind fun again =>
      if again.1.length = pieces.length then (if agree mask again.1 pieces = true then some (strOfNums ((fullOf rows st).take n), 0) else some (⟨#[]⟩, 14)) else none else none
def code_Decode.f (k : Nat) (a0_0 : Int) (l0_1 : List (List Int)) (a0_2 : Int) (a1 a2 : Int) (l3 : List ByteArray) : Option (ByteArray × Int) :=
  (code_Rows.f k a0_0 l0_1 a0_2).bind fun r => if r.2 = 0 then
    (if okRows r.1 = true ∧ 0 < r.1.length then if a1 < 0 ∨ 4096 < a1 ∨ a2 < 0 ∨ (2 : Int) ^ r.1.length ≤ a2 ∨ l3.length ≠ r.1.length then some (⟨#[]⟩, 1)
     else if bounded l3 = true then
       (code_Size.f k a0_0 l0_1 a0_2 a1).bind fun size => if 0 ≤ size ∧ size ≤ 4096 then (if sizesOk a2.toNat size.toNat l3 = true then decodeWith k a0_0 l0_1 a0_2 r.1 a1.toNat a2.toNat l3 (collectOk r.1 a2 l3) else some (⟨#[]⟩, 1)) else none
     else none else none)
  else some (⟨#[]⟩, r.2)
theorem ba_loop (bs : ByteArray) : ∀ (d i : Nat) (r : List UInt8), i + d = bs.size → ByteArray.toList.loop bs i r = r.reverse ++ bs.data.toList.drop i
  | 0, i, r, h => by
    unfold ByteArray.toList.loop
    rw [if_neg (by omega), List.drop_of_length_le (by rw [Array.length_toList]; show bs.size ≤ i; omega), List.append_nil]
  | d + 1, i, r, h => by
    have hi : i < bs.data.toList.length := by rw [Array.length_toList]; show i < bs.size; omega
    unfold ByteArray.toList.loop
    rw [if_pos (by omega), ba_loop bs d (i + 1) _ (by omega), List.drop_eq_getElem_cons hi, List.reverse_cons, List.append_assoc]
    have hg : bs.get! i = bs.data.toList[i] := by
      obtain ⟨a⟩ := bs
      have h2 : i < a.size := by simpa using hi
      show a[i]! = _
      simp [getElem!_pos a i h2]
    rw [hg]
    rfl
theorem ba_toList (bs : ByteArray) : bs.toList = bs.data.toList := by
  have := ba_loop bs bs.size 0 [] (by omega)
  simpa [ByteArray.toList] using this
theorem ba_inj {a b : ByteArray} : a.toList = b.toList ↔ a = b := by
  rw [ba_toList, ba_toList]
  constructor
  · intro h
    exact ByteArray.ext (Array.toList_inj.1 h)
  · rintro rfl; rfl
theorem sizesOk_iff {mask size : Nat} {pieces : List ByteArray} : sizesOk mask size pieces = true ↔ ∀ k, k < pieces.length → (mask >>> k) % 2 = 1 → (rdOf ByteArray.empty pieces (k : Int)).size = size := by
  simp only [sizesOk, List.all_eq_true, List.mem_range, Bool.or_eq_true, decide_eq_true_eq]
  exact ⟨fun h k hk hb => (h k hk).resolve_left (by omega), fun h k hk => by by_cases hb : (mask >>> k) % 2 = 1; exact .inr (h k hk hb); exact .inl (by omega)⟩
theorem agree_iff {mask : Nat} {again pieces : List ByteArray} : agree mask again pieces = true ↔ ∀ k, k < pieces.length → (mask >>> k) % 2 = 1 → rdOf ByteArray.empty again (k : Int) = rdOf ByteArray.empty pieces (k : Int) := by
  simp only [agree, List.all_eq_true, List.mem_range, Bool.or_eq_true, decide_eq_true_eq]
  exact ⟨fun h k hk hb => (h k hk).resolve_left (by omega), fun h k hk => by by_cases hb : (mask >>> k) % 2 = 1; exact .inr (h k hk hb); exact .inl (by omega)⟩
theorem bounded_rd {pieces : List ByteArray} (h : bounded pieces = true) (k : Nat) : (rdOf ByteArray.empty pieces (k : Int)).size ≤ 100000 := by
  have h : AllLe 100000 pieces := fun s hs => of_decide_eq_true (List.all_eq_true.1 h s hs)
  exact h.rd k
theorem bit_eq (mask j : Nat) (hm : mask < 2 ^ 24) : Go.bits .and .i64 ((mask : Int) / 2 ^ j) 1 = ((mask >>> j % 2 : Nat) : Int) := by
  rw [show ((mask : Int) / 2 ^ j) = ((mask >>> j : Nat) : Int) by rw [Nat.shiftRight_eq_div_pow]; simp, i64_and1 _ (by have := Nat.shiftRight_le mask j; omega)]
theorem collectOk_wf {M : Nat} {rows : List (List Int)} {mask : Int} {pieces : List ByteArray} {st : St} (hwf : ∀ k, k < rows.length → WfRow (rowWidth rows) M (rd_L4 rows (k : Int), rdOf ByteArray.empty pieces (k : Int))) (h : collectOk rows mask pieces = some st) : WfSt (rowWidth rows) M st ∧ st.length ≤ rowWidth rows := by
  unfold collectOk at h
  split at h
  · cases h
  · split at h
    · cases h
    · obtain rfl := Option.some.inj h
      exact ⟨collectUpto_wf hwf _ (Nat.le_refl _), collectUpto_length _ _ _ _ _⟩
theorem joined_snoc (l : List ByteArray) (s : ByteArray) : joined (l ++ [s]) = joined l ++ bytesOf s := by simp [joined]
theorem joined_length {M : Nat} : ∀ {l : List ByteArray}, AllLe M l → (joined l).length ≤ l.length * M
  | [], _ => Nat.zero_le _
  | a :: l, h => by
    have ih := joined_length (l := l) (fun s hs => h s (List.mem_cons_of_mem _ hs))
    have ha := h a (List.mem_cons_self)
    show (bytesOf a ++ joined l).length ≤ _
    rw [List.length_append, bytesOf_length, List.length_cons, Nat.succ_mul]
    omega
set_option maxHeartbeats 4000000 in
set_option maxRecDepth 100000 in
theorem code_Decode.calls (k : Nat) (a0_0 : Int) (A0_1 : Option Addr) (c0_1 : Nat) (l0_1 : List (List Int)) (a0_2 : Int) (a1 a2 : Int) (A3 : Option Addr) (c3 : Nat) (l3 : List ByteArray) (r1 : ByteArray) (r2 : Int) (w : World) (hG : HG w) (hr0_1 : Kd.C (Kd.slice 3 (Kd.int .i64)) w A0_1 l0_1.length l0_1) (hc0_1 : l0_1.length ≤ c0_1) (hr3 : Kd.C Kd.string w A3 l3.length l3) (hc3 : l3.length ≤ c3) (h : code_Decode.f k a0_0 l0_1 a0_2 a1 a2 l3 = some (r1, r2)) :
    Calls Tryd.prog 28 #[.agg #[.int .i64 a0_0, .slice A0_1 l0_1.length c0_1, .int .i64 a0_2], .int .i64 a1, .int .i64 a2, .slice A3 l3.length c3] w fun e w' => e = .returned (.tuple #[.string r1, .int .i64 r2]) ∧ Below w.heap.size w w' := by
  obtain ⟨⟨rows, e0⟩, hrows, h2⟩ := Option.bind_eq_some_iff.1 h
  have HRW := Aside0.mk (fun W (hb : Below w.heap.size w W) => code_Rows.calls k a0_0 A0_1 c0_1 l0_1 a0_2 rows e0 W (hG.below hb) (Kd.C_below hr0_1 hb) hc0_1 hrows)
  have hu24 := Tryd.underlying24
  clear hrows h
  by_cases he0 : e0 = 0
  · subst he0
    rw [if_pos rfl] at h2
    dsimp only at h2
    by_cases hok : okRows rows = true ∧ 0 < rows.length
    · rw [if_pos hok] at h2
      obtain ⟨hok, hpos⟩ := hok
      obtain ⟨h3, h4, h5, h6⟩ := okRows_iff hok
      have hw1 : wrap64 ((2 : Int) ^ rows.length) = 2 ^ rows.length := by
        have h1 : 2 ^ rows.length ≤ 2 ^ 24 := Nat.pow_le_pow_right (by decide) h3
        have h2 : ((2 : Int) ^ rows.length) = ((2 ^ rows.length : Nat) : Int) := by simp
        rw [h2]
        generalize 2 ^ rows.length = z at h1
        unfold wrap64; omega
      by_cases hbad : a1 < 0 ∨ 4096 < a1 ∨ a2 < 0 ∨ (2 : Int) ^ rows.length ≤ a2 ∨ l3.length ≠ rows.length
      · rw [if_pos hbad] at h2
        obtain ⟨rfl, rfl⟩ := Prod.mk.inj (Option.some.inj h2)
        clear h2 hr0_1 hG hr3
        by_cases b1 : a1 < 0
        · clear hw1 hbad
          go_enter Tryd.func28, Tryd.ntmps28
          go_wp2_with (go_at_call 17; (with_reducible refine (HRW.out _ (by repeat (first | exact Below.refl _ _ | apply below_alloc))).mono ?_); rintro e w1 ⟨v0, rfl, hS, hb1⟩; obtain ⟨Ar, cr, rfl, hcr, hCr⟩ := Kd.S_reads hS; have HB1 := Aside0.mk (below_step (below_alloc (Below.refl w.heap.size w) _) hb1); clear hb1 hS hCr)
          go_ret2
          exact ⟨rfl, HB1.out⟩
        · by_cases b2 : 4096 < a1
          · clear hw1 hbad
            go_enter Tryd.func28, Tryd.ntmps28
            go_wp2_with (go_at_call 17; (with_reducible refine (HRW.out _ (by repeat (first | exact Below.refl _ _ | apply below_alloc))).mono ?_); rintro e w1 ⟨v0, rfl, hS, hb1⟩; obtain ⟨Ar, cr, rfl, hcr, hCr⟩ := Kd.S_reads hS; have HB1 := Aside0.mk (below_step (below_alloc (Below.refl w.heap.size w) _) hb1); clear hb1 hS hCr)
            go_ret2
            exact ⟨rfl, HB1.out⟩
          · by_cases b3 : a2 < 0
            · clear hw1 hbad
              go_enter Tryd.func28, Tryd.ntmps28
              go_wp2_with (go_at_call 17; (with_reducible refine (HRW.out _ (by repeat (first | exact Below.refl _ _ | apply below_alloc))).mono ?_); rintro e w1 ⟨v0, rfl, hS, hb1⟩; obtain ⟨Ar, cr, rfl, hcr, hCr⟩ := Kd.S_reads hS; have HB1 := Aside0.mk (below_step (below_alloc (Below.refl w.heap.size w) _) hb1); clear hb1 hS hCr)
              go_ret2
              exact ⟨rfl, HB1.out⟩
            · by_cases b4 : (2 : Int) ^ rows.length ≤ a2
              · have hb1 : decide (wrap64 ((2 : Int) ^ rows.length) ≤ a2) = true := decide_eq_true (by rw [hw1]; exact b4)
                clear hw1 hbad b4
                go_enter Tryd.func28, Tryd.ntmps28
                go_wp2_with (go_at_call 17; (with_reducible refine (HRW.out _ (by repeat (first | exact Below.refl _ _ | apply below_alloc))).mono ?_); rintro e w1 ⟨v0, rfl, hS, hb1⟩; obtain ⟨Ar, cr, rfl, hcr, hCr⟩ := Kd.S_reads hS; have HB1 := Aside0.mk (below_step (below_alloc (Below.refl w.heap.size w) _) hb1); clear hb1 hS hCr)
                go_ret2
                exact ⟨rfl, HB1.out⟩
              · have hb1 : decide (wrap64 ((2 : Int) ^ rows.length) ≤ a2) = false := decide_eq_false (by rw [hw1]; exact b4)
                have b5 : l3.length ≠ rows.length := by
                  rcases hbad with h | h | h | h | h
                  · exact absurd h b1
                  · exact absurd h b2
                  · exact absurd h b3
                  · exact absurd h b4
                  · exact h
                have hb2 : ((l3.length : Int) == (rows.length : Int)) = false := beq_eq_false_iff_ne.2 (by omega)
                have hb3 : (l3.length == rows.length) = false := beq_eq_false_iff_ne.2 b5
                have hb4 : ((l3.length : Int) != (rows.length : Int)) = true := bne_iff_ne.2 (by omega)
                clear hw1 hbad b4
                go_enter Tryd.func28, Tryd.ntmps28
                go_wp2_with (go_at_call 17; (with_reducible refine (HRW.out _ (by repeat (first | exact Below.refl _ _ | apply below_alloc))).mono ?_); rintro e w1 ⟨v0, rfl, hS, hb1⟩; obtain ⟨Ar, cr, rfl, hcr, hCr⟩ := Kd.S_reads hS; have HB1 := Aside0.mk (below_step (below_alloc (Below.refl w.heap.size w) _) hb1); clear hb1 hS hCr)
                go_ret2
                exact ⟨rfl, HB1.out⟩
      · rw [if_neg hbad] at h2
        have b1 : 0 ≤ a1 := by omega
        have b2 : a1 ≤ 4096 := by omega
        have b3 : 0 ≤ a2 := by omega
        have b5 : l3.length = rows.length := by omega
        have b4 : ¬ (2 : Int) ^ rows.length ≤ a2 := fun h => hbad (.inr (.inr (.inr (.inl h))))
        have hb1 : decide (wrap64 ((2 : Int) ^ rows.length) ≤ a2) = false := decide_eq_false (by rw [hw1]; exact b4)
        clear hw1 hbad
        by_cases hbd : bounded l3 = true
        · rw [if_pos hbd] at h2
          obtain ⟨size0, hsz, h7⟩ := Option.bind_eq_some_iff.1 h2
          by_cases hsp : 0 ≤ size0 ∧ size0 ≤ 4096
          · rw [if_pos hsp] at h7
            obtain ⟨n, rfl⟩ := Int.eq_ofNat_of_zero_le b1
            obtain ⟨mask, rfl⟩ := Int.eq_ofNat_of_zero_le b3
            obtain ⟨size, rfl⟩ := Int.eq_ofNat_of_zero_le hsp.1
            simp only [Int.toNat_natCast] at h7
            have HSZ := Aside0.mk (fun W (hb : Below w.heap.size w W) => code_Size.calls k a0_0 A0_1 c0_1 l0_1 a0_2 (n : Int) (size : Int) W (hG.below hb) (Kd.C_below hr0_1 hb) hc0_1 hsz)
            have hmk : mask < 2 ^ 24 := by
              have h1 : 2 ^ rows.length ≤ 2 ^ 24 := Nat.pow_le_pow_right (by decide) h3
              have h2 : ((2 : Int) ^ rows.length) = ((2 ^ rows.length : Nat) : Int) := by simp
              rw [h2] at b4
              omega
            have hsz4 : size ≤ 4096 := by omega
            have HH := Aside0.mk h7
            have HP3 := Aside0.mk (show ∀ W, Below w.heap.size w W → Kd.string.C W A3 rows.length l3 from fun W hb => by rw [← b5]; exact Kd.C_below hr3 hb)
            have HGw := Aside0.mk hG
            have HCE := Aside0.mk (fun W (hb : Below w.heap.size w W) => Kd.C_below hr0_1 hb)
            have HBD := Aside0.mk hbd
            have H6 := Aside0.mk h6
            have HB5 := Aside0.mk b5
            have hc3' : rows.length ≤ c3 := by omega
            have hbn : ((rows.length : Int) == (rows.length : Int)) = true := beq_self_eq_true _
            have hbm : ((rows.length : Int) != (rows.length : Int)) = false := by simp
            rw [b5]
            clear h7 h2 hr3 hG hr0_1 hok hsp hsz b4 b1 b3 hbd h6 b5 hc3
            go_enter Tryd.func28, Tryd.ntmps28
            go_wp2_with (first | (go_at_call 17; (with_reducible refine (HRW.out _ (by repeat (first | exact Below.refl _ _ | apply below_alloc))).mono ?_); rintro e w1 ⟨v0, rfl, hS, hb1⟩; obtain ⟨Ar, cr, rfl, hcr, hCr⟩ := Kd.S_reads hS; have HCR := Aside0.mk hCr; have hbc : w1.heap[w.heap.size]? = some (.cells #[.int .i64 a0_0, .slice A0_1 l0_1.length c0_1, .int .i64 a0_2] 24 (0, 0)) := blk_below (blk_new w _) hb1; have HBC := Aside0.mk hbc; have HB1 := Aside0.mk (below_step (below_alloc (Below.refl w.heap.size w) _) hb1); have hcz0 : w1.cell? ⟨w.heap.size, 0, none⟩ = some (.int .i64 a0_0) := blk_cell hbc 0; have hcz1 : w1.cell? ⟨w.heap.size, 1, none⟩ = some (.slice A0_1 l0_1.length c0_1) := blk_cell hbc 1; have hcz2 : w1.cell? ⟨w.heap.size, 2, none⟩ = some (.int .i64 a0_2) := blk_cell hbc 2; have hlt1 : w.heap.size < w1.heap.size := blk_lt hbc; clear hbc hb1 hS hCr) | (go_at_call 23; (with_reducible refine (HSZ.out _ HB1.out).mono ?_); rintro e w2 ⟨rfl, hb2⟩; have HBC2 := Aside0.mk (blk_below HBC.out hb2); have HCR2 := Aside0.mk (Kd.C_below HCR.out hb2); have HB2 := Aside0.mk (below_step HB1.out hb2); clear hb2))
            clear hcz0 hcz1 hcz2
            go_loop [60] (fun v => ∃ j : Nat, j ≤ rows.length ∧ v = .int .i64 (j : Int) ∧ Aside0 (∀ i, i < j → (mask >>> i) % 2 = 1 → (rdOf ByteArray.empty l3 (i : Int)).size = size)) (fun v => rows.length - (intOf v).toNat)
            case atStart => exact ⟨0, Nat.zero_le _, rfl, ⟨fun i hi => absurd hi (Nat.not_lt_zero i)⟩⟩
            case round =>
              obtain ⟨j, hj, rfl, HA⟩ := hrel
              by_cases hlt : j < rows.length
              · obtain ⟨ad3, rfl, hx⟩ := at_string_nat (HP3.out _ HB2.out) j hlt
                have hB1 := bit_eq mask j hmk
                have hm2 : (mask >>> j) % 2 < 2 := Nat.mod_lt _ (by decide)
                generalize hpt : rdOf ByteArray.empty l3 (j : Int) = pt at hx
                generalize hbt : (mask >>> j) % 2 = bit at hB1 hm2
                have HPT := Aside0.mk hpt
                have HBT := Aside0.mk hbt
                clear hpt hbt
                by_cases hbit : bit = 1
                · subst hbit
                  by_cases hsw : pt.size = size
                  · subst hsw
                    have hz1 : ((pt.size : Int) != (pt.size : Int)) = false := by simp
                    go_wp2
                    go_round
                    case rel => exact ⟨j + 1, by omega, by go_num, ⟨fun i hi hb => by
                      rcases Nat.lt_or_eq_of_le (Nat.le_of_lt_succ hi) with hi | rfl
                      · exact HA.out i hi hb
                      · rw [HPT.out]⟩⟩
                    case measure => simp [intOf]; omega
                  · have hz1 : ((pt.size : Int) == (size : Int)) = false := beq_eq_false_iff_ne.2 (by omega)
                    have hz2 : (pt.size == size) = false := beq_eq_false_iff_ne.2 hsw
                    have hz3 : ((pt.size : Int) != (size : Int)) = true := bne_iff_ne.2 (by omega)
                    have hns : ¬ sizesOk mask size l3 = true := fun h => hsw (by rw [← HPT.out]; exact sizesOk_iff.1 h j (by rw [HB5.out]; exact hlt) HBT.out)
                    have h7 := HH.out
                    rw [if_neg hns] at h7
                    obtain ⟨rfl, rfl⟩ := Prod.mk.inj (Option.some.inj h7)
                    clear h7 hns HH
                    go_wp2
                    go_ret2
                    exact ⟨rfl, HB2.out⟩
                · obtain rfl : bit = 0 := by omega
                  go_wp2
                  go_round
                  case rel => exact ⟨j + 1, by omega, by go_num, ⟨fun i hi hb => by
                    rcases Nat.lt_or_eq_of_le (Nat.le_of_lt_succ hi) with hi | rfl
                    · exact HA.out i hi hb
                    · have := HBT.out; omega⟩⟩
                  case measure => simp [intOf]; omega
              · obtain rfl : j = rows.length := by omega
                have hso : sizesOk mask size l3 = true := sizesOk_iff.2 (by rw [HB5.out]; exact HA.out)
                have h7 := HH.out
                rw [if_pos hso] at h7
                have HWF := Aside0.mk (show ∀ k, k < rows.length → WfRow (rowWidth rows) 100000 (rd_L4 rows (k : Int), rdOf ByteArray.empty l3 (k : Int)) from fun k hk => ⟨(H6.out k hk).1, (H6.out k hk).2, bounded_rd HBD.out k⟩)
                have HCO := Aside0.mk (show Calls Tryd.prog 67 #[.slice Ar rows.length cr, .int .i64 (mask : Int), .slice A3 rows.length c3] w2 fun e w' => Below w2.heap.size w2 w' ∧ ((collectOk rows mask l3 = none ∧ e = .returned (.pointer none)) ∨ ∃ gs st, collectOk rows mask l3 = some st ∧ e = .returned (.pointer (some ⟨gs, 0, none⟩)) ∧ StairsAt gs w2.heap.size (rowWidth rows) w' st) from by
                  have hA : A3.isSome = true := by
                    obtain ⟨ad, e, _⟩ := at_string_nat (HP3.out _ HB2.out) 0 hpos
                    rw [e]; rfl
                  have h8 := code_collect.calls 100000 w2 Ar cr rows (mask : Int) A3 c3 l3 (HGw.out.below HB2.out) HCR2.out hcr h3 h4 h5 (by decide) (by rw [HB5.out]; exact HP3.out _ HB2.out) (by rw [HB5.out]; exact hc3') (.inr ⟨hA, Nat.le_of_eq HB5.out.symm⟩) HWF.out
                  rw [HB5.out] at h8
                  exact h8)
                clear HH hso
                cases hco : collectOk rows (mask : Int) l3 with
                | none =>
                  rw [hco] at h7 HCO
                  obtain ⟨rfl, rfl⟩ := Prod.mk.inj (Option.some.inj h7)
                  clear h7 hco
                  have hup := Tryd.underlying96
                  go_wp2_with (go_at_call 67; (with_reducible refine HCO.out.mono ?_); rintro e w3 ⟨hb3, hor⟩; have HB3 := Aside0.mk (below_step HB2.out hb3); clear hb3; rcases hor with ⟨_, rfl⟩ | ⟨gs, st, hn, _⟩; (rotate_left; exact absurd hn (by simp)))
                  go_ret2
                  exact ⟨rfl, HB3.out⟩
                | some st =>
                  have hcw := collectOk_wf HWF.out hco
                  rw [hco] at h7 HCO
                  clear hco
                  unfold decodeWith at h7
                  dsimp only at h7
                  by_cases hnf : n ≤ (fullOf rows st).length
                  · rw [if_pos hnf] at h7
                    obtain ⟨⟨again, e1⟩, hen, h8⟩ := Option.bind_eq_some_iff.1 h7
                    dsimp only at h8
                    by_cases hal : again.length = l3.length
                    · rw [if_pos hal] at h8
                      obtain ⟨hcw1, hcw2⟩ := hcw
                      have hD := solveRev_le (M := 100000) (width := rowWidth rows) (l := sortSt (rowWidth rows) st) (fun x hx => (hcw1 x (sortUpto_mem hx)).1.2.2)
                      have hDl := solveRev_length (rowWidth rows) (sortSt (rowWidth rows) st)
                      have hfu : fullOf rows st = joined (solveRev (rowWidth rows) (sortSt (rowWidth rows) st)) := rfl
                      have HSO := Aside0.mk (fun gs W (hb : Below w.heap.size w W) (hS : StairsRd gs (rowWidth rows) W st) => code_stairs_sorted.calls gs (rowWidth rows) 100000 W st (HGw.out.below hb) hS hcw1 (by omega) (by omega) (by decide))
                      generalize solveRev (rowWidth rows) (sortSt (rowWidth rows) st) = D at hD hDl hfu HSO
                      generalize hF : fullOf rows st = full at hnf hen h8 hfu
                      have HEN := Aside0.mk (fun W (hb : Below w.heap.size w W) => code_Encode.calls k a0_0 A0_1 c0_1 l0_1 a0_2 (strOfNums (full.take n)) again e1 W (HGw.out.below hb) (HCE.out W hb) hc0_1 hen)
                      have H8 := Aside0.mk h8
                      have HD := Aside0.mk hD
                      have HDL := Aside0.mk hDl
                      have HFU := Aside0.mk hfu
                      have HAL := Aside0.mk (hal.trans HB5.out)
                      have hup := Tryd.underlying96
                      have hDw : D.length ≤ 16 := by omega
                      clear h7 h8 hen hal hcw1 hcw2 hD hDl hfu hF
                      go_wp2_with (first | (go_at_call 67; (with_reducible refine HCO.out.mono ?_); rintro e w3 ⟨hb3, hor⟩; rcases hor with ⟨hn, _⟩ | ⟨gs, st2, hn, rfl, hS⟩; (exact absurd hn (by simp)); obtain rfl := Option.some.inj hn; have HBC3 := Aside0.mk (blk_below HBC2.out hb3); have HB3 := Aside0.mk (below_step HB2.out hb3); have HS := Aside0.mk hS.rd; clear hb3 hn hS) | (go_at_call 68; (with_reducible refine (HSO.out gs w3 HB3.out HS.out).mono ?_); rintro e w4 ⟨v4, rfl, hR4, hb4⟩; obtain ⟨A4, c4, rfl, hc4, hC4⟩ := Kd.R_reads hR4; have HC4 := Aside0.mk hC4; have HBC4 := Aside0.mk (blk_below HBC3.out hb4); have HB4 := Aside0.mk (below_step HB3.out hb4); clear hb4 hR4 hC4))
                      have hi5 : (Tryd.prog.info? 5).map (·.size) = some 1 := by
                        have := congrArg (Option.map (fun x : Option Value × Nat × Nat => x.2.1)) info5
                        rw [Option.map_map] at this
                        exact this
                      obtain ⟨i5, hi5a, _⟩ := Option.map_eq_some_iff.1 hi5
                      have HI5 := Aside0.mk hi5a
                      clear hi5 hi5a
                      go_loopw [16, 86] (fun v x W => ∃ m : Nat, m ≤ D.length ∧ x = .int .i64 (m : Int) ∧ Aside0 ((Kd.int .u8).R 5 W w4.heap.size (fun _ => True) v (joined (D.take m))) ∧ Aside0 (Below w4.heap.size w4 W)) (fun _ x _ => D.length - (intOf x).toNat)
                      case atStart => exact ⟨0, Nat.zero_le _, rfl, ⟨by rw [List.take_zero]; exact Kd.R_nil _ _ _ _ _⟩, ⟨Below.refl _ _⟩⟩
                      case round =>
                        obtain ⟨m, hm, rfl, HR, HB⟩ := hrel
                        by_cases hltm : m < D.length
                        · obtain ⟨ad4, rfl, hx4⟩ := at_string_nat (Kd.C_below HC4.out HB.out) m hltm
                          have HJ := Aside0.mk (show joined (D.take (m + 1)) = joined (D.take m) ++ bytesOf (rdOf ByteArray.empty D (m : Int)) by
                            rw [List.take_succ_eq_append_getElem hltm, joined_snoc]
                            simp [rdOf, List.getD_eq_getElem?_getD, List.getElem?_eq_getElem hltm])
                          have hsz := HD.out.rd m
                          have hjl := joined_length (M := 100000) (l := D.take m) (fun s hs => HD.out s (List.mem_of_mem_take hs))
                          have hjl2 : (D.take m).length * 100000 ≤ 16 * 100000 := Nat.mul_le_mul_right _ (by rw [List.length_take]; omega)
                          generalize rdOf ByteArray.empty D (m : Int) = s4 at hx4 HJ hsz
                          have HJL := Aside0.mk (show (joined (D.take m)).length + s4.size ≤ 140737488355328 by omega)
                          clear hjl hjl2
                          go_wp2_with (at_builtin; refine print_append_str (w0 := w4) w4.heap.size rfl (.tmp 90) (.tmp 91) 57 9 5 rfl Tryd.underlying57 Tryd.underlying9 info5 u16 (joined (D.take m)) s4 rfl rfl ?oO ?oB ?oS ?oL ?_; (case oO => exact Kd.own_of_R HR.out); (case oB => exact HB.out); (case oS => exact HB.out.size); (case oL => exact HJL.out); intro v5 w5 ho hb hg; have HO5 := Aside0.mk ho; have HB5' := Aside0.mk hb; clear ho hb hg)
                          go_roundw
                          case rel => exact ⟨m + 1, by omega, by go_num, ⟨by rw [HJ.out]; exact Kd.R_of_own HO5.out (fun _ _ => trivial)⟩, HB5'⟩
                          case measure => simp [intOf]; omega
                        · obtain rfl : m = D.length := by omega
                          have hR := HR.out
                          rw [List.take_length, ← HFU.out] at hR
                          obtain ⟨Af, cf, rfl, hcf, hCf⟩ := Kd.R_reads hR
                          have hcut := cut_to (P := Tryd.prog) 57 5 .i64 Tryd.underlying57 HI5.out Af full.length cf (n : Int) (by omega) (by omega) hcf
                          rw [Int.toNat_natCast] at hcut
                          have hC := Kd.C_take (m := n) hCf hnf
                          have hcv := Kd.C_string (P := Tryd.prog) (c := cf) Tryd.underlying57 Tryd.underlying5 Tryd.underlying9 hC
                          rw [List.length_take, Nat.min_eq_left hnf] at hcv
                          have HBx := Aside0.mk (below_step HB4.out HB.out)
                          have hbc := blk_below HBC4.out HB.out
                          have hcz0 : wr.cell? ⟨w.heap.size, 0, none⟩ = some (.int .i64 a0_0) := blk_cell hbc 0
                          have hcz1 : wr.cell? ⟨w.heap.size, 1, none⟩ = some (.slice A0_1 l0_1.length c0_1) := blk_cell hbc 1
                          have hcz2 : wr.cell? ⟨w.heap.size, 2, none⟩ = some (.int .i64 a0_2) := blk_cell hbc 2
                          clear hR hC
                          have hcv1 : (convert 57 9 (.slice Af n cf)).run Tryd.prog wr.drew = .ok (.string (strOfNums (full.take n))) wr.drew := by
                            have hC := Kd.C_below (Kd.C_take (m := n) hCf hnf) (below_drew (Below.refl _ _))
                            have hcv := Kd.C_string (P := Tryd.prog) (c := cf) Tryd.underlying57 Tryd.underlying5 Tryd.underlying9 hC
                            rwa [List.length_take, Nat.min_eq_left hnf] at hcv
                          have HCF := Aside0.mk hCf
                          have HBd := Aside0.mk (below_drew HBx.out)
                          have hbcd := blk_drew hbc
                          have hcy0 : wr.drew.cell? ⟨w.heap.size, 0, none⟩ = some (.int .i64 a0_0) := blk_cell hbcd 0
                          have hcy1 : wr.drew.cell? ⟨w.heap.size, 1, none⟩ = some (.slice A0_1 l0_1.length c0_1) := blk_cell hbcd 1
                          have hcy2 : wr.drew.cell? ⟨w.heap.size, 2, none⟩ = some (.int .i64 a0_2) := blk_cell hbcd 2
                          clear hbc hbcd hCf hcv
                          go_wp2
                          have CV6 := Aside0.mk (show ∀ W, Below wr.drew.heap.size wr.drew W → (convert 57 9 (.slice Af n cf)).run Tryd.prog W = .ok (.string (strOfNums (full.take n))) W from fun W hb => by
                            have hC := Kd.C_below (Kd.C_take (m := n) HCF.out hnf) (below_step (below_drew (Below.refl _ _)) hb)
                            have hcv := Kd.C_string (P := Tryd.prog) (c := cf) Tryd.underlying57 Tryd.underlying5 Tryd.underlying9 hC
                            rwa [List.length_take, Nat.min_eq_left hnf] at hcv)
                          refine start_ (n := 11) (S := fun w' => w'.cell? ⟨w.heap.size, 0, none⟩ = some (.int .i64 a0_0) ∧ w'.cell? ⟨w.heap.size, 1, none⟩ = some (.slice A0_1 l0_1.length c0_1) ∧ w'.cell? ⟨w.heap.size, 2, none⟩ = some (.int .i64 a0_2)) (ds := []) #[false, false, false, false, false, false, false, false, false, false, false] (by kernel_rfl) rfl rfl ⟨hcy0, hcy1, hcy2⟩ (fun hHeld => ?_)
                          generalize wr.drew = wd at *
                          refine pure_ (i := 1) (N := some 96) (v := ?_) (a' := ?_) #[false, true, false, false, false, false, false, false, false, false, false] rfl rfl (by kernel_rfl) (fun _ _ _ h => h) (Or.inl ⟨by rfl, ?_⟩) ?_ ?_
                          rotate_left
                          · intro w'
                            go_simp
                            with_reducible rfl
                          rotate_left
                          · simp only [Act.put, List.setIfInBounds_toArray, List.set_cons_zero, List.set_cons_succ, i64_w, i32_w]
                            rfl
                          refine pure_ (i := 2) (N := some 97) (v := ?_) (a' := ?_) #[false, true, true, false, false, false, false, false, false, false, false] rfl rfl (by kernel_rfl) (fun _ _ _ h => h) (Or.inl ⟨by rfl, ?_⟩) ?_ ?_
                          rotate_left
                          · intro w'
                            go_simp
                            with_reducible rfl
                          rotate_left
                          · simp only [Act.put, List.setIfInBounds_toArray, List.set_cons_zero, List.set_cons_succ, i64_w, i32_w]
                            rfl
                          refine pure_ (i := 3) (N := some 98) (v := ?_) (a' := ?_) #[false, true, true, true, false, false, false, false, false, false, false] rfl rfl (by kernel_rfl) (fun _ _ _ h => h) (Or.inl ⟨by rfl, ?_⟩) ?_ ?_
                          rotate_left
                          · intro w'
                            go_simp
                            with_reducible rfl
                          rotate_left
                          · simp only [Act.put, List.setIfInBounds_toArray, List.set_cons_zero, List.set_cons_succ, i64_w, i32_w]
                            rfl
                          refine take_ (i := 0) (N := some 95) (v := ?_) (a' := ?_) #[true, true, true, true, false, false, false, false, false, false, false] rfl rfl (by kernel_rfl) (fun _ _ _ h => h) (Or.inl ⟨by rfl, ?_⟩) hHeld ?_ ?_
                          rotate_left
                          · rintro w' ⟨s0, s1, s2⟩
                            go_simp
                            with_reducible rfl
                          rotate_left
                          · simp only [Act.put, List.setIfInBounds_toArray, List.set_cons_zero, List.set_cons_succ, i64_w, i32_w]
                            rfl
                          refine one_ (i := 4) (N := some 99) #[true, true, true, true, true, false, false, false, false, false, false] rfl rfl (by kernel_rfl) (by decide) (fun K hK => ?_)
                          refine value_ (w1 := ?_) (v := ?_) (by rfl) rfl ?_ ?_
                          rotate_left 2
                          · go_simp
                            constructor
                            · rfl
                            · rfl
                          refine hK.out _ _ ⟨hcy0, hcy1, hcy2⟩ (fun hHeld => ?_)
                          clear hK K
                          refine norm_ (a' := ?_) ?_ ?_
                          rotate_left
                          · show Act.put _ (some 99) _ = _
                            simp only [Act.put, List.setIfInBounds_toArray, List.set_cons_zero, List.set_cons_succ, i64_w, i32_w]
                            rfl
                          refine one_ (i := 5) (N := some 100) #[true, true, true, true, true, true, false, false, false, false, false] rfl rfl (by kernel_rfl) (by decide) (fun K hK => ?_)
                          refine goes_ Tryd.func18 (by kernel_rfl) rfl #[.agg #[.int .i64 a0_0, .slice A0_1 l0_1.length c0_1, .int .i64 a0_2], .string (strOfNums (full.take n))] (by rfl) rfl rfl (by simp only [List.map_toArray, List.map_cons, List.map_nil]; rfl) ?_
                          with_reducible refine (HEN.out _ HBd.out).mono ?_
                          rintro e w6 ⟨v6, rfl, hR6, hb6⟩
                          refine ⟨_, rfl, ?_⟩
                          obtain ⟨A6, c6, rfl, hc6, hC6⟩ := Kd.R_reads hR6
                          have HC6 := Aside0.mk hC6
                          have HB6 := Aside0.mk (below_step HBd.out hb6)
                          have HB6x := Aside0.mk hb6
                          have hcv6 : (convert 57 9 (.slice Af n cf)).run Tryd.prog w6 = .ok (.string (strOfNums (full.take n))) w6 := CV6.out w6 hb6
                          clear hR6 hb6 hC6
                          refine hK.out _ _ ⟨pw_cell_below HB6x.out hcy0, pw_cell_below HB6x.out hcy1, pw_cell_below HB6x.out hcy2⟩ (fun hHeld => ?_)
                          clear hK K
                          refine norm_ (a' := ?_) ?_ ?_
                          rotate_left
                          · show Act.put _ (some 100) _ = _
                            simp only [Act.put, List.setIfInBounds_toArray, List.set_cons_zero, List.set_cons_succ, i64_w, i32_w]
                            rfl
                          refine pure_ (i := 6) (N := some 94) (v := ?_) (a' := ?_) #[true, true, true, true, true, true, true, false, false, false, false] rfl rfl (by kernel_rfl) (fun _ _ _ h => h) (Or.inl ⟨by rfl, ?_⟩) ?_ ?_
                          rotate_left
                          · intro w'
                            go_simp
                            with_reducible rfl
                          rotate_left
                          · simp only [Act.put, List.setIfInBounds_toArray, List.set_cons_zero, List.set_cons_succ, i64_w, i32_w]
                            rfl
                          refine pure_ (i := 7) (N := some 101) (v := ?_) (a' := ?_) #[true, true, true, true, true, true, true, true, false, false, false] rfl rfl (by kernel_rfl) (fun _ _ _ h => h) (Or.inl ⟨by rfl, ?_⟩) ?_ ?_
                          rotate_left
                          · intro w'
                            go_simp
                            with_reducible rfl
                          rotate_left
                          · simp only [Act.put, List.setIfInBounds_toArray, List.set_cons_zero, List.set_cons_succ, i64_w, i32_w]
                            rfl
                          refine pure_ (i := 8) (N := some 102) (v := ?_) (a' := ?_) #[true, true, true, true, true, true, true, true, true, false, false] rfl rfl (by kernel_rfl) (fun _ _ _ h => h) (Or.inl ⟨by rfl, ?_⟩) ?_ ?_
                          rotate_left
                          · intro w'
                            go_simp
                            with_reducible rfl
                          rotate_left
                          · simp only [Act.put, List.setIfInBounds_toArray, List.set_cons_zero, List.set_cons_succ, i64_w, i32_w]
                            rfl
                          refine pure_ (i := 9) (N := some 19) (v := ?_) (a' := ?_) #[true, true, true, true, true, true, true, true, true, true, false] rfl rfl (by kernel_rfl) (fun _ _ _ h => h) (Or.inl ⟨by rfl, ?_⟩) ?_ ?_
                          rotate_left
                          · intro w'
                            go_simp
                            with_reducible rfl
                          rotate_left
                          · simp only [Act.put, List.setIfInBounds_toArray, List.set_cons_zero, List.set_cons_succ, i64_w, i32_w]
                            rfl
                          refine pure_ (i := 10) (N := some 20) (v := ?_) (a' := ?_) #[true, true, true, true, true, true, true, true, true, true, true] rfl rfl (by kernel_rfl) (fun _ _ _ h => h) (Or.inl ⟨by rfl, ?_⟩) ?_ ?_
                          rotate_left
                          · intro w'
                            go_simp
                            with_reducible rfl
                          rotate_left
                          · simp only [Act.put, List.setIfInBounds_toArray, List.set_cons_zero, List.set_cons_succ, i64_w, i32_w]
                            rfl
                          refine done_ (by kernel_rfl) ?_
                          go_wp2
                          obtain ⟨wo, rfl⟩ : ∃ wo : World, wo = w6 := ⟨_, rfl⟩
                          clear hcy0 hcy1 hcy2 hcz0 hcz1 hcz2 hcv1
                          go_loop [105] (fun v => ∃ j : Nat, j ≤ rows.length ∧ v = .int .i64 (j : Int) ∧ Aside0 (∀ i, i < j → (mask >>> i) % 2 = 1 → rdOf ByteArray.empty again (i : Int) = rdOf ByteArray.empty l3 (i : Int))) (fun v => rows.length - (intOf v).toNat)
                          case atStart => exact ⟨0, Nat.zero_le _, rfl, ⟨fun i hi => absurd hi (Nat.not_lt_zero i)⟩⟩
                          case round =>
                            obtain ⟨j, hj, rfl, HA⟩ := hrel
                            by_cases hlt : j < rows.length
                            · have hla : j < again.length := by rw [HAL.out]; exact hlt
                              obtain ⟨ad3, rfl, hx⟩ := at_string_nat (HP3.out _ HB6.out) j hlt
                              obtain ⟨ad6, rfl, hy⟩ := at_string_nat HC6.out j hla
                              have hB1 := bit_eq mask j hmk
                              have hm2 : (mask >>> j) % 2 < 2 := Nat.mod_lt _ (by decide)
                              generalize hpt : rdOf ByteArray.empty l3 (j : Int) = pt at hx
                              generalize hqt : rdOf ByteArray.empty again (j : Int) = qt at hy
                              generalize hbt : (mask >>> j) % 2 = bit at hB1 hm2
                              have HPT := Aside0.mk hpt
                              have HQT := Aside0.mk hqt
                              have HBT := Aside0.mk hbt
                              clear hpt hqt hbt
                              by_cases hbit : bit = 1
                              · subst hbit
                                by_cases hsw : qt = pt
                                · subst hsw
                                  have hz1 : (qt.toList == qt.toList) = true := beq_iff_eq.2 rfl
                                  have hz2 : (qt.toList != qt.toList) = false := by simp
                                  go_wp2
                                  go_round
                                  case rel => exact ⟨j + 1, by omega, by go_num, ⟨fun i hi hb => by
                                    rcases Nat.lt_or_eq_of_le (Nat.le_of_lt_succ hi) with hi | rfl
                                    · exact HA.out i hi hb
                                    · rw [HPT.out, HQT.out]⟩⟩
                                  case measure => simp [intOf]; omega
                                · have hz2 : (qt.toList == pt.toList) = false := beq_eq_false_iff_ne.2 (fun h => hsw (ba_inj.1 h))
                                  have hz3 : (qt.toList != pt.toList) = true := bne_iff_ne.2 (fun h => hsw (ba_inj.1 h))
                                  have hns : ¬ agree mask again l3 = true := fun h => hsw (by rw [← HPT.out, ← HQT.out]; exact agree_iff.1 h j (by rw [HB5.out]; exact hlt) HBT.out)
                                  have h8 := H8.out
                                  rw [if_neg hns] at h8
                                  obtain ⟨rfl, rfl⟩ := Prod.mk.inj (Option.some.inj h8)
                                  clear h8 hns H8
                                  go_wp2
                                  go_ret2
                                  exact ⟨rfl, HB6.out⟩
                              · obtain rfl : bit = 0 := by omega
                                go_wp2
                                go_round
                                case rel => exact ⟨j + 1, by omega, by go_num, ⟨fun i hi hb => by
                                  rcases Nat.lt_or_eq_of_le (Nat.le_of_lt_succ hi) with hi | rfl
                                  · exact HA.out i hi hb
                                  · have := HBT.out; omega⟩⟩
                                case measure => simp [intOf]; omega
                            · obtain rfl : j = rows.length := by omega
                              have hso : agree mask again l3 = true := agree_iff.2 (by rw [HB5.out]; exact HA.out)
                              have h8 := H8.out
                              rw [if_pos hso] at h8
                              obtain ⟨rfl, rfl⟩ := Prod.mk.inj (Option.some.inj h8)
                              clear h8 hso H8
                              go_wp2
                              go_ret2
                              exact ⟨rfl, HB6.out⟩
                    · rw [if_neg hal] at h8
                      cases h8
                  · rw [if_neg hnf] at h7
                    cases h7
          · rw [if_neg hsp] at h7
            cases h7
        · rw [if_neg hbd] at h2
          cases h2
    · rw [if_neg hok] at h2
      cases h2
  · rw [if_neg he0] at h2
    obtain ⟨rfl, rfl⟩ := Prod.mk.inj (Option.some.inj h2)
    have he1 : (e0 == 0) = false := beq_eq_false_iff_ne.2 he0
    clear h2 hG hr0_1
    go_enter Tryd.func28, Tryd.ntmps28
    go_wp2_with (go_at_call 17; (with_reducible refine (HRW.out _ (by repeat (first | exact Below.refl _ _ | apply below_alloc))).mono ?_); rintro e w1 ⟨v0, rfl, hS, hb1⟩; have HB1 := Aside0.mk hb1; clear hS hb1)
    go_ret2
    exact ⟨rfl, below_step (below_alloc (Below.refl _ _) _) HB1.out⟩


/-! ### bits_OnesCount64: function 100 -/
def bits_OnesCount64.f (a0 : Int) : Option (Int) := some (Go.bits .and .i64 (wrap64 (IntKind.u64.wrap ((IntKind.u64.wrap ((IntKind.u64.wrap ((Go.bits .and .u64 (IntKind.u64.wrap (((IntKind.u64.wrap ((Go.bits .and .u64 ((IntKind.u64.wrap ((Go.bits .and .u64 (a0 / 2) 6148914691236517205) + (Go.bits .and .u64 a0 6148914691236517205))) / 4) 3689348814741910323) + (Go.bits .and .u64 (IntKind.u64.wrap ((Go.bits .and .u64 (a0 / 2) 6148914691236517205) + (Go.bits .and .u64 a0 6148914691236517205))) 3689348814741910323))) / 16) + (IntKind.u64.wrap ((Go.bits .and .u64 ((IntKind.u64.wrap ((Go.bits .and .u64 (a0 / 2) 6148914691236517205) + (Go.bits .and .u64 a0 6148914691236517205))) / 4) 3689348814741910323) + (Go.bits .and .u64 (IntKind.u64.wrap ((Go.bits .and .u64 (a0 / 2) 6148914691236517205) + (Go.bits .and .u64 a0 6148914691236517205))) 3689348814741910323))))) 1085102592571150095) + ((Go.bits .and .u64 (IntKind.u64.wrap (((IntKind.u64.wrap ((Go.bits .and .u64 ((IntKind.u64.wrap ((Go.bits .and .u64 (a0 / 2) 6148914691236517205) + (Go.bits .and .u64 a0 6148914691236517205))) / 4) 3689348814741910323) + (Go.bits .and .u64 (IntKind.u64.wrap ((Go.bits .and .u64 (a0 / 2) 6148914691236517205) + (Go.bits .and .u64 a0 6148914691236517205))) 3689348814741910323))) / 16) + (IntKind.u64.wrap ((Go.bits .and .u64 ((IntKind.u64.wrap ((Go.bits .and .u64 (a0 / 2) 6148914691236517205) + (Go.bits .and .u64 a0 6148914691236517205))) / 4) 3689348814741910323) + (Go.bits .and .u64 (IntKind.u64.wrap ((Go.bits .and .u64 (a0 / 2) 6148914691236517205) + (Go.bits .and .u64 a0 6148914691236517205))) 3689348814741910323))))) 1085102592571150095) / 256))) + ((IntKind.u64.wrap ((Go.bits .and .u64 (IntKind.u64.wrap (((IntKind.u64.wrap ((Go.bits .and .u64 ((IntKind.u64.wrap ((Go.bits .and .u64 (a0 / 2) 6148914691236517205) + (Go.bits .and .u64 a0 6148914691236517205))) / 4) 3689348814741910323) + (Go.bits .and .u64 (IntKind.u64.wrap ((Go.bits .and .u64 (a0 / 2) 6148914691236517205) + (Go.bits .and .u64 a0 6148914691236517205))) 3689348814741910323))) / 16) + (IntKind.u64.wrap ((Go.bits .and .u64 ((IntKind.u64.wrap ((Go.bits .and .u64 (a0 / 2) 6148914691236517205) + (Go.bits .and .u64 a0 6148914691236517205))) / 4) 3689348814741910323) + (Go.bits .and .u64 (IntKind.u64.wrap ((Go.bits .and .u64 (a0 / 2) 6148914691236517205) + (Go.bits .and .u64 a0 6148914691236517205))) 3689348814741910323))))) 1085102592571150095) + ((Go.bits .and .u64 (IntKind.u64.wrap (((IntKind.u64.wrap ((Go.bits .and .u64 ((IntKind.u64.wrap ((Go.bits .and .u64 (a0 / 2) 6148914691236517205) + (Go.bits .and .u64 a0 6148914691236517205))) / 4) 3689348814741910323) + (Go.bits .and .u64 (IntKind.u64.wrap ((Go.bits .and .u64 (a0 / 2) 6148914691236517205) + (Go.bits .and .u64 a0 6148914691236517205))) 3689348814741910323))) / 16) + (IntKind.u64.wrap ((Go.bits .and .u64 ((IntKind.u64.wrap ((Go.bits .and .u64 (a0 / 2) 6148914691236517205) + (Go.bits .and .u64 a0 6148914691236517205))) / 4) 3689348814741910323) + (Go.bits .and .u64 (IntKind.u64.wrap ((Go.bits .and .u64 (a0 / 2) 6148914691236517205) + (Go.bits .and .u64 a0 6148914691236517205))) 3689348814741910323))))) 1085102592571150095) / 256))) / 65536))) + ((IntKind.u64.wrap ((IntKind.u64.wrap ((Go.bits .and .u64 (IntKind.u64.wrap (((IntKind.u64.wrap ((Go.bits .and .u64 ((IntKind.u64.wrap ((Go.bits .and .u64 (a0 / 2) 6148914691236517205) + (Go.bits .and .u64 a0 6148914691236517205))) / 4) 3689348814741910323) + (Go.bits .and .u64 (IntKind.u64.wrap ((Go.bits .and .u64 (a0 / 2) 6148914691236517205) + (Go.bits .and .u64 a0 6148914691236517205))) 3689348814741910323))) / 16) + (IntKind.u64.wrap ((Go.bits .and .u64 ((IntKind.u64.wrap ((Go.bits .and .u64 (a0 / 2) 6148914691236517205) + (Go.bits .and .u64 a0 6148914691236517205))) / 4) 3689348814741910323) + (Go.bits .and .u64 (IntKind.u64.wrap ((Go.bits .and .u64 (a0 / 2) 6148914691236517205) + (Go.bits .and .u64 a0 6148914691236517205))) 3689348814741910323))))) 1085102592571150095) + ((Go.bits .and .u64 (IntKind.u64.wrap (((IntKind.u64.wrap ((Go.bits .and .u64 ((IntKind.u64.wrap ((Go.bits .and .u64 (a0 / 2) 6148914691236517205) + (Go.bits .and .u64 a0 6148914691236517205))) / 4) 3689348814741910323) + (Go.bits .and .u64 (IntKind.u64.wrap ((Go.bits .and .u64 (a0 / 2) 6148914691236517205) + (Go.bits .and .u64 a0 6148914691236517205))) 3689348814741910323))) / 16) + (IntKind.u64.wrap ((Go.bits .and .u64 ((IntKind.u64.wrap ((Go.bits .and .u64 (a0 / 2) 6148914691236517205) + (Go.bits .and .u64 a0 6148914691236517205))) / 4) 3689348814741910323) + (Go.bits .and .u64 (IntKind.u64.wrap ((Go.bits .and .u64 (a0 / 2) 6148914691236517205) + (Go.bits .and .u64 a0 6148914691236517205))) 3689348814741910323))))) 1085102592571150095) / 256))) + ((IntKind.u64.wrap ((Go.bits .and .u64 (IntKind.u64.wrap (((IntKind.u64.wrap ((Go.bits .and .u64 ((IntKind.u64.wrap ((Go.bits .and .u64 (a0 / 2) 6148914691236517205) + (Go.bits .and .u64 a0 6148914691236517205))) / 4) 3689348814741910323) + (Go.bits .and .u64 (IntKind.u64.wrap ((Go.bits .and .u64 (a0 / 2) 6148914691236517205) + (Go.bits .and .u64 a0 6148914691236517205))) 3689348814741910323))) / 16) + (IntKind.u64.wrap ((Go.bits .and .u64 ((IntKind.u64.wrap ((Go.bits .and .u64 (a0 / 2) 6148914691236517205) + (Go.bits .and .u64 a0 6148914691236517205))) / 4) 3689348814741910323) + (Go.bits .and .u64 (IntKind.u64.wrap ((Go.bits .and .u64 (a0 / 2) 6148914691236517205) + (Go.bits .and .u64 a0 6148914691236517205))) 3689348814741910323))))) 1085102592571150095) + ((Go.bits .and .u64 (IntKind.u64.wrap (((IntKind.u64.wrap ((Go.bits .and .u64 ((IntKind.u64.wrap ((Go.bits .and .u64 (a0 / 2) 6148914691236517205) + (Go.bits .and .u64 a0 6148914691236517205))) / 4) 3689348814741910323) + (Go.bits .and .u64 (IntKind.u64.wrap ((Go.bits .and .u64 (a0 / 2) 6148914691236517205) + (Go.bits .and .u64 a0 6148914691236517205))) 3689348814741910323))) / 16) + (IntKind.u64.wrap ((Go.bits .and .u64 ((IntKind.u64.wrap ((Go.bits .and .u64 (a0 / 2) 6148914691236517205) + (Go.bits .and .u64 a0 6148914691236517205))) / 4) 3689348814741910323) + (Go.bits .and .u64 (IntKind.u64.wrap ((Go.bits .and .u64 (a0 / 2) 6148914691236517205) + (Go.bits .and .u64 a0 6148914691236517205))) 3689348814741910323))))) 1085102592571150095) / 256))) / 65536))) / 4294967296)))) 127)
set_option maxHeartbeats 8000000 in
set_option maxRecDepth 100000 in
theorem bits_OnesCount64.calls (a0 : Int) (r : Int) (w : World) (hG : HG w) (h : bits_OnesCount64.f a0 = some r) :
  Calls Tryd.prog 100 #[.int .u64 a0] w fun e w' => e = .returned (.int .i64 r) ∧ Drawn0 w w' := by
 have HGw := Aside0.mk hG
 clear hG
 have H : (some (Go.bits .and .i64 (wrap64 (IntKind.u64.wrap ((IntKind.u64.wrap ((IntKind.u64.wrap ((Go.bits .and .u64 (IntKind.u64.wrap (((IntKind.u64.wrap ((Go.bits .and .u64 ((IntKind.u64.wrap ((Go.bits .and .u64 (a0 / 2) 6148914691236517205) + (Go.bits .and .u64 a0 6148914691236517205))) / 4) 3689348814741910323) + (Go.bits .and .u64 (IntKind.u64.wrap ((Go.bits .and .u64 (a0 / 2) 6148914691236517205) + (Go.bits .and .u64 a0 6148914691236517205))) 3689348814741910323))) / 16) + (IntKind.u64.wrap ((Go.bits .and .u64 ((IntKind.u64.wrap ((Go.bits .and .u64 (a0 / 2) 6148914691236517205) + (Go.bits .and .u64 a0 6148914691236517205))) / 4) 3689348814741910323) + (Go.bits .and .u64 (IntKind.u64.wrap ((Go.bits .and .u64 (a0 / 2) 6148914691236517205) + (Go.bits .and .u64 a0 6148914691236517205))) 3689348814741910323))))) 1085102592571150095) + ((Go.bits .and .u64 (IntKind.u64.wrap (((IntKind.u64.wrap ((Go.bits .and .u64 ((IntKind.u64.wrap ((Go.bits .and .u64 (a0 / 2) 6148914691236517205) + (Go.bits .and .u64 a0 6148914691236517205))) / 4) 3689348814741910323) + (Go.bits .and .u64 (IntKind.u64.wrap ((Go.bits .and .u64 (a0 / 2) 6148914691236517205) + (Go.bits .and .u64 a0 6148914691236517205))) 3689348814741910323))) / 16) + (IntKind.u64.wrap ((Go.bits .and .u64 ((IntKind.u64.wrap ((Go.bits .and .u64 (a0 / 2) 6148914691236517205) + (Go.bits .and .u64 a0 6148914691236517205))) / 4) 3689348814741910323) + (Go.bits .and .u64 (IntKind.u64.wrap ((Go.bits .and .u64 (a0 / 2) 6148914691236517205) + (Go.bits .and .u64 a0 6148914691236517205))) 3689348814741910323))))) 1085102592571150095) / 256))) + ((IntKind.u64.wrap ((Go.bits .and .u64 (IntKind.u64.wrap (((IntKind.u64.wrap ((Go.bits .and .u64 ((IntKind.u64.wrap ((Go.bits .and .u64 (a0 / 2) 6148914691236517205) + (Go.bits .and .u64 a0 6148914691236517205))) / 4) 3689348814741910323) + (Go.bits .and .u64 (IntKind.u64.wrap ((Go.bits .and .u64 (a0 / 2) 6148914691236517205) + (Go.bits .and .u64 a0 6148914691236517205))) 3689348814741910323))) / 16) + (IntKind.u64.wrap ((Go.bits .and .u64 ((IntKind.u64.wrap ((Go.bits .and .u64 (a0 / 2) 6148914691236517205) + (Go.bits .and .u64 a0 6148914691236517205))) / 4) 3689348814741910323) + (Go.bits .and .u64 (IntKind.u64.wrap ((Go.bits .and .u64 (a0 / 2) 6148914691236517205) + (Go.bits .and .u64 a0 6148914691236517205))) 3689348814741910323))))) 1085102592571150095) + ((Go.bits .and .u64 (IntKind.u64.wrap (((IntKind.u64.wrap ((Go.bits .and .u64 ((IntKind.u64.wrap ((Go.bits .and .u64 (a0 / 2) 6148914691236517205) + (Go.bits .and .u64 a0 6148914691236517205))) / 4) 3689348814741910323) + (Go.bits .and .u64 (IntKind.u64.wrap ((Go.bits .and .u64 (a0 / 2) 6148914691236517205) + (Go.bits .and .u64 a0 6148914691236517205))) 3689348814741910323))) / 16) + (IntKind.u64.wrap ((Go.bits .and .u64 ((IntKind.u64.wrap ((Go.bits .and .u64 (a0 / 2) 6148914691236517205) + (Go.bits .and .u64 a0 6148914691236517205))) / 4) 3689348814741910323) + (Go.bits .and .u64 (IntKind.u64.wrap ((Go.bits .and .u64 (a0 / 2) 6148914691236517205) + (Go.bits .and .u64 a0 6148914691236517205))) 3689348814741910323))))) 1085102592571150095) / 256))) / 65536))) + ((IntKind.u64.wrap ((IntKind.u64.wrap ((Go.bits .and .u64 (IntKind.u64.wrap (((IntKind.u64.wrap ((Go.bits .and .u64 ((IntKind.u64.wrap ((Go.bits .and .u64 (a0 / 2) 6148914691236517205) + (Go.bits .and .u64 a0 6148914691236517205))) / 4) 3689348814741910323) + (Go.bits .and .u64 (IntKind.u64.wrap ((Go.bits .and .u64 (a0 / 2) 6148914691236517205) + (Go.bits .and .u64 a0 6148914691236517205))) 3689348814741910323))) / 16) + (IntKind.u64.wrap ((Go.bits .and .u64 ((IntKind.u64.wrap ((Go.bits .and .u64 (a0 / 2) 6148914691236517205) + (Go.bits .and .u64 a0 6148914691236517205))) / 4) 3689348814741910323) + (Go.bits .and .u64 (IntKind.u64.wrap ((Go.bits .and .u64 (a0 / 2) 6148914691236517205) + (Go.bits .and .u64 a0 6148914691236517205))) 3689348814741910323))))) 1085102592571150095) + ((Go.bits .and .u64 (IntKind.u64.wrap (((IntKind.u64.wrap ((Go.bits .and .u64 ((IntKind.u64.wrap ((Go.bits .and .u64 (a0 / 2) 6148914691236517205) + (Go.bits .and .u64 a0 6148914691236517205))) / 4) 3689348814741910323) + (Go.bits .and .u64 (IntKind.u64.wrap ((Go.bits .and .u64 (a0 / 2) 6148914691236517205) + (Go.bits .and .u64 a0 6148914691236517205))) 3689348814741910323))) / 16) + (IntKind.u64.wrap ((Go.bits .and .u64 ((IntKind.u64.wrap ((Go.bits .and .u64 (a0 / 2) 6148914691236517205) + (Go.bits .and .u64 a0 6148914691236517205))) / 4) 3689348814741910323) + (Go.bits .and .u64 (IntKind.u64.wrap ((Go.bits .and .u64 (a0 / 2) 6148914691236517205) + (Go.bits .and .u64 a0 6148914691236517205))) 3689348814741910323))))) 1085102592571150095) / 256))) + ((IntKind.u64.wrap ((Go.bits .and .u64 (IntKind.u64.wrap (((IntKind.u64.wrap ((Go.bits .and .u64 ((IntKind.u64.wrap ((Go.bits .and .u64 (a0 / 2) 6148914691236517205) + (Go.bits .and .u64 a0 6148914691236517205))) / 4) 3689348814741910323) + (Go.bits .and .u64 (IntKind.u64.wrap ((Go.bits .and .u64 (a0 / 2) 6148914691236517205) + (Go.bits .and .u64 a0 6148914691236517205))) 3689348814741910323))) / 16) + (IntKind.u64.wrap ((Go.bits .and .u64 ((IntKind.u64.wrap ((Go.bits .and .u64 (a0 / 2) 6148914691236517205) + (Go.bits .and .u64 a0 6148914691236517205))) / 4) 3689348814741910323) + (Go.bits .and .u64 (IntKind.u64.wrap ((Go.bits .and .u64 (a0 / 2) 6148914691236517205) + (Go.bits .and .u64 a0 6148914691236517205))) 3689348814741910323))))) 1085102592571150095) + ((Go.bits .and .u64 (IntKind.u64.wrap (((IntKind.u64.wrap ((Go.bits .and .u64 ((IntKind.u64.wrap ((Go.bits .and .u64 (a0 / 2) 6148914691236517205) + (Go.bits .and .u64 a0 6148914691236517205))) / 4) 3689348814741910323) + (Go.bits .and .u64 (IntKind.u64.wrap ((Go.bits .and .u64 (a0 / 2) 6148914691236517205) + (Go.bits .and .u64 a0 6148914691236517205))) 3689348814741910323))) / 16) + (IntKind.u64.wrap ((Go.bits .and .u64 ((IntKind.u64.wrap ((Go.bits .and .u64 (a0 / 2) 6148914691236517205) + (Go.bits .and .u64 a0 6148914691236517205))) / 4) 3689348814741910323) + (Go.bits .and .u64 (IntKind.u64.wrap ((Go.bits .and .u64 (a0 / 2) 6148914691236517205) + (Go.bits .and .u64 a0 6148914691236517205))) 3689348814741910323))))) 1085102592571150095) / 256))) / 65536))) / 4294967296)))) 127)) = some r := h
 clear h
 obtain rfl := Option.some.inj H
 go_enter Tryd.func100, Tryd.ntmps100
 go_wp2
 go_ret
 exact ⟨by first | rfl | (simp; done) | (simp [*]; done), by repeat (first | exact Drawn0.refl _ | apply Drawn0.step)⟩


/-! ### bits_OnesCount: function 79 -/
def bits_OnesCount.f (a0 : Int) : Option (Int) := (bits_OnesCount64.f a0).bind fun t264 => (some t264)
set_option maxHeartbeats 8000000 in
set_option maxRecDepth 100000 in
theorem bits_OnesCount.calls (a0 : Int) (r : Int) (w : World) (hG : HG w) (h : bits_OnesCount.f a0 = some r) :
  Calls Tryd.prog 79 #[.int .u64 a0] w fun e w' => e = .returned (.int .i64 r) ∧ Drawn0 w w' := by
 have HGw := Aside0.mk hG
 clear hG
 have H : ((bits_OnesCount64.f a0).bind fun t264 => (some t264)) = some r := h
 clear h
 replace H := Option.bind_eq_some_iff.mp H
 obtain ⟨t264, A20, H⟩ := H
 replace H : (some t264) = some r := H
 have A2 := Aside0.mk A20
 clear A20
 obtain rfl := Option.some.inj H
 go_enter Tryd.func79, Tryd.ntmps79
 go_wp2_with (first | ((with_reducible refine gate_callee (f := 100) rfl ?_); refine goesL_ (some 7) rfl rfl Tryd.func100 (by kernel_rfl) rfl #[.int .u64 a0] rfl (by (try simp only [List.map_toArray, List.map_cons, List.map_nil]); first | done | rfl | (simp only [List.length_drop, List.length_take]; rfl)) ?_; (with_reducible refine (bits_OnesCount64.calls a0 t264 _ ?side1 A2.out).mono ?_); (case side1 => first | exact HGw.out | (repeat (first | exact HGw.out | apply HG.drewN | apply HG.drew))); rintro e w' ⟨rfl, ⟨nd, rfl⟩⟩; refine ⟨_, rfl, ?_⟩))
 go_ret
 exact ⟨by first | rfl | (simp; done) | (simp [*]; done), by repeat (first | exact Drawn0.refl _ | apply Drawn0.step)⟩


/-! ### code_sets: function 72 -/
section
open Go.Shelf
attribute [local go_sem] Oper.semAt_some
/-- How many ones a number has. -/
def onesOf (m : Nat) : Int := (bits_OnesCount.f (m : Int)).getD 0
theorem ones64_some (a : Int) : ∃ r, bits_OnesCount64.f a = some r := ⟨_, by unfold bits_OnesCount64.f; exact rfl⟩
theorem ones_some (m : Nat) : bits_OnesCount.f (m : Int) = some (onesOf m) := by
 unfold onesOf bits_OnesCount.f
 obtain ⟨r, hr⟩ := ones64_some (m : Int)
 rw [hr]
 rfl
theorem ones_calls (m : Nat) (w : World) (hG : HG w) : Calls Tryd.prog 79 #[.int .u64 (m : Int)] w fun e w' => e = .returned (.int .i64 (onesOf m)) ∧ Drawn0 w w' :=
 bits_OnesCount.calls (m : Int) _ w hG (ones_some m)
def setsUpto (size : Int) (k : Nat) : List Nat := (List.range k).filter fun m => decide (onesOf m = size)
theorem setsUpto_succ (size : Int) (k : Nat) : setsUpto size (k + 1) = setsUpto size k ++ (if onesOf k = size then [k] else []) := by
 unfold setsUpto
 rw [List.range_succ, List.filter_append]
 congr 1
 by_cases h : onesOf k = size <;> simp [h]
theorem setsUpto_lt (size : Int) {k Z : Nat} (h : k < Z) : (setsUpto size k).length < Z := Nat.lt_of_le_of_lt (Nat.le_trans (List.length_filter_le _ _) (by simp)) h
theorem KeepsD_ (w : World) (m : Nat) : w.grownBy (w.drewN m) none := by
 have h := pw_below_drewN (Below.refl w.heap.size w) m
 exact ⟨h.os, h.tape, h.output, h.size, fun k hk _ => h.block k hk⟩
set_option maxRecDepth 100000 in
set_option maxHeartbeats 4000000 in
theorem sets1_in (n N : Nat) (size : Int) (hn : N ≤ 24) (h1n : 1 ≤ n) (l Bn Bs n₀ : Nat) (w0 : World) (hG0 : HG w0) (J Jx : List Nat → World → Prop) (BJ : Nat) (hJ : AbidesFrom BJ J)
  (hY : ∀ (pre : List Nat) (x : Nat) W, J pre W → pre.length < 2 ^ N → x < 2 ^ N → YieldAt Fence.wide (n - 1) Tryd.prog l #[.int .i64 (x : Int)] W fun e W' =>
   (e = .returned (.bool true) ∧ J (pre ++ [x]) W' ∧ Below n₀ W W') ∨ (e = .returned (.bool false) ∧ Jx (pre ++ [x]) W'))
  (W : World) (hW : Below w0.heap.size w0 W) (hn0 : n₀ = w0.heap.size) (hBn : W.cell? ⟨Bn, 0, none⟩ = some (.int .i64 (N : Int))) (hBs : W.cell? ⟨Bs, 0, none⟩ = some (.int .i64 size)) (hlt : Bs < n₀) (h0 : J [] W) :
  CallsIn Fence.wide n Tryd.prog 97 #[.func (.yield l) #[] #[], .pointer (some ⟨Bn, 0, none⟩), .pointer (some ⟨Bs, 0, none⟩)] W fun e W' => (∃ v, e = .returned v) ∧
   ((∃ ys, ys = setsUpto size (2 ^ N) ∧ J ys W') ∨ (∃ pre, (∃ k, k ≤ 2 ^ N ∧ pre = setsUpto size k) ∧ Jx pre W')) := by
 obtain ⟨Z, hZ⟩ : ∃ Z : Nat, Z = 2 ^ N := ⟨_, rfl⟩
 have hpl : Z ≤ 2 ^ 24 := by rw [hZ]; exact Nat.pow_le_pow_right (by decide) hn
 have hw1 : wrap64 ((2 : Int) ^ N) = (Z : Int) := by
  have h2 : ((2 : Int) ^ N) = ((2 ^ N : Nat) : Int) := by simp
  rw [h2, ← hZ]
  unfold wrap64; omega
 rw [← hZ] at hY
 have HY := Aside0.mk hY
 have HJ := Aside0.mk hJ
 rw [← hZ]
 have HZ := Aside0.mk hZ
 have HG0 := Aside0.mk hG0
 clear hY hJ hZ hG0
 refine callsIn_of_wp Tryd.func97 rfl trivial ?_ rfl
 simp only [Tryd.ntmps97, List.size_toArray, List.length_cons, List.length_nil, Nat.reduceAdd, Nat.reduceSub, Array.replicate_succ, Array.replicate_zero, List.push_toArray, List.append_toArray, List.nil_append, List.cons_append]
 gi_wp2
 rw [hw1]
 clear hw1
 gi_loopw [7] (fun i wr => ∃ k : Nat, k ≤ Z ∧ i = .int .i64 (k : Int) ∧ Aside0 (J (setsUpto size k) wr) ∧ Aside0 (Below n₀ W wr)) (fun i _ => Z - (intOf i).toNat)
 case atStart => exact ⟨0, Nat.zero_le _, rfl, ⟨h0⟩, ⟨Below.refl _ _⟩⟩
 case round =>
  obtain ⟨k, hk, rfl, HJs, HB⟩ := hrel
  have hcs : wr.cell? ⟨Bs, 0, none⟩ = some (.int .i64 size) := (HB.out.cell (p := ⟨Bs, 0, none⟩) hlt).trans hBs
  by_cases hltk : k < Z
  ·have hOC := ones_calls k
   have HOC := Aside0.mk hOC
   have HSU := Aside0.mk (setsUpto_succ size k)
   have hwk : IntKind.u64.wrap (k : Int) = (k : Int) := by rw [IntKind.wrap_u64]; omega
   clear hOC
   generalize hon : onesOf k = on at HOC HSU
   have HGr := Aside0.mk (show ∀ W', Below wr.heap.size wr W' → HG W' from fun W' hb => HG0.out.below (below_step (hW.trans (by rw [← hn0]; exact HB.out)) hb))
   have hmx : Tryd.prog.follows .mixedOrders = true := by kernel_rfl
   have HDB := Aside0.mk (fun m => (pw_below_drewN (Below.refl wr.heap.size wr) m).mono (show n₀ ≤ wr.heap.size by have := HB.out.size; have := hW.size; omega))
   have HDR := Aside0.mk (fun m => show J (setsUpto size k) (wr.drewN m) from HJ.out _ _ _ none HJs.out ((KeepsD_ wr m)) (fun r e => by cases e))
   by_cases heq : on = size
   ·subst heq
    have hne1 : (on == on) = true := beq_self_eq_true _
    have HYm := Aside0.mk (fun m => (HY.out (setsUpto on k) k (wr.drewN m) (HDR.out m) (setsUpto_lt on hltk) hltk).mono (R' := fun e W' => ∃ b : Bool, e = .returned (.bool b) ∧ (b = true → J (setsUpto on k ++ [k]) W' ∧ Below n₀ (wr.drewN m) W') ∧ (b = false → Jx (setsUpto on k ++ [k]) W')) (fun e W' h => by
     rcases h with ⟨rfl, h⟩ | ⟨rfl, h⟩
     ·exact ⟨true, rfl, fun _ => h, fun h2 => (by cases h2)⟩
     ·exact ⟨false, rfl, fun h2 => (by cases h2), fun _ => h⟩))
    gi_wp2
    first
    | (gi_region_with_o (first | (refine ⟨trivial, ?_⟩; gi_at_call 79; refine (callsIn_wide.2 (HOC.out _ ?g1)).mono ?_; (case g1 => exact HGr.out _ (by repeat (first | exact Below.refl _ _ | apply pw_below_drewN | apply below_drew))); rintro e w' ⟨rfl, ⟨nd, rfl⟩⟩; obtain ⟨fn, tmps, assign, body, hy, hR⟩ := HYm.out (1 + nd); have HR_ := Aside0.mk hR; clear hR) | (gi_at_call 79; refine (callsIn_wide.2 (HOC.out _ ?g1)).mono ?_; (case g1 => exact HGr.out _ (by repeat (first | exact Below.refl _ _ | apply pw_below_drewN | apply below_drew))); rintro e w' ⟨rfl, ⟨nd, rfl⟩⟩; obtain ⟨fn, tmps, assign, body, hy, hR⟩ := HYm.out (1 + nd); have HR_ := Aside0.mk hR; clear hR) | (refine HR_.out.mono ?_; rintro e W3 ⟨b, rfl, h1, h2⟩; have HT_ := Aside0.mk h1; have HF_ := Aside0.mk h2; clear h1 h2 hy)))
    | (gi_region_with_o? (first | (refine ⟨trivial, ?_⟩; gi_at_call 79; refine (callsIn_wide.2 (HOC.out _ ?g1)).mono ?_; (case g1 => exact HGr.out _ (by repeat (first | exact Below.refl _ _ | apply pw_below_drewN | apply below_drew))); rintro e w' ⟨rfl, ⟨nd, rfl⟩⟩; obtain ⟨fn, tmps, assign, body, hy, hR⟩ := HYm.out (1 + nd); have HR_ := Aside0.mk hR; clear hR) | (gi_at_call 79; refine (callsIn_wide.2 (HOC.out _ ?g1)).mono ?_; (case g1 => exact HGr.out _ (by repeat (first | exact Below.refl _ _ | apply pw_below_drewN | apply below_drew))); rintro e w' ⟨rfl, ⟨nd, rfl⟩⟩; obtain ⟨fn, tmps, assign, body, hy, hR⟩ := HYm.out (1 + nd); have HR_ := Aside0.mk hR; clear hR) | (trace_state; fail)))
    all_goals
     cases b
     ·have hjx := HF_.out rfl
      have HJX := Aside0.mk hjx
      clear hjx
      gi_wp2
      refine bodyPost_ret (results_none rfl _ _ _) rfl ?_
      exact ⟨⟨_, rfl⟩, .inr ⟨_, ⟨k + 1, by omega, by rw [HSU.out, if_pos trivial]⟩, HJX.out⟩⟩
     ·have HJ3 := Aside0.mk (HT_.out rfl).1
      have HB3 := Aside0.mk (HT_.out rfl).2
      gi_wp2
      go_roundw
      case rel => exact ⟨k + 1, by omega, by go_num, ⟨by rw [HSU.out, if_pos trivial]; exact HJ3.out⟩, ⟨HB.out.trans ((HDB.out _).trans HB3.out)⟩⟩
      case measure => simp [intOf]; omega
   ·have hne1 : (on == size) = false := beq_eq_false_iff_ne.2 heq
    gi_wp2
    first
    | (gi_region_with_o (first | (refine ⟨trivial, ?_⟩; gi_at_call 79; refine (callsIn_wide.2 (HOC.out _ ?g1)).mono ?_; (case g1 => exact HGr.out _ (by repeat (first | exact Below.refl _ _ | apply pw_below_drewN | apply below_drew))); rintro e w' ⟨rfl, ⟨nd, rfl⟩⟩) | (gi_at_call 79; refine (callsIn_wide.2 (HOC.out _ ?g1)).mono ?_; (case g1 => exact HGr.out _ (by repeat (first | exact Below.refl _ _ | apply pw_below_drewN | apply below_drew))); rintro e w' ⟨rfl, ⟨nd, rfl⟩⟩) | (refine ⟨fun _ h => (by cases h), ?_⟩)))
    | (gi_region_with_o? (first | (refine ⟨trivial, ?_⟩; gi_at_call 79; refine (callsIn_wide.2 (HOC.out _ ?g1)).mono ?_; (case g1 => exact HGr.out _ (by repeat (first | exact Below.refl _ _ | apply pw_below_drewN | apply below_drew))); rintro e w' ⟨rfl, ⟨nd, rfl⟩⟩) | (gi_at_call 79; refine (callsIn_wide.2 (HOC.out _ ?g1)).mono ?_; (case g1 => exact HGr.out _ (by repeat (first | exact Below.refl _ _ | apply pw_below_drewN | apply below_drew))); rintro e w' ⟨rfl, ⟨nd, rfl⟩⟩) | (trace_state; fail)))
    all_goals
     gi_wp2
     go_roundw
     case rel => exact ⟨k + 1, by omega, by go_num, ⟨by rw [HSU.out, if_neg heq, List.append_nil]; exact HDR.out _⟩, ⟨pw_below_drewN HB.out _⟩⟩
     case measure => simp [intOf]; omega
  ·obtain rfl : k = Z := by omega
   gi_wp2
   go_end0
   exact ⟨⟨_, rfl⟩, .inl ⟨_, rfl, HJs.out⟩⟩
abbrev Piece (N : Nat) := { x : Nat // x < 2 ^ N }
theorem sets1_stops (n N : Nat) (size : Int) (hn : N ≤ 24) (h1n : 1 ≤ n) (Bn Bs : Nat) (w0 : World) (hG0 : HG w0) (hBn : w0.cell? ⟨Bn, 0, none⟩ = some (.int .i64 (N : Int))) (hBs : w0.cell? ⟨Bs, 0, none⟩ = some (.int .i64 size)) :
  SeqStopsK Fence.wide n Tryd.prog 97 #[.pointer (some ⟨Bn, 0, none⟩), .pointer (some ⟨Bs, 0, none⟩)] (fun x : Piece N => #[Value.int .i64 (x.1 : Int)]) (Below w0.heap.size) (fun xs => xs.map Subtype.val = setsUpto size (2 ^ N)) (fun pre => ∃ k, k ≤ 2 ^ N ∧ pre.map Subtype.val = setsUpto size k) (2 ^ N) w0 := by
 intro l J Jx W hW hJ hJx hY h0
 have h2 := World.block_lt_of_cell? w0 _ hBs
 refine (sets1_in n N size hn h1n l Bn Bs w0.heap.size w0 hG0 (fun q W' => ∃ q' : List (Piece N), q'.map Subtype.val = q ∧ J q' W') (fun q W' => ∃ q' : List (Piece N), q'.map Subtype.val = q ∧ Jx q' W') W.heap.size ?_ ?_ W hW rfl (pw_cell_below hW hBn) (pw_cell_below hW hBs) h2 ⟨[], rfl, h0⟩).mono ?_
 ·rintro s A B row ⟨q', hq, hj⟩ hg hr
  exact ⟨q', hq, hJ q' A B row hj hg hr⟩
 ·rintro pre x W1 ⟨q', rfl, hj⟩ hl hx
  refine (hY q' ⟨x, hx⟩ W1 hj (by simpa using hl)).mono ?_
  rintro e W' (⟨rfl, h3, h4⟩ | ⟨rfl, h3⟩)
  ·exact .inl ⟨rfl, ⟨_, by simp, h3⟩, h4⟩
  ·exact .inr ⟨rfl, ⟨_, by simp, h3⟩⟩
 ·rintro e W' ⟨he, ⟨ys, rfl, q', hq, hj⟩ | ⟨pre, ⟨k, hk, rfl⟩, q', hq, hj⟩⟩
  ·exact ⟨he, .inl ⟨q', hq, hj⟩⟩
  ·exact ⟨he, .inr ⟨q', ⟨k, hk, hq⟩, hj⟩⟩
set_option maxRecDepth 100000 in
/-- sets: its closure, over two variables of its own. -/
theorem sets_calls (N : Nat) (size : Int) (w : World) :
  Calls Tryd.prog 72 #[.int .i64 (N : Int), .int .i64 size] w fun e w' => e = .returned (.func (.func 97) #[] #[.pointer (some ⟨w.heap.size, 0, none⟩), .pointer (some ⟨w.heap.size + 1, 0, none⟩)]) ∧ w' = (w.alloc (.cells #[.int .i64 (N : Int)] 3)).alloc (.cells #[.int .i64 size] 3) := by
 have hmf := run_mf Tryd.prog
 go_enter Tryd.func72, Tryd.ntmps72
 go_wp2
 go_ret
 exact ⟨rfl, rfl⟩
end


/-! ### code_Distance: function 32 -/
section
open Go.Shelf
attribute [local go_sem] Oper.semAt_some
theorem blk_keep_ {w : World} {g : Nat} {o : Obj} (h : w.heap[g]? = some o) (g2 : Nat) (hne : g ≠ g2) (j : Nat) (u : Value) : (w.setCell ⟨g2, j, none⟩ u).heap[g]? = some o := (Below.heap_setCell w ⟨g2, j, none⟩ u g hne).trans h
theorem blk_new1 (w : World) (o o' : Obj) : ((w.alloc o).alloc o').heap[w.heap.size + 1]? = some o' := by
 have := blk_new (w.alloc o) o'
 rwa [World.size_alloc] at this
theorem blk_new2 (w : World) (o o' o'' : Obj) : (((w.alloc o).alloc o').alloc o'').heap[w.heap.size + 1 + 1]? = some o'' := by
 have := blk_new1 (w.alloc o) o' o''
 rwa [World.size_alloc] at this
def markOf (D : Nat) : Deferred := { target := .collected D, args := #[] }
/-- The marks of loops over functions that have run, as a function leaves. -/
def Marks (B : Nat) (Ds : List Nat) (W : World) : Prop := Ds.Nodup ∧ ∀ D, D ∈ Ds → B ≤ D ∧ W.heap[D]? = some (.deferred (some []))
theorem leaves_marks {F : Fence} {n : Nat} {P : Program} {fn : Func} {tmps : Array Value} {R : Ending → World → Prop} (B : Nat) (G : World → Prop)
  (hG : ∀ W D, G W → B ≤ D → W.heap[D]? = some (.deferred (some [])) → G (W.putObj D (.deferred none))) (hfin : ∀ W, G W → LeavesInM F n P fn tmps R [] .returning W) :
  ∀ Ds W, Marks B Ds W → G W → LeavesInM F n P fn tmps R (Ds.map markOf) .returning W
 | [], W, _, h => hfin W h
 | D :: Ds, W, hm, h => by
  obtain ⟨hn, hd⟩ := hm
  obtain ⟨hB, hD⟩ := hd D (List.mem_cons_self)
  have hnd := List.nodup_cons.1 hn
  refine ⟨by simp, .inl ⟨D, _, rfl, run_takeDeferred hD, ?_⟩⟩
  refine leaves_marks B G hG hfin Ds _ ⟨hnd.2, fun D' h' => ?_⟩ (hG W D h hB hD)
  obtain ⟨h1, h2⟩ := hd D' (List.mem_cons_of_mem _ h')
  exact ⟨h1, (World.putObj_heap_other (fun (e : D' = D) => hnd.1 (e ▸ h'))).trans h2⟩
theorem Marks.keep {B N : Nat} {Ds : List Nat} {W W' : World} (h : Marks B Ds W) (hb : Below N W W') (hl : ∀ D, D ∈ Ds → D < N) : Marks B Ds W' := ⟨h.1, fun D hd => ⟨(h.2 D hd).1, (hb.block D (hl D hd)).trans (h.2 D hd).2⟩⟩
theorem Marks.lt {B : Nat} {Ds : List Nat} {W : World} (h : Marks B Ds W) : ∀ D, D ∈ Ds → D < W.heap.size := fun D hd => (Array.getElem?_eq_some_iff.1 (h.2 D hd).2).1
theorem Marks.set {B : Nat} {Ds : List Nat} {W : World} (h : Marks B Ds W) (g : Nat) (hg : g < B) (j : Nat) (u : Value) : Marks B Ds (W.setCell ⟨g, j, none⟩ u) := ⟨h.1, fun D hd => ⟨(h.2 D hd).1, blk_keep_ (h.2 D hd).2 g (by have := (h.2 D hd).1; omega) j u⟩⟩
/-- What lies at the end: the two results. -/
def DistEnd (Bd Be : Nat) (x y : Int) (w W : World) : Prop := W.cell? ⟨Bd, 0, none⟩ = some (.int .i64 x) ∧ W.cell? ⟨Be, 0, none⟩ = some (.int .i64 y) ∧ Below w.heap.size w W
theorem DistEnd.put {Bd Be : Nat} {x y : Int} {w : World} (B : Nat) (hB : w.heap.size ≤ B) (W : World) (D : Nat) (h : DistEnd Bd Be x y w W) (hD : B ≤ D) (hd : W.heap[D]? = some (.deferred (some []))) : DistEnd Bd Be x y w (W.putObj D (.deferred none)) := by
 obtain ⟨h1, h2, h3⟩ := h
 exact ⟨cell_kept h1 (grownBy_putObj' W D _) (fun r e => by cases e; exact ⟨_, hd, rfl⟩), cell_kept h2 (grownBy_putObj' W D _) (fun r e => by cases e; exact ⟨_, hd, rfl⟩), h3.trans (belowK_b (w := w) (Nat.le_refl _) W D _ _ (Nat.le_trans hB hD) hd rfl rfl)⟩
theorem enters97 : ∀ args W, (callFunc 97 args).run Tryd.prog W = .ok (.enter 97 args) W := enters_of Tryd.func97 (by kernel_rfl) rfl
def ptrBlock : Value → Nat
 | .pointer (some a) => a.block
 | _ => 0
def lostBy (rows : List (List Int)) (s : Nat) : Bool := (collectOk rows ((2 ^ rows.length - 1 - s : Nat) : Int) []).isNone
def distFrom (rows : List (List Int)) (size : Nat) : Nat → Nat
 | 0 => rows.length
 | d + 1 => if (setsUpto (size : Int) (2 ^ rows.length)).any (lostBy rows) = true then size else distFrom rows (size + 1) d
def distOf (rows : List (List Int)) : Nat := distFrom rows 1 (rows.length - 1)
def code_Distance.f (k : Nat) (a0_0 : Int) (l0_1 : List (List Int)) (a0_2 : Int) : Option (Int × Int) :=
 (code_Rows.f k a0_0 l0_1 a0_2).bind fun r => if r.2 = 0 then (if okRows r.1 = true ∧ 0 < r.1.length then some ((distOf r.1 : Nat), 0) else none) else some (0, r.2)
theorem keeps_below {W W' : World} (hb : Below W.heap.size W W') : KeepsOthers W W' := ⟨hb.size, fun k o hk _ => (hb.block k (Array.getElem?_eq_some_iff.1 hk).1).trans hk⟩
theorem dist_mask {n x : Nat} (hn : n ≤ 24) (hx : x < 2 ^ n) : IntKind.i64.wrap (IntKind.i64.wrap (IntKind.i64.wrap (2 ^ n) - 1) - (x : Int)) = ((2 ^ n - 1 - x : Nat) : Int) := by
 have hpl : 2 ^ n ≤ 2 ^ 24 := Nat.pow_le_pow_right (by decide) hn
 have h2 : ((2 : Int) ^ n) = ((2 ^ n : Nat) : Int) := by simp
 rw [h2]
 generalize 2 ^ n = z at *
 simp only [IntKind.wrap_i64]
 omega
/-- What Distance has between two rounds. -/
def DistInv (Bd Be Br N size Bz : Nat) (vr : Value) (w w1 W : World) : Prop :=
 W.heap[Bd]? = some (.cells #[.int .i64 0] 3 (0, 0)) ∧ W.heap[Be]? = some (.cells #[.int .i64 0] 27 (0, 0)) ∧ W.heap[Br]? = some (.cells #[vr] 29 (0, 0)) ∧ W.heap[Br + 1]? = some (.cells #[.int .i64 (N : Int)] 3 (0, 0)) ∧
  W.heap[Bz]? = some (.cells #[.int .i64 (size : Int)] 3 (0, 0)) ∧ w1.heap.size ≤ Bz ∧ Below w1.heap.size w1 W
set_option maxHeartbeats 4000000 in
set_option maxRecDepth 100000 in
theorem code_Distance.calls (k : Nat) (a0_0 : Int) (A0_1 : Option Addr) (c0_1 : Nat) (l0_1 : List (List Int)) (a0_2 : Int) (r1 r2 : Int) (w : World) (hG : HG w) (hr0_1 : Kd.C (Kd.slice 3 (Kd.int .i64)) w A0_1 l0_1.length l0_1) (hc0_1 : l0_1.length ≤ c0_1) (h : code_Distance.f k a0_0 l0_1 a0_2 = some (r1, r2)) :
  Calls Tryd.prog 32 #[.agg #[.int .i64 a0_0, .slice A0_1 l0_1.length c0_1, .int .i64 a0_2]] w fun e w' => e = .returned (.tuple #[.int .i64 r1, .int .i64 r2]) ∧ Below w.heap.size w w' := by
 obtain ⟨⟨rows, e0⟩, hrows, h2⟩ := Option.bind_eq_some_iff.1 h
 have HRW := Aside0.mk (fun W (hb : Below w.heap.size w W) => code_Rows.calls k a0_0 A0_1 c0_1 l0_1 a0_2 rows e0 W (hG.below hb) (Kd.C_below hr0_1 hb) hc0_1 hrows)
 have hu24 := Tryd.underlying24
 clear hrows h
 refine (callsIn_wide (n := 6)).1 ?_
 refine callsIn_of_wp_marks Tryd.func32 rfl trivial ?_ rfl
 simp only [Tryd.ntmps32, List.size_toArray, List.length_cons, List.length_nil, Nat.reduceAdd, Nat.reduceSub, Array.replicate_succ, Array.replicate_zero, List.push_toArray, List.append_toArray, List.nil_append, List.cons_append]
 by_cases he0 : e0 = 0
 ·subst he0
  rw [if_pos rfl] at h2
  dsimp only at h2
  by_cases hok : okRows rows = true ∧ 0 < rows.length
  ·rw [if_pos hok] at h2
   obtain ⟨hok, hpos⟩ := hok
   obtain ⟨h3, h4, h5, h6⟩ := okRows_iff hok
   obtain ⟨rfl, rfl⟩ := Prod.mk.inj (Option.some.inj h2)
   have HG := Aside0.mk hG
   have H6 := Aside0.mk h6
   clear h2 hG hr0_1 h6 hok
   gi_wp2_with (refine ⟨trivial, ?_⟩; gi_at_call 17; refine (callsIn_wide.2 (HRW.out _ (by repeat (first | exact Below.refl _ _ | apply below_alloc)))).mono ?_; rintro e w1 ⟨v0, rfl, hS, hb1⟩; obtain ⟨Ar, cr, rfl, hcr, hCr⟩ := Kd.S_reads hS; have HCR := Aside0.mk hCr; have HB1 := Aside0.mk hb1; have HD := Aside0.mk (blk_below (blk_alloc (blk_new1 w (.cells #[.int .i64 a0_0, .slice A0_1 l0_1.length c0_1, .int .i64 a0_2] 24) (.cells #[.int .i64 0] 3)) (.cells #[.int .i64 0] 27)) hb1); have HE := Aside0.mk (blk_below (blk_new2 w (.cells #[.int .i64 a0_0, .slice A0_1 l0_1.length c0_1, .int .i64 a0_2] 24) (.cells #[.int .i64 0] 3) (.cells #[.int .i64 0] 27)) hb1); clear hS hb1 hCr)
   have HI0 : Aside0 (DistInv (w.heap.size + 1) (w.heap.size + 1 + 1) w1.heap.size rows.length 1 (w1.heap.size + 1 + 1) (.slice Ar rows.length cr) w w1 (((w1.alloc (.cells #[.slice Ar rows.length cr] 29)).alloc (.cells #[.int .i64 (rows.length : Int)] 3)).alloc (.cells #[.int .i64 1] 3))) :=
    ⟨blk_alloc (blk_alloc (blk_alloc HD.out _) _) _, blk_alloc (blk_alloc (blk_alloc HE.out _) _) _, blk_alloc (blk_alloc (blk_new _ _) _) _, blk_alloc (blk_new1 _ _ _) _, blk_new2 _ _ _ _, by omega, below_alloc (below_alloc (below_alloc (Below.refl _ _) _) _) _⟩
   refine wpIn_loop (fun a W => ∃ (size Bz : Nat) (Ds : List Nat) (u19 u20 u21 u22 u23 u24 u25 u26 u37 : Value), a = { tmps := #[.agg #[.int .i64 a0_0, .slice A0_1 l0_1.length c0_1, .int .i64 a0_2], .pointer (some ⟨w.heap.size, 0, none⟩), .pointer (some ⟨w.heap.size + 1, 0, none⟩), .pointer (some ⟨w.heap.size + 1 + 1, 0, none⟩), .pointer (some ⟨w1.heap.size, 0, none⟩), .int .i64 0, .pointer (some ⟨w1.heap.size + 1, 0, none⟩), .pointer (some ⟨Bz, 0, none⟩), undef, .tuple #[.slice Ar rows.length cr, .int .i64 0], .agg #[.int .i64 a0_0, .slice A0_1 l0_1.length c0_1, .int .i64 a0_2], .tuple #[.slice Ar rows.length cr, .int .i64 0], .slice Ar rows.length cr, .int .i64 0, .int .i64 0, .bool false, undef, .slice Ar rows.length cr, .int .i64 (rows.length : Int), u19, u20, u21, u22, u23, u24, u25, u26, undef, undef, undef, undef, undef, undef, undef, undef, undef, undef, u37, undef], defers := Ds.map markOf } ∧ size ≤ rows.length ∧ 1 ≤ size ∧ Aside0 (distOf rows = distFrom rows size (rows.length - size)) ∧ Aside0 (DistInv (w.heap.size + 1) (w.heap.size + 1 + 1) w1.heap.size rows.length size Bz (.slice Ar rows.length cr) w w1 W) ∧ Aside0 (Marks w1.heap.size Ds W))
    (fun a W => rows.length - (intOf ((W.cell? ⟨ptrBlock (a.tmps.getD 7 undef), 0, none⟩).getD undef)).toNat)
    ⟨1, _, [], _, _, _, _, _, _, _, _, _, rfl, hpos, Nat.le_refl _, ⟨rfl⟩, HI0, ⟨⟨List.nodup_nil, fun D h => by cases h⟩⟩⟩ ?_
   rintro a wr ⟨size, Bz, Ds, u19, u20, u21, u22, u23, u24, u25, u26, u37, rfl, hs1, hs2, HDF, HI, HM⟩
   ·clear HI0
    obtain ⟨hD, hE, hR, hNn, hZ, hbz, hB⟩ := HI.out
    have hcr0 := blk_cell hR 0
    have hcn0 := blk_cell hNn 0
    have hcz0 := blk_cell hZ 0
    by_cases hlt : size < rows.length
    ·have HSE := Aside0.mk (sets_calls rows.length (size : Int) wr)
     clear hD hE hR hNn hZ hB
     gi_wp2_with (first | (refine ⟨trivial, ?_⟩; gi_at_call 72; refine (callsIn_wide.2 HSE.out).mono ?_; rintro e w2 ⟨rfl, hw2⟩) | (gi_at_call 72; refine (callsIn_wide.2 HSE.out).mono ?_; rintro e w2 ⟨rfl, hw2⟩))
     have HB1' := Aside0.mk (below_step (by repeat (first | exact Below.refl _ _ | apply below_alloc)) HB1.out : Below w.heap.size w w1)
     have hbn := blk_alloc (blk_new wr (.cells #[.int .i64 (rows.length : Int)] 3)) (.cells #[.int .i64 (size : Int)] 3)
     have hbs := blk_new1 wr (.cells #[.int .i64 (rows.length : Int)] 3) (.cells #[.int .i64 (size : Int)] 3)
     have hb12 := below_alloc (below_alloc (Below.refl wr.heap.size wr) (.cells #[.int .i64 (rows.length : Int)] 3)) (.cells #[.int .i64 (size : Int)] 3)
     obtain ⟨W2, hW2⟩ : ∃ W2, (wr.alloc (.cells #[.int .i64 (rows.length : Int)] 3)).alloc (.cells #[.int .i64 (size : Int)] 3) = W2 := ⟨_, rfl⟩
     rw [hW2] at hbn hbs hb12 ⊢
     obtain ⟨hD, hE, hR, hNn, hZ, hbz, hB⟩ := HI.out
     have HB2 := Aside0.mk (below_step hB hb12)
     have HM2 := Aside0.mk (HM.out.keep hb12 HM.out.lt)
     have HD2 := Aside0.mk (blk_below hD hb12)
     have HE2 := Aside0.mk (blk_below hE hb12)
     have HR2 := Aside0.mk (blk_below hR hb12)
     have HN2 := Aside0.mk (blk_below hNn hb12)
     have HZ2 := Aside0.mk (blk_below hZ hb12)
     have hG2 : XB.HG W2 := HG.out.below (below_step HB1'.out HB2.out)
     have HSQ := Aside0.mk (sets1_stops 5 rows.length (size : Int) h3 (by decide) wr.heap.size (wr.heap.size + 1) W2 hG2 (blk_cell hbn 0) (blk_cell hbs 0))
     have HG2 := Aside0.mk hG2
     have HBN := Aside0.mk hbn
     have HBS := Aside0.mk hbs
     clear hD hE hR hNn hZ hB hbn hbs hb12 hG2 hcr0 hcn0 hcz0 hW2
     refine wpIn_rangeFunc_ownF (F := Fence.wide) (n := 6) rfl (by decide) (gf := 97) (lb := #[.pointer (some ⟨wr.heap.size, 0, none⟩), .pointer (some ⟨wr.heap.size + 1, 0, none⟩)]) rfl trivial enters97 HSQ.out belowK_t (belowK_b (Nat.le_refl _)) (Below.refl _ _) (fun _ => rfl)
      (fun pre W => (∀ x, x ∈ pre → lostBy rows x.1 = false) ∧ Below W2.heap.size W2 W)
      (fun c pre W => c = .ret ∧ (∃ x, x ∈ pre ∧ lostBy rows x.1 = true) ∧ DistEnd (w.heap.size + 1) (w.heap.size + 1 + 1) (size : Int) 0 w W ∧ Marks w1.heap.size Ds W)
      (fun s A B row hs hg hr => ⟨hs.1, hs.2.grown hg hs.2.size (fun k e => (hr k e).1)⟩)
      ?hIx ⟨fun x hx => by (cases hx), Below.refl _ _⟩ (fun x => { tmps := #[.agg #[.int .i64 a0_0, .slice A0_1 l0_1.length c0_1, .int .i64 a0_2], .pointer (some ⟨w.heap.size, 0, none⟩), .pointer (some ⟨w.heap.size + 1, 0, none⟩), .pointer (some ⟨w.heap.size + 1 + 1, 0, none⟩), .pointer (some ⟨w1.heap.size, 0, none⟩), .int .i64 0, .pointer (some ⟨w1.heap.size + 1, 0, none⟩), .pointer (some ⟨Bz, 0, none⟩), .int .i64 (x.1 : Int), .tuple #[.slice Ar rows.length cr, .int .i64 0], .agg #[.int .i64 a0_0, .slice A0_1 l0_1.length c0_1, .int .i64 a0_2], .tuple #[.slice Ar rows.length cr, .int .i64 0], .slice Ar rows.length cr, .int .i64 0, .int .i64 0, .bool false, undef, .slice Ar rows.length cr, .int .i64 (rows.length : Int), .int .i64 (size : Int), .int .i64 (rows.length : Int), .bool true, u22, u23, .int .i64 (rows.length : Int), .int .i64 (size : Int), .func (.func 97) #[] #[.pointer (some ⟨wr.heap.size, 0, none⟩), .pointer (some ⟨wr.heap.size + 1, 0, none⟩)], .int .i64 (x.1 : Int), undef, undef, undef, undef, undef, undef, undef, undef, undef, u37, undef], defers := [] }) ?assign ?body ?done ?stop
     case hIx =>
      rintro c s A B row ⟨h1, h2, ⟨h3, h4, h5⟩, h6⟩ hg hr
      have hle : w.heap.size ≤ W2.heap.size := (below_step HB1'.out HB2.out).size
      refine ⟨h1, h2, ⟨cell_kept h3 hg (fun r e => (hr r e).2), cell_kept h4 hg (fun r e => (hr r e).2), h5.grown hg h5.size (fun k e => Nat.le_trans hle (hr k e).1)⟩, h6.1, fun D hd => ⟨(h6.2 D hd).1, (hg.block D (h6.lt D hd) (fun e => ?_)).trans (h6.2 D hd).2⟩⟩
      have := HM2.out.lt D hd
      have := (hr D e.symm).1
      omega
     case assign =>
      intro l x W K hK
      gi_wp2
      exact hK
     case body =>
      rintro l pre x W ⟨hp, hBW⟩ hlen
      have hmx : Tryd.prog.follows .mixedOrders = true := by kernel_rfl
      have hcr0 := blk_cell (blk_below HR2.out hBW) 0
      have hcn0 := blk_cell (blk_below HN2.out hBW) 0
      have hcz0 := blk_cell (blk_below HZ2.out hBW) 0
      have hBW0 := Aside0.mk (below_step (below_step HB1'.out HB2.out) hBW : Below w.heap.size w W)
      have hBW1 := Aside0.mk (below_step HB2.out hBW : Below w1.heap.size w1 W)
      have HCO := Aside0.mk (show ∀ (mask : Int) W', Below W.heap.size W W' → Calls Tryd.prog 67 #[.slice Ar rows.length cr, .int .i64 mask, .slice none 0 0] W' fun e w' => Below W'.heap.size W' w' ∧ ∃ b : Bool, (b = (collectOk rows mask []).isNone) ∧ ∃ pv, e = .returned (.pointer pv) ∧ (pv.isNone = b) from by
       intro mask W' hb
       refine (code_collect.calls 0 W' Ar cr rows mask none 0 [] (HG.out.below (below_step hBW0.out hb)) (Kd.C_below HCR.out (below_step hBW1.out hb)) hcr h3 h4 h5 (by decide) ⟨rfl, by decide, fun h_ => absurd h_ (by decide)⟩ (Nat.le_refl _) (.inl ⟨rfl, rfl, rfl⟩) (fun k hk => ⟨(H6.out k hk).1, (H6.out k hk).2, by simp [rdOf]⟩)).mono ?_
       rintro e w' ⟨hb', ⟨h1, rfl⟩ | ⟨gs, st, h1, rfl, _⟩⟩
       ·exact ⟨hb', true, by rw [h1]; rfl, none, rfl, rfl⟩
       ·exact ⟨hb', false, by rw [h1]; rfl, some ⟨gs, 0, none⟩, rfl, rfl⟩)
      have hup := Tryd.underlying96
      gi_wp2
      first
      | (gi_region_with_o (first | (refine ⟨trivial, ?_⟩; gi_at_call 67; refine (CallsIn.inRound l (callsIn_wide.2 (HCO.out _ _ (by repeat (first | exact Below.refl _ _ | apply pw_below_drewN | apply below_drew))))).mono ?_; rintro e w5 ⟨hb5, bb, hbb, pv, rfl, hpv⟩; have HB5 := Aside0.mk hb5; have HBB := Aside0.mk hbb; clear hb5 hbb) | (gi_at_call 67; refine (CallsIn.inRound l (callsIn_wide.2 (HCO.out _ _ (by repeat (first | exact Below.refl _ _ | apply pw_below_drewN | apply below_drew))))).mono ?_; rintro e w5 ⟨hb5, bb, hbb, pv, rfl, hpv⟩; have HB5 := Aside0.mk hb5; have HBB := Aside0.mk hbb; clear hb5 hbb)))
      | (gi_region_with_o? (first | (refine ⟨trivial, ?_⟩; gi_at_call 67; refine (CallsIn.inRound l (callsIn_wide.2 (HCO.out _ _ (by repeat (first | exact Below.refl _ _ | apply pw_below_drewN | apply below_drew))))).mono ?_; rintro e w5 ⟨hb5, bb, hbb, pv, rfl, hpv⟩; have HB5 := Aside0.mk hb5; have HBB := Aside0.mk hbb; clear hb5 hbb) | (gi_at_call 67; refine (CallsIn.inRound l (callsIn_wide.2 (HCO.out _ _ (by repeat (first | exact Below.refl _ _ | apply pw_below_drewN | apply below_drew))))).mono ?_; rintro e w5 ⟨hb5, bb, hbb, pv, rfl, hpv⟩; have HB5 := Aside0.mk hb5; have HBB := Aside0.mk hbb; clear hb5 hbb)))
      all_goals
       have hb5 : Below W.heap.size W w5 := below_step (by repeat (first | exact Below.refl _ _ | apply pw_below_drewN | apply below_drew)) HB5.out
       have hbb := HBB.out
       rw [dist_mask h3 x.2] at hbb
       have HLB := Aside0.mk (show bb = lostBy rows x.1 from hbb)
       have HB5W := Aside0.mk hb5
       have HPV := Aside0.mk hpv
       have hd5 := blk_below (blk_below HD2.out hBW) hb5
       have he5 := blk_below (blk_below HE2.out hBW) hb5
       have hz5 := blk_below (blk_below HZ2.out hBW) hb5
       have hd50 := blk_cell hd5 0
       have hd51 := blk_frozen hd5 0
       have he50 := blk_cell he5 0
       have he51 := blk_frozen he5 0
       have hz50 := blk_cell hz5 0
       have HD5 := Aside0.mk hd5
       have HE5 := Aside0.mk he5
       clear HB5 HBB hbb hb5 HCO hpv hcr0 hcn0 hcz0 hd5 he5 hz5 hup
       cases bb with
       | false =>
        clear hd50 hd51 he50 he51 hz50
        gi_wp2
        exact ⟨keeps_below HB5W.out, HB5W.out.mono hBW.size, fun y hy => by
         rcases List.mem_append.1 hy with hy | hy
         ·exact hp y hy
         ·obtain rfl := List.mem_singleton.1 hy
          exact HLB.out.symm, below_step hBW HB5W.out⟩
       | true =>
        gi_wp2
        have hl1 := blk_lt HD.out
        have hl2 := blk_lt HE.out
        have hle := HB1'.out.size
        have hr1 := blk_cell (blk_keep_ (g := w.heap.size + 1) (blk_set HD5.out 0 (.int .i64 (size : Int))) (w.heap.size + 1 + 1) (by omega) 0 (.int .i64 0)) 0
        have hr2 := blk_cell (blk_set (blk_keep_ (g := w.heap.size + 1 + 1) HE5.out (w.heap.size + 1) (by omega) 0 (.int .i64 (size : Int))) 0 (.int .i64 0)) 0
        have hmk : Marks w1.heap.size Ds w5 := (HM2.out.keep hBW HM2.out.lt).keep HB5W.out (fun D hd => Nat.lt_of_lt_of_le (HM2.out.lt D hd) hBW.size)
        exact ⟨(keeps_below HB5W.out).trans ((KeepsOthers.setCell _ _ _).trans (KeepsOthers.setCell _ _ _)), rfl, ⟨x, by simp, HLB.out.symm⟩, ⟨hr1, hr2, below_set (below_set (below_step hBW0.out HB5W.out) (by omega)) (by omega)⟩, (hmk.set _ hl1 0 _).set _ hl2 0 _⟩
     case done =>
      rintro D xs W hDl hS ⟨hall, hBW⟩ hK
      have hz := blk_below HZ2.out hBW
      have hz0 := blk_cell hz 0
      have hz1 := blk_frozen hz 0
      gi_wp2
      have hw12 : w1.heap.size ≤ W2.heap.size := HB2.out.size
      have hnot : D ∉ Ds := fun h => by have := HM2.out.lt D h; omega
      have hzr := blk_cell HI.out.2.2.2.2.1 0
      have hcast : ((size : Int) + 1) = ((size + 1 : Nat) : Int) := by simp
      have hzn := blk_cell (blk_new W (.cells #[.int .i64 ((size : Int) + 1)] 3)) 0
      have hdo : distOf rows = distFrom rows (size + 1) (rows.length - (size + 1)) := by
       have hd := HDF.out
       obtain ⟨d, hd2⟩ : ∃ d, rows.length - size = d + 1 := ⟨rows.length - size - 1, by omega⟩
       rw [hd2] at hd
       unfold distFrom at hd
       rw [if_neg] at hd
       ·rw [hd]; congr 1; omega
       ·rw [List.any_eq_true]
        rintro ⟨y, hy, hly⟩
        rw [← hS] at hy
        obtain ⟨x, hx, rfl⟩ := List.mem_map.1 hy
        rw [hall x hx] at hly
        cases hly
      refine ⟨⟨size + 1, W.heap.size, D :: Ds, _, _, _, _, _, _, _, _, _, rfl, by omega, by omega, ⟨hdo⟩, ⟨blk_alloc (blk_below HD2.out hBW) _, blk_alloc (blk_below HE2.out hBW) _, blk_alloc (blk_below HR2.out hBW) _, blk_alloc (blk_below HN2.out hBW) _, by rw [hcast]; exact blk_new _ _, by have := hBW.size; omega, below_alloc (below_step HB2.out hBW) _⟩, ⟨List.nodup_cons.2 ⟨hnot, HM2.out.1⟩, fun D' h' => ?_⟩⟩, ?_⟩
      ·rcases List.mem_cons.1 h' with rfl | h'
       ·exact ⟨by omega, blk_alloc hK _⟩
       ·exact ⟨(HM2.out.2 D' h').1, blk_alloc (blk_below (HM2.out.2 D' h').2 hBW) _⟩
      ·show rows.length - (intOf (((W.alloc (.cells #[.int .i64 ((size : Int) + 1)] 3)).cell? ⟨W.heap.size, 0, none⟩).getD undef)).toNat < rows.length - (intOf ((wr.cell? ⟨Bz, 0, none⟩).getD undef)).toNat
       rw [hzr, hzn]
       simp [intOf]
       omega
     case stop =>
      rintro D c pre W hDl hSp ⟨rfl, ⟨x, hx, hlx⟩, hend, hmk⟩ hK
      have hdo : distOf rows = size := by
       obtain ⟨kk, hkk, hpre⟩ := hSp
       have hd := HDF.out
       obtain ⟨d, hd2⟩ : ∃ d, rows.length - size = d + 1 := ⟨rows.length - size - 1, by omega⟩
       rw [hd2] at hd
       unfold distFrom at hd
       rw [if_pos] at hd
       ·exact hd
       ·rw [List.any_eq_true]
        refine ⟨x.1, ?_, hlx⟩
        have hm : x.1 ∈ setsUpto (size : Int) kk := by rw [← hpre]; exact List.mem_map_of_mem hx
        rw [setsUpto, List.mem_filter, List.mem_range] at hm ⊢
        exact ⟨by omega, hm.2⟩
      have HDO := Aside0.mk hdo
      gi_wp2
      have hw12 : w1.heap.size ≤ W2.heap.size := HB2.out.size
      have hnot : D ∉ Ds := fun h => by have := HM2.out.lt D h; omega
      refine leaves_marks w1.heap.size (DistEnd (w.heap.size + 1) (w.heap.size + 1 + 1) (size : Int) 0 w) (fun W D h h1 h2 => h.put w1.heap.size HB1'.out.size W D h1 h2) (fun W h => ?_) (D :: Ds) _ ⟨List.nodup_cons.2 ⟨hnot, hmk.1⟩, fun D' h' => ?_⟩ hend
      ·obtain ⟨c1, c2, c3⟩ := h
       exact ⟨.tuple #[.int .i64 (size : Int), .int .i64 0], by simp [results, Tryd.f32, go_sem, c1, c2], by rw [HDO.out], c3⟩
      ·rcases List.mem_cons.1 h' with rfl | h'
       ·exact ⟨by omega, hK⟩
       ·exact hmk.2 D' h'
    ·obtain ⟨N, hN⟩ : ∃ N : Nat, N = rows.length := ⟨_, rfl⟩
     have hsz : size = N := by omega
     have hdo : distOf rows = N := by
      have := HDF.out
      rw [show rows.length - size = 0 by omega] at this
      exact this.trans hN.symm
     have HDO := Aside0.mk hdo
     rw [← hN] at hcn0
     subst hsz
     have hd0 := blk_cell hD 0
     have hd1 := blk_frozen hD 0
     have he0 := blk_cell hE 0
     have he1 := blk_frozen hE 0
     have HDk := Aside0.mk hD
     have HEk := Aside0.mk hE
     have HBk := Aside0.mk hB
     clear HDF hD hE hR hNn hZ hB HI hN hdo
     gi_wp2
     have hr1 := blk_cell (blk_keep_ (g := w.heap.size + 1) (blk_set HDk.out 0 (.int .i64 (size : Int))) (w.heap.size + 1 + 1) (by omega) 0 (.int .i64 0)) 0
     have hr2 := blk_cell (blk_set (blk_keep_ (g := w.heap.size + 1 + 1) HEk.out (w.heap.size + 1) (by omega) 0 (.int .i64 (size : Int))) 0 (.int .i64 0)) 0
     have hl1 := blk_lt HD.out
     have hl2 := blk_lt HE.out
     refine leaves_marks w1.heap.size (DistEnd (w.heap.size + 1) (w.heap.size + 1 + 1) (size : Int) 0 w) (fun W D h h1 h2 => h.put w1.heap.size (by omega) W D h1 h2) (fun W h => ?_) Ds _ ((HM.out.set _ hl1 0 _).set _ hl2 0 _) ⟨hr1, hr2, below_set (below_set (below_step (below_step (by repeat (first | exact Below.refl _ _ | apply below_alloc)) HB1.out) HBk.out) (by omega)) (by omega)⟩
     obtain ⟨c1, c2, c3⟩ := h
     exact ⟨.tuple #[.int .i64 (size : Int), .int .i64 0], by simp [results, Tryd.f32, go_sem, c1, c2], by rw [HDO.out], c3⟩
  ·rw [if_neg hok] at h2
   cases h2
 ·rw [if_neg he0] at h2
  obtain ⟨rfl, rfl⟩ := Prod.mk.inj (Option.some.inj h2)
  have he1 : (e0 == 0) = false := beq_eq_false_iff_ne.2 he0
  clear h2 hG hr0_1
  gi_wp2_with (first | (gi_at_call 17; refine (callsIn_wide.2 (HRW.out _ (by repeat (first | exact Below.refl _ _ | apply below_alloc)))).mono ?_; rintro e w1 ⟨v0, rfl, hS, hb1⟩; obtain ⟨Ar, cr, rfl⟩ := Kd.S_slice hS; have HB1 := Aside0.mk hb1; have HD := Aside0.mk (blk_below (blk_alloc (blk_new1 w (.cells #[.int .i64 a0_0, .slice A0_1 l0_1.length c0_1, .int .i64 a0_2] 24) (.cells #[.int .i64 0] 3)) (.cells #[.int .i64 0] 27)) hb1); have HE := Aside0.mk (blk_below (blk_new2 w (.cells #[.int .i64 a0_0, .slice A0_1 l0_1.length c0_1, .int .i64 a0_2] 24) (.cells #[.int .i64 0] 3) (.cells #[.int .i64 0] 27)) hb1); have hd0 := blk_cell (blk_alloc HD.out (.cells #[.slice Ar rows.length cr] 29)) 0; have hd1 := blk_frozen (blk_alloc HD.out (.cells #[.slice Ar rows.length cr] 29)) 0; have hee0 := blk_cell (blk_alloc HE.out (.cells #[.slice Ar rows.length cr] 29)) 0; have hee1 := blk_frozen (blk_alloc HE.out (.cells #[.slice Ar rows.length cr] 29)) 0; clear hS hb1) | (refine ⟨trivial, ?_⟩; gi_at_call 17; refine (callsIn_wide.2 (HRW.out _ (by repeat (first | exact Below.refl _ _ | apply below_alloc)))).mono ?_; rintro e w1 ⟨v0, rfl, hS, hb1⟩; obtain ⟨Ar, cr, rfl⟩ := Kd.S_slice hS; have HB1 := Aside0.mk hb1; have HD := Aside0.mk (blk_below (blk_alloc (blk_new1 w (.cells #[.int .i64 a0_0, .slice A0_1 l0_1.length c0_1, .int .i64 a0_2] 24) (.cells #[.int .i64 0] 3)) (.cells #[.int .i64 0] 27)) hb1); have HE := Aside0.mk (blk_below (blk_new2 w (.cells #[.int .i64 a0_0, .slice A0_1 l0_1.length c0_1, .int .i64 a0_2] 24) (.cells #[.int .i64 0] 3) (.cells #[.int .i64 0] 27)) hb1); have hd0 := blk_cell (blk_alloc HD.out (.cells #[.slice Ar rows.length cr] 29)) 0; have hd1 := blk_frozen (blk_alloc HD.out (.cells #[.slice Ar rows.length cr] 29)) 0; have hee0 := blk_cell (blk_alloc HE.out (.cells #[.slice Ar rows.length cr] 29)) 0; have hee1 := blk_frozen (blk_alloc HE.out (.cells #[.slice Ar rows.length cr] 29)) 0; clear hS hb1))
  have hr1 := blk_cell (blk_keep_ (g := w.heap.size + 1) (blk_set (blk_alloc HD.out (.cells #[.slice Ar rows.length cr] 29)) 0 (.int .i64 0)) (w.heap.size + 1 + 1) (by omega) 0 (.int .i64 e0)) 0
  have hr2 := blk_cell (blk_set (blk_keep_ (g := w.heap.size + 1 + 1) (blk_alloc HE.out (.cells #[.slice Ar rows.length cr] 29)) (w.heap.size + 1) (by omega) 0 (.int .i64 0)) 0 (.int .i64 e0)) 0
  refine ⟨_, by simp [results, Tryd.f32, go_sem, hr1, hr2], rfl, ?_⟩
  exact below_set (below_set (below_alloc (below_step (by repeat (first | exact Below.refl _ _ | apply below_alloc)) HB1.out) _) (by omega)) (by omega)
end
end Go.Proofs.YtkadfidmfnpohaaDoor.XB
