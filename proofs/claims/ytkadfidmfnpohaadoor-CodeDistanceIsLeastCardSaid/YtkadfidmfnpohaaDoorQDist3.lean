/- Lemmas for the claim Dist: functions of the program as plain Lean functions, each with its contract, and what is proved of them. -/
import Derived.Test.YtkadfidmfnpohaaDoorQDist1
import Derived.Test.YtkadfidmfnpohaaDoorQDist2
import Derived.RangeFuncNested
import Derived.RangeFuncBound
import Derived.RangeFuncCalls
import Derived.RangeFuncLeaves
import Derived.RangeFuncFrom
import Derived.Shelf.Abstract
import Derived.Shelf.RegionOpen
import Derived.OwnWalkIn
import Derived.TacticsInMore
import Derived.LoopNIn
import Derived.LoopIn
import Derived.TacticsIn
import Derived.RegionIn
namespace Go.Proofs.YtkadfidmfnpohaaDoor.XB
open Go.RowKit Go.Proofs.YtkadfidmfnpohaaDoorW.PrintWords Go.Proofs.YtkadfidmfnpohaaDoorW.PrintLast Go.Proofs.YtkadfidmfnpohaaDoorW.PrintMore
set_option linter.unusedVariables false
set_option linter.unusedSimpArgs false

/-! ### code_stairs_sorted: function 68 -/
def atPlace (a : Nat) (x : List Int × ByteArray) : Bool := fstIdx x.1 == a
def sortUpto (st : St) (a : Nat) : St := (List.range a).flatMap fun i => st.filter (atPlace i)
def sortSt (width : Nat) (st : St) : St := sortUpto st width
theorem sortUpto_succ (st : St) (a : Nat) : sortUpto st (a + 1) = sortUpto st a ++ st.filter (atPlace a) := by simp [sortUpto, List.range_succ]
theorem sortUpto_mem {st : St} {a : Nat} {x : List Int × ByteArray} (h : x ∈ sortUpto st a) : x ∈ st := by
 simp only [sortUpto, List.mem_flatMap] at h
 obtain ⟨i, _, hx⟩ := h
 exact (List.mem_filter.1 hx).1
theorem sortUpto_length (st : St) : ∀ a, (sortUpto st a).length ≤ a * st.length
 | 0 => by simp [sortUpto]
 | a + 1 => by
  rw [sortUpto_succ, List.length_append, Nat.succ_mul]
  exact Nat.add_le_add (sortUpto_length st a) (List.length_filter_le _ _)
theorem filter_take_succ (st : St) (a : Nat) {k : Nat} (h : k < st.length) : (st.take (k + 1)).filter (atPlace a) = (st.take k).filter (atPlace a) ++ (if fstIdx st[k].1 = a then [st[k]] else []) := by
 rw [List.take_succ_eq_append_getElem h, List.filter_append]
 congr 1
 by_cases e : fstIdx st[k].1 = a
 ·rw [if_pos e]; simp [atPlace, e]
 ·rw [if_neg e]; simp [atPlace, e]
/-- A slice's header. -/
abbrev Hd := Option Addr × Nat × Nat
def encH (h : Hd) : Value := .slice h.1 h.2.1 h.2.2
/-- Stairs whose rows lie elsewhere. -/
def StairsUp (gt base width : Nat) (w W : World) (st : St) : Prop :=
 ∃ vr vp, ∃ hs : List Hd, W.heap[gt]? = some (.cells #[vr, vp, .int .i64 (width : Int)] 117 (0, 0)) ∧ (Kd.scalar encH (fun _ => rfl)).R 57 W base (fun _ => True) vr hs ∧ Kd.R Kd.string 9 W base (fun _ => True) vp (st.map Prod.snd) ∧
  hs.length = st.length ∧ ∀ k (h : k < st.length) (h2 : k < hs.length), hs[k].2.1 = st[k].1.length ∧ st[k].1.length ≤ hs[k].2.2 ∧ (Kd.int .u8).C w hs[k].1 st[k].1.length st[k].1
theorem StairsUp.below {gt base width : Nat} {w W W1 : World} {st : St} (h : StairsUp gt base width w W st) (hb : Below W.heap.size W W1) : StairsUp gt base width w W1 st := by
 obtain ⟨vr, vp, hs, h1, h2, h3, h4⟩ := h
 exact ⟨vr, vp, hs, blk_below h1 hb, Kd.R_below h2 hb, Kd.R_below h3 hb, h4⟩
theorem StairsUp.rd {gt base width : Nat} {w W : World} {st : St} (h : StairsUp gt base width w W st) (hb : Below w.heap.size w W) : StairsRd gt width W st := by
 obtain ⟨vr, vp, hs, h1, h2, h3, h4, h5⟩ := h
 have hsl : (st.map Prod.snd).length = st.length := List.length_map ..
 obtain ⟨Ar, cr, er, hcr, hCr⟩ := Kd.R_reads h2
 obtain ⟨Ap, cp, ep, hcp, hCp⟩ := Kd.R_reads h3
 rw [hsl] at ep hcp hCp
 rw [h4] at er hcr
 subst er ep
 refine ⟨Ar, cr, Ap, cp, h1, hcr, hcp, fun k hk => ?_, fun k hk => ?_⟩
 ·obtain ⟨e1, e2, e3⟩ := h5 k hk (by omega)
  obtain ⟨g, rfl⟩ : ∃ g, Ar = some ⟨g, 0, none⟩ := by
   obtain ⟨g, cap, e, _⟩ := Kd.R_form h2 (by omega)
   injection e with e _ _
   exact ⟨g, e⟩
  have := (Kd.R_celln ((none, 0, 0) : Hd) h2 ((k : Nat) : Int) (by omega) (by omega)).1
  rw [Int.toNat_natCast] at this
  refine ⟨_, hs[k].1, hs[k].2.2, rfl, ?_, e2, Kd.C_below e3 hb⟩
  rw [show ((⟨g, 0, none⟩ : Addr).add k) = ⟨g, k, none⟩ by rw [add_plain]]
  rw [this, ← e1]
  have : rdOf ((none, 0, 0) : Hd) hs (k : Int) = hs[k] := by simp [rdOf, List.getD_eq_getElem?_getD, List.getElem?_eq_getElem (show k < hs.length by omega)]
  rw [this]; rfl
 ·have := at_string_nat hCp k hk
  rwa [rdS st hk] at this
section
variable {P : Program} {ops : Array Oper} {o : Oper} {a : Act} {Q : Exit → Act → World → Prop} {Kc : Act → World → Prop}
/-- append(v, x) in a region that draws its order: x lies in a block that is known. -/
theorem append_one_step {α : Type} (enc : α → Value) {h1 : ∀ x, (enc x).oneCell' = true} {w0 W : World} (base : Nat) (hw : Region.wanted o (yielded ops a.tmps) = true) (s x : Operand) (t e : TypeId) (z : Value) (bytes : Nat)
  (ho : o.op = .call { callee := .builtin .append, args := #[s, x], argTypes := #[t, t] })
  (ht : P.underlying t = some (.slice e)) (hinfo : (P.info? e).map (fun i => (i.zero, i.size, i.bytes)) = some (some z, 1, bytes)) (hz : z.cells.size = 1) (hb0 : 0 < bytes)
  (v : Value) (xs : List α) (p : α) (gb : Nat) (te : TypeId) (hs : a.eval s = v) (hx : a.eval x = .slice (some ⟨gb, 0, none⟩) 1 1) (hgb : W.heap[gb]? = some (.cells #[enc p] te (0, 0)))
  (HO : (Kd.scalar enc h1).R e W base (fun _ => True) v xs) (HB : Below base w0 W) (hbase : base ≤ W.heap.size) (hl : (xs.length + 1) * bytes ≤ 140737488355328)
  (h : ∀ v1 w1, (Kd.scalar enc h1).R e w1 base (fun _ => True) v1 (xs ++ [p]) → Below base w0 w1 → W.grownBy w1 v.ownBlock → (v1.ownBlock = v.ownBlock ∨ ∃ b, v1.ownBlock = some b ∧ W.heap.size ≤ b) → Kc (a.put o.dst v1) w1) :
  if Region.wanted o (yielded ops a.tmps) = true then Oper.wp P o a W Kc Q else Kc (a.put o.dst undef) W := by
 refine Kd.R_append_rows_step (Kd.scalar enc h1) (Rr := fun x cs => cs = [enc x]) base hw s x t e z bytes ho ht hinfo hz Nat.zero_lt_one hb0 v xs [p] (some ⟨gb, 0, none⟩) 1 1 (fun _ => True) (fun _ => False) hs hx HO ⟨rfl, by decide, fun _ => ⟨_, rfl, fun j q hj => ?_⟩⟩ (fun _ _ h => h) (fun _ hk => hk.elim) (fun _ _ => trivial) HB hbase hl h
 cases j with
 | succ j => simp at hj
 | zero =>
  obtain rfl : p = q := by simpa using hj
  refine ⟨[enc p], rfl, rfl, fun i u hu => ?_⟩
  cases i with
  | succ i => simp at hu
  | zero =>
   obtain rfl : enc p = u := by simpa using hu
   rw [add_plain]
   exact blk_cell hgb 0
end
set_option maxHeartbeats 4000000 in
set_option maxRecDepth 100000 in
theorem code_stairs_sorted.calls (gs width M : Nat) (w : World) (st : St) (hG : HG w) (hS : StairsRd gs width w st) (hwf : WfSt width M st) (hst : st.length < 1000) (hw2 : width < 1000) (hM : M ≤ 140737488351232) :
  Calls Tryd.prog 68 #[.pointer (some ⟨gs, 0, none⟩)] w fun e w' => ∃ v, e = .returned v ∧ Kd.R Kd.string 9 w' w.heap.size (fun _ => True) v (solveRev width (sortSt width st)) ∧ Below w.heap.size w w' := by
 obtain ⟨Ar, cr, Ap, cp, hb, hcr, hcp, hCr, hCp⟩ := hS
 obtain ⟨N, hN⟩ : ∃ N : Nat, N = st.length := ⟨_, rfl⟩
 have HCR := Aside0.mk hCr
 have HCP := Aside0.mk hCp
 rw [← hN] at hst hb hcr hcp
 have hcz0 : w.cell? ⟨gs, 0, none⟩ = some (.slice Ar N cr) := blk_cell hb 0
 have hcz2 : w.cell? ⟨gs, 2, none⟩ = some (.int .i64 (width : Int)) := blk_cell hb 2
 have HGw := Aside0.mk hG
 have HBK := Aside0.mk hb
 have HWF := Aside0.mk hwf
 have hgl : gs < w.heap.size := blk_lt hb
 have HN := Aside0.mk hN
 have hu117 := Tryd.underlying117
 clear hG hb hCr hCp hwf hN
 go_enter Tryd.func68, Tryd.ntmps68
 go_wp2
 have HI0 : Aside0 (StairsUp w.heap.size w.heap.size width w (w.alloc (.cells #[.slice none 0 0, .slice none 0 0, .int .i64 (width : Int)] 117)) (sortUpto st 0)) := ⟨_, _, [], blk_new _ _, Kd.R_nil _ _ _ _ _, Kd.R_nil _ _ _ _ _, rfl, fun k h => absurd h (Nat.not_lt_zero k)⟩
 clear hcz0 hcz2
 go_loopw [17] (fun v W => ∃ a : Nat, a ≤ width ∧ v = .int .i64 (a : Int) ∧ Aside0 (StairsUp w.heap.size w.heap.size width w W (sortUpto st a)) ∧ Aside0 (Below w.heap.size w W)) (fun v _ => width - (intOf v).toNat)
 case atStart => exact ⟨0, Nat.zero_le _, rfl, HI0, ⟨below_alloc (Below.refl _ _) _⟩⟩
 case round =>
  clear HI0
  obtain ⟨a, ha, rfl, HS, HB⟩ := hrel
  by_cases hlt : a < width
  ·have hbk := blk_below HBK.out HB.out
   have hcz0 : wr.cell? ⟨gs, 0, none⟩ = some (.slice Ar N cr) := blk_cell hbk 0
   clear hbk
   go_wp2
   obtain ⟨wo, rfl⟩ : ∃ wo : World, wo = wr := ⟨_, rfl⟩
   go_loopw [25] (fun v W => ∃ k : Nat, k ≤ N ∧ v = .int .i64 (k : Int) ∧ Aside0 (StairsUp w.heap.size w.heap.size width w W (sortUpto st a ++ (st.take k).filter (atPlace a))) ∧ Aside0 (Below w.heap.size w W)) (fun v _ => N - (intOf v).toNat)
   case atStart => exact ⟨0, Nat.zero_le _, rfl, ⟨by rw [List.take_zero, List.filter_nil, List.append_nil]; exact HS.out⟩, HB⟩
   case round =>
    clear hcz0 HS HB
    obtain ⟨k, hk, rfl, HS, HB⟩ := hrel
    by_cases hlt2 : k < N
    ·have his : k < st.length := by have := HN.out; omega
     obtain ⟨⟨hxB, hxl, hxM⟩, hxf⟩ := HWF.out _ (List.getElem_mem his)
     have HF := Aside0.mk (filter_take_succ st a his)
     have HLN := Aside0.mk (show (sortUpto st a ++ (st.take k).filter (atPlace a)).length ≤ 1000000 by
      have h1 := sortUpto_length st a
      have h2 := List.length_filter_le (atPlace a) (st.take k)
      have h3 : a * st.length ≤ 999 * 999 := Nat.mul_le_mul (by omega) (by have := HN.out; omega)
      rw [List.length_append]
      rw [List.length_take] at h2
      have := HN.out
      omega)
     obtain ⟨ad0, A0, c0, rfl, hx0, hx1, hx2⟩ := HCR.out k his
     obtain ⟨ad1, rfl, hq0⟩ := HCP.out k his
     generalize st[k] = xq at hxB hxl hxM hxf HF hx0 hx1 hx2 hq0
     obtain ⟨x, q⟩ := xq
     dsimp only at hxB hxl hxM hxf hx0 hx1 hx2 hq0 HF
     have HX2 := Aside0.mk hx2
     have HQ0 := Aside0.mk hq0
     have HXL := Aside0.mk hxl
     rw [hxl] at hx0 hx1
     replace hx0 := pw_cell_below HB.out hx0
     have HF1 := Aside0.mk (show ∀ W, Below wr.heap.size wr W → Calls Tryd.prog 92 #[.slice A0 width c0] W fun e w' => e = .returned (.int .i64 ((fstIdx x : Nat) : Int)) ∧ Drawn0 W w' from by
      intro W hb
      have := code_first.fst A0 c0 x W ((HGw.out.below HB.out).below hb) (Kd.C_below HX2.out (below_step HB.out hb)) (by rw [HXL.out]; exact hx1) (by rw [HXL.out]; omega)
      rw [HXL.out] at this
      exact this)
     clear hx2 hq0 hxl
     generalize hfe : fstIdx x = fi at HF1 hxf HF
     clear hfe
     by_cases hfa : fi = a
     ·subst hfa
      have hb1 : ((fi : Int) == (fi : Int)) = true := beq_self_eq_true _
      have hf := HF.out
      rw [if_pos rfl] at hf
      have HF2 := Aside0.mk hf
      clear hf
      go_wp2_with (go_at_call 92; (with_reducible refine (HF1.out _ (Below.refl _ _)).mono ?_); rintro e w' ⟨rfl, ⟨nd, rfl⟩⟩)
      have HSp := Aside0.mk (HS.out.below (pw_below_drewN (Below.refl _ _) nd))
      have HBp := Aside0.mk (pw_below_drewN HB.out nd)
      generalize wr.drewN nd = wp at *
      have HBd := Aside0.mk (below_drew HBp.out)
      have hSd := HSp.out.below (below_drew (Below.refl _ _))
      clear HS HB HF1 hx0 HSp HBp
      generalize hTe : sortUpto st fi ++ (st.take k).filter (atPlace fi) = T at HLN hSd
      have HTE := Aside0.mk hTe
      clear hTe
      obtain ⟨vr, vp, hs, hbk, hR, hP, hlen, hall⟩ := hSd
      obtain ⟨Ht, hc, ev⟩ := Kd.R_slice hR
      obtain ⟨Pt, pc, ew⟩ := Kd.R_slice hP
      obtain ⟨tn, htn⟩ : ∃ tn : Nat, tn = T.length := ⟨_, rfl⟩
      rw [List.length_map, ← htn] at ew
      rw [hlen, ← htn] at ev
      subst ev ew
      have HT := Aside0.mk hbk
      have HRc := Aside0.mk hR
      have HPc := Aside0.mk hP
      have HBc := Aside0.mk HBd.out
      have HLE := Aside0.mk hlen
      have HALL := Aside0.mk hall
      have HNE1 := Aside0.mk (Kd.R_ne hR hbk (by decide))
      have HNE2 := Aside0.mk (Kd.R_ne hP hbk (by decide))
      have hHT := Aside0.mk htn
      clear hbk hR hP hlen hall htn HBd
      refine start_ (n := 28) (S := fun w' => w'.cell? ⟨w.heap.size, 0, none⟩ = some (.slice Ht tn hc) ∧ w'.cell? ⟨w.heap.size, 1, none⟩ = some (.slice Pt tn pc) ∧ w'.cell? ⟨gs, 1, none⟩ = some (.slice (some ad1) N cp) ∧ w'.cell? (ad1.add k) = some (.string q)) (ds := [24, 27]) #[false, false, false, false, false, false, false, false, false, false, false, false, false, false, false, false, false, false, false, false, false, false, false, false, false, false, false, false] (by kernel_rfl) rfl rfl ⟨blk_cell HT.out 0, blk_cell HT.out 1, blk_cell (blk_below HBK.out HBc.out) 1, pw_cell_below HBc.out HQ0.out⟩ (fun hHeld => ?_)
      generalize wp.drew = wd at *
      refine pure_ (i := 0) (N := some 34) (v := ?_) (a' := ?_) #[true, false, false, false, false, false, false, false, false, false, false, false, false, false, false, false, false, false, false, false, false, false, false, false, false, false, false, false] rfl rfl (by kernel_rfl) (fun _ _ _ h => h) (Or.inl ⟨by rfl, ?_⟩) ?_ ?_
      rotate_left
      ·intro w'
       go_simp
       with_reducible rfl
      rotate_left
      ·simp only [Act.put, List.setIfInBounds_toArray, List.set_cons_zero, List.set_cons_succ, i64_w, i32_w]
       rfl
      refine pure_ (i := 1) (N := some 35) (v := ?_) (a' := ?_) #[true, true, false, false, false, false, false, false, false, false, false, false, false, false, false, false, false, false, false, false, false, false, false, false, false, false, false, false] rfl rfl (by kernel_rfl) (fun _ _ _ h => h) (Or.inl ⟨by rfl, ?_⟩) ?_ ?_
      rotate_left
      ·intro w'
       go_simp
       with_reducible rfl
      rotate_left
      ·simp only [Act.put, List.setIfInBounds_toArray, List.set_cons_zero, List.set_cons_succ, i64_w, i32_w]
       rfl
      refine pure_ (i := 2) (N := some 36) (v := ?_) (a' := ?_) #[true, true, true, false, false, false, false, false, false, false, false, false, false, false, false, false, false, false, false, false, false, false, false, false, false, false, false, false] rfl rfl (by kernel_rfl) (fun _ _ _ h => h) (Or.inl ⟨by rfl, ?_⟩) ?_ ?_
      rotate_left
      ·intro w'
       go_simp
       with_reducible rfl
      rotate_left
      ·simp only [Act.put, List.setIfInBounds_toArray, List.set_cons_zero, List.set_cons_succ, i64_w, i32_w]
       rfl
      refine pure_ (i := 3) (N := some 37) (v := ?_) (a' := ?_) #[true, true, true, true, false, false, false, false, false, false, false, false, false, false, false, false, false, false, false, false, false, false, false, false, false, false, false, false] rfl rfl (by kernel_rfl) (fun _ _ _ h => h) (Or.inl ⟨by rfl, ?_⟩) ?_ ?_
      rotate_left
      ·intro w'
       go_simp
       with_reducible rfl
      rotate_left
      ·simp only [Act.put, List.setIfInBounds_toArray, List.set_cons_zero, List.set_cons_succ, i64_w, i32_w]
       rfl
      refine pure_ (i := 4) (N := some 38) (v := ?_) (a' := ?_) #[true, true, true, true, true, false, false, false, false, false, false, false, false, false, false, false, false, false, false, false, false, false, false, false, false, false, false, false] rfl rfl (by kernel_rfl) (fun _ _ _ h => h) (Or.inl ⟨by rfl, ?_⟩) ?_ ?_
      rotate_left
      ·intro w'
       go_simp
       with_reducible rfl
      rotate_left
      ·simp only [Act.put, List.setIfInBounds_toArray, List.set_cons_zero, List.set_cons_succ, i64_w, i32_w]
       rfl
      refine pure_ (i := 6) (N := some 40) (v := ?_) (a' := ?_) #[true, true, true, true, true, false, true, false, false, false, false, false, false, false, false, false, false, false, false, false, false, false, false, false, false, false, false, false] rfl rfl (by kernel_rfl) (fun _ _ _ h => h) (Or.inl ⟨by rfl, ?_⟩) ?_ ?_
      rotate_left
      ·intro w'
       go_simp
       with_reducible rfl
      rotate_left
      ·simp only [Act.put, List.setIfInBounds_toArray, List.set_cons_zero, List.set_cons_succ, i64_w, i32_w]
       rfl
      refine pure_ (i := 9) (N := some 43) (v := ?_) (a' := ?_) #[true, true, true, true, true, false, true, false, false, true, false, false, false, false, false, false, false, false, false, false, false, false, false, false, false, false, false, false] rfl rfl (by kernel_rfl) (fun _ _ _ h => h) (Or.inl ⟨by rfl, ?_⟩) ?_ ?_
      rotate_left
      ·intro w'
       go_simp
       with_reducible rfl
      rotate_left
      ·simp only [Act.put, List.setIfInBounds_toArray, List.set_cons_zero, List.set_cons_succ, i64_w, i32_w]
       rfl
      refine pure_ (i := 10) (N := some 44) (v := ?_) (a' := ?_) #[true, true, true, true, true, false, true, false, false, true, true, false, false, false, false, false, false, false, false, false, false, false, false, false, false, false, false, false] rfl rfl (by kernel_rfl) (fun _ _ _ h => h) (Or.inl ⟨by rfl, ?_⟩) ?_ ?_
      rotate_left
      ·intro w'
       go_simp
       with_reducible rfl
      rotate_left
      ·simp only [Act.put, List.setIfInBounds_toArray, List.set_cons_zero, List.set_cons_succ, i64_w, i32_w]
       rfl
      refine pure_ (i := 11) (N := some 45) (v := ?_) (a' := ?_) #[true, true, true, true, true, false, true, false, false, true, true, true, false, false, false, false, false, false, false, false, false, false, false, false, false, false, false, false] rfl rfl (by kernel_rfl) (fun _ _ _ h => h) (Or.inl ⟨by rfl, ?_⟩) ?_ ?_
      rotate_left
      ·intro w'
       go_simp
       with_reducible rfl
      rotate_left
      ·simp only [Act.put, List.setIfInBounds_toArray, List.set_cons_zero, List.set_cons_succ, i64_w, i32_w]
       rfl
      refine pure_ (i := 13) (N := some 47) (v := ?_) (a' := ?_) #[true, true, true, true, true, false, true, false, false, true, true, true, false, true, false, false, false, false, false, false, false, false, false, false, false, false, false, false] rfl rfl (by kernel_rfl) (fun _ _ _ h => h) (Or.inl ⟨by rfl, ?_⟩) ?_ ?_
      rotate_left
      ·intro w'
       go_simp
       with_reducible rfl
      rotate_left
      ·simp only [Act.put, List.setIfInBounds_toArray, List.set_cons_zero, List.set_cons_succ, i64_w, i32_w]
       rfl
      refine pure_ (i := 14) (N := some 48) (v := ?_) (a' := ?_) #[true, true, true, true, true, false, true, false, false, true, true, true, false, true, true, false, false, false, false, false, false, false, false, false, false, false, false, false] rfl rfl (by kernel_rfl) (fun _ _ _ h => h) (Or.inl ⟨by rfl, ?_⟩) ?_ ?_
      rotate_left
      ·intro w'
       go_simp
       with_reducible rfl
      rotate_left
      ·simp only [Act.put, List.setIfInBounds_toArray, List.set_cons_zero, List.set_cons_succ, i64_w, i32_w]
       rfl
      refine pure_ (i := 15) (N := some 49) (v := ?_) (a' := ?_) #[true, true, true, true, true, false, true, false, false, true, true, true, false, true, true, true, false, false, false, false, false, false, false, false, false, false, false, false] rfl rfl (by kernel_rfl) (fun _ _ _ h => h) (Or.inl ⟨by rfl, ?_⟩) ?_ ?_
      rotate_left
      ·intro w'
       go_simp
       with_reducible rfl
      rotate_left
      ·simp only [Act.put, List.setIfInBounds_toArray, List.set_cons_zero, List.set_cons_succ, i64_w, i32_w]
       rfl
      refine pure_ (i := 17) (N := some 51) (v := ?_) (a' := ?_) #[true, true, true, true, true, false, true, false, false, true, true, true, false, true, true, true, false, true, false, false, false, false, false, false, false, false, false, false] rfl rfl (by kernel_rfl) (fun _ _ _ h => h) (Or.inl ⟨by rfl, ?_⟩) ?_ ?_
      rotate_left
      ·intro w'
       go_simp
       with_reducible rfl
      rotate_left
      ·simp only [Act.put, List.setIfInBounds_toArray, List.set_cons_zero, List.set_cons_succ, i64_w, i32_w]
       rfl
      refine take_ (i := 5) (N := some 39) (v := ?_) (a' := ?_) #[true, true, true, true, true, true, true, false, false, true, true, true, false, true, true, true, false, true, false, false, false, false, false, false, false, false, false, false] rfl rfl (by kernel_rfl) (fun _ _ _ h => h) (Or.inl ⟨by rfl, ?_⟩) hHeld ?_ ?_
      rotate_left
      ·rintro w' ⟨s0, s1, s2, s3⟩
       go_simp
       with_reducible rfl
      rotate_left
      ·simp only [Act.put, List.setIfInBounds_toArray, List.set_cons_zero, List.set_cons_succ, i64_w, i32_w]
       rfl
      refine take_ (i := 12) (N := some 46) (v := ?_) (a' := ?_) #[true, true, true, true, true, true, true, false, false, true, true, true, true, true, true, true, false, true, false, false, false, false, false, false, false, false, false, false] rfl rfl (by kernel_rfl) (fun _ _ _ h => h) (Or.inl ⟨by rfl, ?_⟩) hHeld ?_ ?_
      rotate_left
      ·rintro w' ⟨s0, s1, s2, s3⟩
       go_simp
       with_reducible rfl
      rotate_left
      ·simp only [Act.put, List.setIfInBounds_toArray, List.set_cons_zero, List.set_cons_succ, i64_w, i32_w]
       rfl
      refine take_ (i := 16) (N := some 50) (v := ?_) (a' := ?_) #[true, true, true, true, true, true, true, false, false, true, true, true, true, true, true, true, true, true, false, false, false, false, false, false, false, false, false, false] rfl rfl (by kernel_rfl) (fun _ _ _ h => h) (Or.inl ⟨by rfl, ?_⟩) hHeld ?_ ?_
      rotate_left
      ·rintro w' ⟨s0, s1, s2, s3⟩
       go_simp
       with_reducible rfl
      rotate_left
      ·simp only [Act.put, List.setIfInBounds_toArray, List.set_cons_zero, List.set_cons_succ, i64_w, i32_w]
       rfl
      refine pure_ (i := 18) (N := some 52) (v := ?_) (a' := ?_) #[true, true, true, true, true, true, true, false, false, true, true, true, true, true, true, true, true, true, true, false, false, false, false, false, false, false, false, false] rfl rfl (by kernel_rfl) (fun _ _ _ h => h) (Or.inl ⟨by rfl, ?_⟩) ?_ ?_
      rotate_left
      ·intro w'
       go_simp
       with_reducible rfl
      rotate_left
      ·simp only [Act.put, List.setIfInBounds_toArray, List.set_cons_zero, List.set_cons_succ, i64_w, i32_w]
       rfl
      refine take_ (i := 19) (N := some 53) (v := ?_) (a' := ?_) #[true, true, true, true, true, true, true, false, false, true, true, true, true, true, true, true, true, true, true, true, false, false, false, false, false, false, false, false] rfl rfl (by kernel_rfl) (fun _ _ _ h => h) (Or.inl ⟨by rfl, ?_⟩) hHeld ?_ ?_
      rotate_left
      ·rintro w' ⟨s0, s1, s2, s3⟩
       go_simp
       with_reducible rfl
      rotate_left
      ·simp only [Act.put, List.setIfInBounds_toArray, List.set_cons_zero, List.set_cons_succ, i64_w, i32_w]
       rfl
      refine join_ (σ := (Nat × Nat × Option Addr × Nat × Nat)) 7 #[true, true, true, true, true, true, true, true, true, true, true, true, true, true, true, true, true, true, true, true, true, false, false, false, false, false, false, false] (fun s => [(41, .slice (some ⟨s.1, 0, none⟩) 1 1), (42, .slice s.2.2.1 s.2.2.2.1 s.2.2.2.2), (54, .slice (some ⟨s.2.1, 0, none⟩) 1 1)]) (fun s w' => (w'.cell? ⟨w.heap.size, 0, none⟩ = some (.slice Ht tn hc) ∧ w'.cell? ⟨w.heap.size, 1, none⟩ = some (.slice Pt tn pc) ∧ w'.cell? ⟨gs, 1, none⟩ = some (.slice (some ad1) N cp) ∧ w'.cell? (ad1.add k) = some (.string q)) ∧ w'.heap[w.heap.size]? = some (.cells #[.slice Ht tn hc, .slice Pt tn pc, .int .i64 (width : Int)] 117 (0, 0)) ∧ Below w.heap.size w w' ∧ (Kd.scalar encH (fun _ => rfl)).R 57 w' w.heap.size (fun _ => True) (.slice s.2.2.1 s.2.2.2.1 s.2.2.2.2) (hs ++ [((A0, width, c0) : Hd)]) ∧ Kd.R Kd.string 9 w' w.heap.size (fun _ => True) (.slice Pt tn pc) (T.map Prod.snd) ∧ w'.heap[s.2.1]? = some (.cells #[.string q] 9 (0, 0))) ?_ ?_
      rotate_left
      ·intro hCont
       refine two_ (i := 7) (j := 20) (Ni := some 41) (Nj := some 54) #[true, true, true, true, true, true, true, true, false, true, true, true, true, true, true, true, true, true, true, true, false, false, false, false, false, false, false, false] #[true, true, true, true, true, true, true, false, false, true, true, true, true, true, true, true, true, true, true, true, true, false, false, false, false, false, false, false] rfl rfl rfl rfl (by kernel_rfl) (by decide) (by decide) (fun K hK => ?_) (fun K hK => ?_)
       ·skip
        refine value_ (w1 := ?_) (v := ?_) (by rfl) rfl ?_ ?_
        rotate_left 2
        ·go_simp
         constructor
         ·rfl
         ·rfl
        have HG := Aside0.mk (blk_new wd (.cells #[.slice A0 width c0] 57))
        have n_ := Aside0.mk (blk_alloc HT.out (.cells #[.slice A0 width c0] 57))
        clear HT
        have HT := n_
        clear n_
        have n_ := Aside0.mk (Kd.R_alloc HRc.out (.cells #[.slice A0 width c0] 57))
        clear HRc
        have HRc := n_
        clear n_
        have n_ := Aside0.mk (Kd.R_alloc HPc.out (.cells #[.slice A0 width c0] 57))
        clear HPc
        have HPc := n_
        clear n_
        have n_ := Aside0.mk (below_alloc HBc.out (.cells #[.slice A0 width c0] 57))
        clear HBc
        have HBc := n_
        clear n_
        clear hHeld
        generalize World.alloc wd (.cells #[.slice A0 width c0] 57) = w7 at *
        generalize wd.heap.size = gh at *
        refine hK.out _ _ ⟨blk_cell HT.out 0, blk_cell HT.out 1, blk_cell (blk_below HBK.out HBc.out) 1, pw_cell_below HBc.out HQ0.out⟩ (fun hHeld => ?_)
        clear hK K
        refine norm_ (a' := ?_) ?_ ?_
        rotate_left
        ·show Act.put _ (some 41) _ = _
         simp only [Act.put, List.setIfInBounds_toArray, List.set_cons_zero, List.set_cons_succ, i64_w, i32_w]
         rfl
        refine two_ (i := 8) (j := 20) (Ni := some 42) (Nj := some 54) #[true, true, true, true, true, true, true, true, true, true, true, true, true, true, true, true, true, true, true, true, false, false, false, false, false, false, false, false] #[true, true, true, true, true, true, true, true, false, true, true, true, true, true, true, true, true, true, true, true, true, false, false, false, false, false, false, false] rfl rfl rfl rfl (by kernel_rfl) (by decide) (by decide) (fun K hK => ?_) (fun K hK => ?_)
        ·skip
         refine append_one_step encH (w0 := w) w.heap.size (by rfl) (.tmp 39) (.tmp 41) 29 57 (.slice none 0 0) 24 rfl Tryd.underlying29 info57 rfl (by omega) (.slice Ht tn hc) hs ((A0, width, c0) : Hd) gh 57 rfl rfl HG.out HRc.out HBc.out HBc.out.size ?aL ?_
         (case aL => rw [HLE.out]; have := HLN.out; omega)
         intro v1 w3 ho hb hg hat
         obtain ⟨A1, c1, hv1⟩ := Kd.R_slice ho
         generalize (hs ++ [((A0, width, c0) : Hd)]).length = n1 at hv1
         subst hv1
         have n_ := Aside0.mk (blk_grown HT.out hg HNE1.out)
         clear HT
         have HT := n_
         clear n_
         have n_ := Aside0.mk (Kd.R_over HPc.out HRc.out (by decide) hg)
         clear HPc
         have HPc := n_
         clear n_
         clear HRc HBc HG hHeld
         have HRc := Aside0.mk ho
         have HBc := Aside0.mk hb
         clear ho hb hg hat
         refine hK.out _ _ ⟨blk_cell HT.out 0, blk_cell HT.out 1, blk_cell (blk_below HBK.out HBc.out) 1, pw_cell_below HBc.out HQ0.out⟩ (fun hHeld => ?_)
         clear hK K
         refine norm_ (a' := ?_) ?_ ?_
         rotate_left
         ·show Act.put _ (some 42) _ = _
          simp only [Act.put, List.setIfInBounds_toArray, List.set_cons_zero, List.set_cons_succ, i64_w, i32_w]
          rfl
         refine one_ (i := 20) (N := some 54) #[true, true, true, true, true, true, true, true, true, true, true, true, true, true, true, true, true, true, true, true, true, false, false, false, false, false, false, false] rfl rfl (by kernel_rfl) (by decide) (fun K hK => ?_)
         refine value_ (w1 := ?_) (v := ?_) (by rfl) rfl ?_ ?_
         rotate_left 2
         ·go_simp
          constructor
          ·rfl
          ·rfl
         have HQ := Aside0.mk (blk_new w3 (.cells #[.string q] 9))
         have n_ := Aside0.mk (blk_alloc HT.out (.cells #[.string q] 9))
         clear HT
         have HT := n_
         clear n_
         have n_ := Aside0.mk (Kd.R_alloc HRc.out (.cells #[.string q] 9))
         clear HRc
         have HRc := n_
         clear n_
         have n_ := Aside0.mk (Kd.R_alloc HPc.out (.cells #[.string q] 9))
         clear HPc
         have HPc := n_
         clear n_
         have n_ := Aside0.mk (below_alloc HBc.out (.cells #[.string q] 9))
         clear HBc
         have HBc := n_
         clear n_
         clear hHeld
         generalize World.alloc w3 (.cells #[.string q] 9) = w20 at *
         generalize w3.heap.size = gq at *
         refine hK.out _ _ ⟨blk_cell HT.out 0, blk_cell HT.out 1, blk_cell (blk_below HBK.out HBc.out) 1, pw_cell_below HBc.out HQ0.out⟩ (fun hHeld => ?_)
         clear hK K
         refine norm_ (a' := ?_) ?_ ?_
         rotate_left
         ·show Act.put _ (some 54) _ = _
          simp only [Act.put, List.setIfInBounds_toArray, List.set_cons_zero, List.set_cons_succ, i64_w, i32_w]
          rfl
         exact norm_ (by simp only [putAll, Act.put, List.setIfInBounds_toArray, List.set_cons_zero, List.set_cons_succ]) (hCont (gh, gq, A1, n1, c1) _ ⟨hHeld, HT.out, HBc.out, HRc.out, HPc.out, HQ.out⟩)
        ·skip
         refine value_ (w1 := ?_) (v := ?_) (by rfl) rfl ?_ ?_
         rotate_left 2
         ·go_simp
          constructor
          ·rfl
          ·rfl
         have HQ := Aside0.mk (blk_new w7 (.cells #[.string q] 9))
         have n_ := Aside0.mk (blk_alloc HT.out (.cells #[.string q] 9))
         clear HT
         have HT := n_
         clear n_
         have n_ := Aside0.mk (Kd.R_alloc HRc.out (.cells #[.string q] 9))
         clear HRc
         have HRc := n_
         clear n_
         have n_ := Aside0.mk (Kd.R_alloc HPc.out (.cells #[.string q] 9))
         clear HPc
         have HPc := n_
         clear n_
         have n_ := Aside0.mk (below_alloc HBc.out (.cells #[.string q] 9))
         clear HBc
         have HBc := n_
         clear n_
         have n_ := Aside0.mk (blk_alloc HG.out (.cells #[.string q] 9))
         clear HG
         have HG := n_
         clear n_
         clear hHeld
         generalize World.alloc w7 (.cells #[.string q] 9) = w20 at *
         generalize w7.heap.size = gq at *
         refine hK.out _ _ ⟨blk_cell HT.out 0, blk_cell HT.out 1, blk_cell (blk_below HBK.out HBc.out) 1, pw_cell_below HBc.out HQ0.out⟩ (fun hHeld => ?_)
         clear hK K
         refine norm_ (a' := ?_) ?_ ?_
         rotate_left
         ·show Act.put _ (some 54) _ = _
          simp only [Act.put, List.setIfInBounds_toArray, List.set_cons_zero, List.set_cons_succ, i64_w, i32_w]
          rfl
         refine one_ (i := 8) (N := some 42) #[true, true, true, true, true, true, true, true, true, true, true, true, true, true, true, true, true, true, true, true, true, false, false, false, false, false, false, false] rfl rfl (by kernel_rfl) (by decide) (fun K hK => ?_)
         refine append_one_step encH (w0 := w) w.heap.size (by rfl) (.tmp 39) (.tmp 41) 29 57 (.slice none 0 0) 24 rfl Tryd.underlying29 info57 rfl (by omega) (.slice Ht tn hc) hs ((A0, width, c0) : Hd) gh 57 rfl rfl HG.out HRc.out HBc.out HBc.out.size ?aL ?_
         (case aL => rw [HLE.out]; have := HLN.out; omega)
         intro v1 w3 ho hb hg hat
         obtain ⟨A1, c1, hv1⟩ := Kd.R_slice ho
         generalize (hs ++ [((A0, width, c0) : Hd)]).length = n1 at hv1
         subst hv1
         have n_ := Aside0.mk (blk_grown HT.out hg HNE1.out)
         clear HT
         have HT := n_
         clear n_
         have n_ := Aside0.mk (blk_grown HQ.out hg (Kd.R_ne HRc.out HQ.out (by decide)))
         clear HQ
         have HQ := n_
         clear n_
         have n_ := Aside0.mk (Kd.R_over HPc.out HRc.out (by decide) hg)
         clear HPc
         have HPc := n_
         clear n_
         clear HRc HBc HG hHeld
         have HRc := Aside0.mk ho
         have HBc := Aside0.mk hb
         clear ho hb hg hat
         refine hK.out _ _ ⟨blk_cell HT.out 0, blk_cell HT.out 1, blk_cell (blk_below HBK.out HBc.out) 1, pw_cell_below HBc.out HQ0.out⟩ (fun hHeld => ?_)
         clear hK K
         refine norm_ (a' := ?_) ?_ ?_
         rotate_left
         ·show Act.put _ (some 42) _ = _
          simp only [Act.put, List.setIfInBounds_toArray, List.set_cons_zero, List.set_cons_succ, i64_w, i32_w]
          rfl
         exact norm_ (by simp only [putAll, Act.put, List.setIfInBounds_toArray, List.set_cons_zero, List.set_cons_succ]) (hCont (gh, gq, A1, n1, c1) _ ⟨hHeld, HT.out, HBc.out, HRc.out, HPc.out, HQ.out⟩)
       ·skip
        refine value_ (w1 := ?_) (v := ?_) (by rfl) rfl ?_ ?_
        rotate_left 2
        ·go_simp
         constructor
         ·rfl
         ·rfl
        have HQ := Aside0.mk (blk_new wd (.cells #[.string q] 9))
        have n_ := Aside0.mk (blk_alloc HT.out (.cells #[.string q] 9))
        clear HT
        have HT := n_
        clear n_
        have n_ := Aside0.mk (Kd.R_alloc HRc.out (.cells #[.string q] 9))
        clear HRc
        have HRc := n_
        clear n_
        have n_ := Aside0.mk (Kd.R_alloc HPc.out (.cells #[.string q] 9))
        clear HPc
        have HPc := n_
        clear n_
        have n_ := Aside0.mk (below_alloc HBc.out (.cells #[.string q] 9))
        clear HBc
        have HBc := n_
        clear n_
        clear hHeld
        generalize World.alloc wd (.cells #[.string q] 9) = w20 at *
        generalize wd.heap.size = gq at *
        refine hK.out _ _ ⟨blk_cell HT.out 0, blk_cell HT.out 1, blk_cell (blk_below HBK.out HBc.out) 1, pw_cell_below HBc.out HQ0.out⟩ (fun hHeld => ?_)
        clear hK K
        refine norm_ (a' := ?_) ?_ ?_
        rotate_left
        ·show Act.put _ (some 54) _ = _
         simp only [Act.put, List.setIfInBounds_toArray, List.set_cons_zero, List.set_cons_succ, i64_w, i32_w]
         rfl
        refine one_ (i := 7) (N := some 41) #[true, true, true, true, true, true, true, true, false, true, true, true, true, true, true, true, true, true, true, true, true, false, false, false, false, false, false, false] rfl rfl (by kernel_rfl) (by decide) (fun K hK => ?_)
        refine value_ (w1 := ?_) (v := ?_) (by rfl) rfl ?_ ?_
        rotate_left 2
        ·go_simp
         constructor
         ·rfl
         ·rfl
        have HG := Aside0.mk (blk_new w20 (.cells #[.slice A0 width c0] 57))
        have n_ := Aside0.mk (blk_alloc HT.out (.cells #[.slice A0 width c0] 57))
        clear HT
        have HT := n_
        clear n_
        have n_ := Aside0.mk (Kd.R_alloc HRc.out (.cells #[.slice A0 width c0] 57))
        clear HRc
        have HRc := n_
        clear n_
        have n_ := Aside0.mk (Kd.R_alloc HPc.out (.cells #[.slice A0 width c0] 57))
        clear HPc
        have HPc := n_
        clear n_
        have n_ := Aside0.mk (below_alloc HBc.out (.cells #[.slice A0 width c0] 57))
        clear HBc
        have HBc := n_
        clear n_
        have n_ := Aside0.mk (blk_alloc HQ.out (.cells #[.slice A0 width c0] 57))
        clear HQ
        have HQ := n_
        clear n_
        clear hHeld
        generalize World.alloc w20 (.cells #[.slice A0 width c0] 57) = w7 at *
        generalize w20.heap.size = gh at *
        refine hK.out _ _ ⟨blk_cell HT.out 0, blk_cell HT.out 1, blk_cell (blk_below HBK.out HBc.out) 1, pw_cell_below HBc.out HQ0.out⟩ (fun hHeld => ?_)
        clear hK K
        refine norm_ (a' := ?_) ?_ ?_
        rotate_left
        ·show Act.put _ (some 41) _ = _
         simp only [Act.put, List.setIfInBounds_toArray, List.set_cons_zero, List.set_cons_succ, i64_w, i32_w]
         rfl
        refine one_ (i := 8) (N := some 42) #[true, true, true, true, true, true, true, true, true, true, true, true, true, true, true, true, true, true, true, true, true, false, false, false, false, false, false, false] rfl rfl (by kernel_rfl) (by decide) (fun K hK => ?_)
        refine append_one_step encH (w0 := w) w.heap.size (by rfl) (.tmp 39) (.tmp 41) 29 57 (.slice none 0 0) 24 rfl Tryd.underlying29 info57 rfl (by omega) (.slice Ht tn hc) hs ((A0, width, c0) : Hd) gh 57 rfl rfl HG.out HRc.out HBc.out HBc.out.size ?aL ?_
        (case aL => rw [HLE.out]; have := HLN.out; omega)
        intro v1 w3 ho hb hg hat
        obtain ⟨A1, c1, hv1⟩ := Kd.R_slice ho
        generalize (hs ++ [((A0, width, c0) : Hd)]).length = n1 at hv1
        subst hv1
        have n_ := Aside0.mk (blk_grown HT.out hg HNE1.out)
        clear HT
        have HT := n_
        clear n_
        have n_ := Aside0.mk (blk_grown HQ.out hg (Kd.R_ne HRc.out HQ.out (by decide)))
        clear HQ
        have HQ := n_
        clear n_
        have n_ := Aside0.mk (Kd.R_over HPc.out HRc.out (by decide) hg)
        clear HPc
        have HPc := n_
        clear n_
        clear HRc HBc HG hHeld
        have HRc := Aside0.mk ho
        have HBc := Aside0.mk hb
        clear ho hb hg hat
        refine hK.out _ _ ⟨blk_cell HT.out 0, blk_cell HT.out 1, blk_cell (blk_below HBK.out HBc.out) 1, pw_cell_below HBc.out HQ0.out⟩ (fun hHeld => ?_)
        clear hK K
        refine norm_ (a' := ?_) ?_ ?_
        rotate_left
        ·show Act.put _ (some 42) _ = _
         simp only [Act.put, List.setIfInBounds_toArray, List.set_cons_zero, List.set_cons_succ, i64_w, i32_w]
         rfl
        exact norm_ (by simp only [putAll, Act.put, List.setIfInBounds_toArray, List.set_cons_zero, List.set_cons_succ]) (hCont (gh, gq, A1, n1, c1) _ ⟨hHeld, HT.out, HBc.out, HRc.out, HPc.out, HQ.out⟩)
      rintro ⟨gh, gq, A1, n1, c1⟩ w3 ⟨hHeld, hT, hB, hR, hP, hQ⟩
      dsimp only at hR hQ
      clear HT HBc HRc HPc
      have HT := Aside0.mk hT
      have HBc := Aside0.mk hB
      have HRc := Aside0.mk hR
      have HPc := Aside0.mk hP
      have HQ := Aside0.mk hQ
      clear hT hB hR hP hQ
      refine norm_ (a' := ?_) ?_ ?_
      rotate_left
      ·simp only [putAll, Act.put, List.setIfInBounds_toArray, List.set_cons_zero, List.set_cons_succ]
       rfl
      refine one_ (i := 21) (N := some 55) #[true, true, true, true, true, true, true, true, true, true, true, true, true, true, true, true, true, true, true, true, true, true, false, false, false, false, false, false] rfl rfl (by kernel_rfl) (by decide) (fun K hK => ?_)
      refine append_one_step Value.string (w0 := w) w.heap.size (by rfl) (.tmp 46) (.tmp 54) 32 9 (.string ⟨#[]⟩) 16 rfl Tryd.underlying32 info9 rfl (by omega) (.slice Pt tn pc) (T.map Prod.snd) q gq 9 rfl rfl HQ.out HPc.out HBc.out HBc.out.size ?bL ?_
      (case bL => rw [List.length_map]; have := HLN.out; omega)
      intro v2 w5 ho hb hg hat
      obtain ⟨A2, c2, hv2⟩ := Kd.R_slice ho
      generalize (T.map Prod.snd ++ [q]).length = n2 at hv2
      subst hv2
      have HP5 := Aside0.mk ho
      have HB5 := Aside0.mk hb
      have HTK5 := Aside0.mk (blk_grown HT.out hg HNE2.out)
      have HO5 := Aside0.mk (Kd.R_over HRc.out HPc.out (by decide) hg)
      have hfz := blk_frozen HTK5.out 0
      have hfc := blk_cell HTK5.out 0
      have hb6 := blk_set HTK5.out 0 (.slice A1 n1 c1)
      have HTK6 := Aside0.mk hb6
      have hfz6 := blk_frozen hb6 1
      have hfc6 := blk_cell hb6 1
      clear ho hb hg hat hb6
      refine hK.out _ _ ⟨blk_cell HTK5.out 0, blk_cell HTK5.out 1, blk_cell (blk_below HBK.out HB5.out) 1, pw_cell_below HB5.out HQ0.out⟩ (fun hHeld => ?_)
      clear hK K
      refine norm_ (a' := ?_) ?_ ?_
      rotate_left
      ·show Act.put _ (some 55) _ = _
       simp only [Act.put, List.setIfInBounds_toArray, List.set_cons_zero, List.set_cons_succ, i64_w, i32_w]
       rfl
      refine pure_ (i := 22) (N := some 56) (v := ?_) (a' := ?_) #[true, true, true, true, true, true, true, true, true, true, true, true, true, true, true, true, true, true, true, true, true, true, true, false, false, false, false, false] rfl rfl (by kernel_rfl) (fun _ _ _ h => h) (Or.inl ⟨by rfl, ?_⟩) ?_ ?_
      rotate_left
      ·intro w'
       go_simp
       with_reducible rfl
      rotate_left
      ·simp only [Act.put, List.setIfInBounds_toArray, List.set_cons_zero, List.set_cons_succ, i64_w, i32_w]
       rfl
      refine pure_ (i := 23) (N := some 57) (v := ?_) (a' := ?_) #[true, true, true, true, true, true, true, true, true, true, true, true, true, true, true, true, true, true, true, true, true, true, true, true, false, false, false, false] rfl rfl (by kernel_rfl) (fun _ _ _ h => h) (Or.inl ⟨by rfl, ?_⟩) ?_ ?_
      rotate_left
      ·intro w'
       go_simp
       with_reducible rfl
      rotate_left
      ·simp only [Act.put, List.setIfInBounds_toArray, List.set_cons_zero, List.set_cons_succ, i64_w, i32_w]
       rfl
      refine last_ (i := 24) (N := none) #[true, true, true, true, true, true, true, true, true, true, true, true, true, true, true, true, true, true, true, true, true, true, true, true, true, false, false, false] rfl rfl (by kernel_rfl) (by decide) (fun K hK => ?_)
      refine skip_ (w1 := ?_) (by rfl) rfl ?_ ?_
      rotate_left
      ·go_simp
       rfl
      refine hK.out _ _ ?_
      clear hK K
      refine pure_ (i := 25) (N := some 58) (v := ?_) (a' := ?_) #[true, true, true, true, true, true, true, true, true, true, true, true, true, true, true, true, true, true, true, true, true, true, true, true, true, true, false, false] rfl rfl (by kernel_rfl) (fun _ _ _ h => h) (Or.inl ⟨by rfl, ?_⟩) ?_ ?_
      rotate_left
      ·intro w'
       go_simp
       with_reducible rfl
      rotate_left
      ·simp only [Act.put, List.setIfInBounds_toArray, List.set_cons_zero, List.set_cons_succ, i64_w, i32_w]
       rfl
      refine pure_ (i := 26) (N := some 59) (v := ?_) (a' := ?_) #[true, true, true, true, true, true, true, true, true, true, true, true, true, true, true, true, true, true, true, true, true, true, true, true, true, true, true, false] rfl rfl (by kernel_rfl) (fun _ _ _ h => h) (Or.inl ⟨by rfl, ?_⟩) ?_ ?_
      rotate_left
      ·intro w'
       go_simp
       with_reducible rfl
      rotate_left
      ·simp only [Act.put, List.setIfInBounds_toArray, List.set_cons_zero, List.set_cons_succ, i64_w, i32_w]
       rfl
      refine last_ (i := 27) (N := none) #[true, true, true, true, true, true, true, true, true, true, true, true, true, true, true, true, true, true, true, true, true, true, true, true, true, true, true, true] rfl rfl (by kernel_rfl) (by decide) (fun K hK => ?_)
      refine skip_ (w1 := ?_) (by rfl) rfl ?_ ?_
      rotate_left
      ·go_simp
       rfl
      refine hK.out _ _ ?_
      clear hK K
      refine done_ (by kernel_rfl) ?_
      go_wp2
      go_roundw
      case rel =>
       refine ⟨k + 1, by omega, by go_num, ⟨?_⟩, ⟨(HB5.out.setCell (p := ⟨w.heap.size, 0, none⟩) (Nat.le_refl _) _).setCell (p := ⟨w.heap.size, 1, none⟩) (Nat.le_refl _) _⟩⟩
       rw [HF2.out, ← List.append_assoc, HTE.out]
       refine ⟨_, _, hs ++ [((A0, width, c0) : Hd)], blk_set HTK6.out 1 (.slice A2 n2 c2), Kd.R_set (Kd.R_set HO5.out HTK5.out (by decide) 0 _) HTK6.out (by decide) 1 _, ?_, by rw [List.length_append, List.length_append, HLE.out]; rfl, fun i h h2 => ?_⟩
       ·rw [List.map_append]
        exact Kd.R_set (Kd.R_set HP5.out HTK5.out (by decide) 0 _) HTK6.out (by decide) 1 _
       ·have hle := HLE.out
        by_cases hi : i < T.length
        ·have h3 : i < hs.length := by omega
         rw [List.getElem_append_left h3]
         simp only [List.getElem_append_left hi]
         exact HALL.out i hi h3
        ·have h4 : i = T.length := by rw [List.length_append] at h; simp at h; omega
         subst h4
         rw [List.getElem_append_right (by omega)]
         simp only [List.getElem_append_right (Nat.le_refl _), Nat.sub_self, hle, List.getElem_singleton]
         exact ⟨HXL.out.symm, by rw [HXL.out]; exact hx1, HX2.out⟩
      case measure => simp [intOf]; omega
     ·have hb1 : ((fi : Int) == (a : Int)) = false := beq_eq_false_iff_ne.2 (by omega)
      have hb2 : (fi == a) = false := beq_eq_false_iff_ne.2 hfa
      have hf := HF.out
      rw [if_neg hfa, List.append_nil] at hf
      have HF2 := Aside0.mk hf
      clear hf
      go_wp2_with (go_at_call 92; (with_reducible refine (HF1.out _ (Below.refl _ _)).mono ?_); rintro e w' ⟨rfl, ⟨nd, rfl⟩⟩)
      go_roundw
      case rel => exact ⟨k + 1, by omega, by go_num, ⟨by rw [HF2.out]; exact HS.out.below (pw_below_drewN (Below.refl _ _) nd)⟩, ⟨pw_below_drewN HB.out nd⟩⟩
      case measure => simp [intOf]; omega
    ·obtain rfl : k = N := by omega
     go_wp2
     go_roundw
     case rel => exact ⟨a + 1, by omega, by go_num, ⟨by rw [sortUpto_succ]; have := HS.out; rwa [HN.out, List.take_length] at this⟩, HB⟩
     case measure => simp [intOf]; omega
  ·obtain rfl : a = width := by omega
   have HSV := Aside0.mk (code_stairs_solve.calls w.heap.size a M wr (sortUpto st a) (HGw.out.below HB.out) (HS.out.rd HB.out) (fun x hx => HWF.out x (sortUpto_mem hx)) (by
    have h1 := sortUpto_length st a
    have h3 : a * st.length ≤ 999 * 999 := Nat.mul_le_mul (by omega) (by have := HN.out; omega)
    omega) hw2 hM)
   go_wp2_with (go_at_call 93; (with_reducible refine HSV.out.mono ?_); rintro e w2 ⟨v, rfl, hR, hb2⟩; have HR := Aside0.mk hR; have HB2 := Aside0.mk hb2; clear hR hb2)
   go_ret
   exact ⟨_, rfl, Kd.R_lower HR.out HB.out.size, below_step HB.out HB2.out⟩


/-! ### code_Decode: function 28 -/
def sizesOk (mask size : Nat) (pieces : List ByteArray) : Bool := (List.range pieces.length).all fun k => decide ((mask >>> k) % 2 = 0) || decide ((rdOf ByteArray.empty pieces (k : Int)).size = size)
def agree (mask : Nat) (again pieces : List ByteArray) : Bool := (List.range pieces.length).all fun k => decide ((mask >>> k) % 2 = 0) || decide (rdOf ByteArray.empty again (k : Int) = rdOf ByteArray.empty pieces (k : Int))
def bounded (pieces : List ByteArray) : Bool := pieces.all fun s => decide (s.size ≤ 100000)
def joined (l : List ByteArray) : List Int := l.flatMap bytesOf
def fullOf (rows : List (List Int)) (st : St) : List Int := joined (solveRev (rowWidth rows) (sortSt (rowWidth rows) st))
def decodeWith (k : Nat) (a0_0 : Int) (l0_1 : List (List Int)) (a0_2 : Int) (rows : List (List Int)) (n mask : Nat) (pieces : List ByteArray) : Option St → Option (ByteArray × Int)
  | none => some (⟨#[]⟩, 17)
  | some st => if n ≤ (fullOf rows st).length then (code_Encode.f k a0_0 l0_1 a0_2 (strOfNums ((fullOf rows st).take n))).bind fun again =>
      if again.1.length = pieces.length then (if agree mask again.1 pieces = true then some (strOfNums ((fullOf rows st).take n), 0) else some (⟨#[]⟩, 14)) else none else none
def code_Decode.f (k : Nat) (a0_0 : Int) (l0_1 : List (List Int)) (a0_2 : Int) (a1 a2 : Int) (l3 : List ByteArray) : Option (ByteArray × Int) :=
  (code_Rows.f k a0_0 l0_1 a0_2).bind fun r => if r.2 = 0 then
    (if okRows r.1 = true ∧ 0 < r.1.length then if a1 < 0 ∨ 4096 < a1 ∨ a2 < 0 ∨ (2 : Int) ^ r.1.length ≤ a2 ∨ l3.length ≠ r.1.length then some (⟨#[]⟩, 1)
     else if bounded l3 = true then
       (code_Size.f k a0_0 l0_1 a0_2 a1).bind fun size => if 0 ≤ size ∧ size ≤ 4096 then (if sizesOk a2.toNat size.toNat l3 = true then decodeWith k a0_0 l0_1 a0_2 r.1 a1.toNat a2.toNat l3 (collectOk r.1 a2 l3) else some (⟨#[]⟩, 1)) else none
     else none else none)
  else some (⟨#[]⟩, r.2)
theorem ba_loop (bs : ByteArray) : ∀ (d i : Nat) (r : List UInt8), i + d = bs.size → ByteArray.toList.loop bs i r = r.reverse ++ bs.data.toList.drop i
  | 0, i, r, h => by
    unfold ByteArray.toList.loop
    rw [if_neg (by omega), List.drop_of_length_le (by rw [Array.length_toList]; show bs.size ≤ i; omega), List.append_nil]
  | d + 1, i, r, h => by
    have hi : i < bs.data.toList.length := by rw [Array.length_toList]; show i < bs.size; omega
    unfold ByteArray.toList.loop
    rw [if_pos (by omega), ba_loop bs d (i + 1) _ (by omega), List.drop_eq_getElem_cons hi, List.reverse_cons, List.append_assoc]
    have hg : bs.get! i = bs.data.toList[i] := by
      obtain ⟨a⟩ := bs
      have h2 : i < a.size := by simpa using hi
      show a[i]! = _
      simp [getElem!_pos a i h2]
    rw [hg]
    rfl
theorem ba_toList (bs : ByteArray) : bs.toList = bs.data.toList := by
  have := ba_loop bs bs.size 0 [] (by omega)
  simpa [ByteArray.toList] using this
theorem ba_inj {a b : ByteArray} : a.toList = b.toList ↔ a = b := by
  rw [ba_toList, ba_toList]
  constructor
  · intro h
    exact ByteArray.ext (Array.toList_inj.1 h)
  · rintro rfl; rfl
theorem sizesOk_iff {mask size : Nat} {pieces : List ByteArray} : sizesOk mask size pieces = true ↔ ∀ k, k < pieces.length → (mask >>> k) % 2 = 1 → (rdOf ByteArray.empty pieces (k : Int)).size = size := by
  simp only [sizesOk, List.all_eq_true, List.mem_range, Bool.or_eq_true, decide_eq_true_eq]
  exact ⟨fun h k hk hb => (h k hk).resolve_left (by omega), fun h k hk => by by_cases hb : (mask >>> k) % 2 = 1; exact .inr (h k hk hb); exact .inl (by omega)⟩
theorem agree_iff {mask : Nat} {again pieces : List ByteArray} : agree mask again pieces = true ↔ ∀ k, k < pieces.length → (mask >>> k) % 2 = 1 → rdOf ByteArray.empty again (k : Int) = rdOf ByteArray.empty pieces (k : Int) := by
  simp only [agree, List.all_eq_true, List.mem_range, Bool.or_eq_true, decide_eq_true_eq]
  exact ⟨fun h k hk hb => (h k hk).resolve_left (by omega), fun h k hk => by by_cases hb : (mask >>> k) % 2 = 1; exact .inr (h k hk hb); exact .inl (by omega)⟩
theorem bounded_rd {pieces : List ByteArray} (h : bounded pieces = true) (k : Nat) : (rdOf ByteArray.empty pieces (k : Int)).size ≤ 100000 := by
  have h : AllLe 100000 pieces := fun s hs => of_decide_eq_true (List.all_eq_true.1 h s hs)
  exact h.rd k
theorem bit_eq (mask j : Nat) (hm : mask < 2 ^ 24) : Go.bits .and .i64 ((mask : Int) / 2 ^ j) 1 = ((mask >>> j % 2 : Nat) : Int) := by
  rw [show ((mask : Int) / 2 ^ j) = ((mask >>> j : Nat) : Int) by rw [Nat.shiftRight_eq_div_pow]; simp, i64_and1 _ (by have := Nat.shiftRight_le mask j; omega)]
theorem collectOk_wf {M : Nat} {rows : List (List Int)} {mask : Int} {pieces : List ByteArray} {st : St} (hwf : ∀ k, k < rows.length → WfRow (rowWidth rows) M (rd_L4 rows (k : Int), rdOf ByteArray.empty pieces (k : Int))) (h : collectOk rows mask pieces = some st) : WfSt (rowWidth rows) M st ∧ st.length ≤ rowWidth rows := by
  unfold collectOk at h
  split at h
  · cases h
  · split at h
    · cases h
    · obtain rfl := Option.some.inj h
      exact ⟨collectUpto_wf hwf _ (Nat.le_refl _), collectUpto_length _ _ _ _ _⟩
theorem joined_snoc (l : List ByteArray) (s : ByteArray) : joined (l ++ [s]) = joined l ++ bytesOf s := by simp [joined]
theorem joined_length {M : Nat} : ∀ {l : List ByteArray}, AllLe M l → (joined l).length ≤ l.length * M
  | [], _ => Nat.zero_le _
  | a :: l, h => by
    have ih := joined_length (l := l) (fun s hs => h s (List.mem_cons_of_mem _ hs))
    have ha := h a (List.mem_cons_self)
    show (bytesOf a ++ joined l).length ≤ _
    rw [List.length_append, bytesOf_length, List.length_cons, Nat.succ_mul]
    omega
set_option maxHeartbeats 4000000 in
set_option maxRecDepth 100000 in
theorem code_Decode.calls (k : Nat) (a0_0 : Int) (A0_1 : Option Addr) (c0_1 : Nat) (l0_1 : List (List Int)) (a0_2 : Int) (a1 a2 : Int) (A3 : Option Addr) (c3 : Nat) (l3 : List ByteArray) (r1 : ByteArray) (r2 : Int) (w : World) (hG : HG w) (hr0_1 : Kd.C (Kd.slice 3 (Kd.int .i64)) w A0_1 l0_1.length l0_1) (hc0_1 : l0_1.length ≤ c0_1) (hr3 : Kd.C Kd.string w A3 l3.length l3) (hc3 : l3.length ≤ c3) (h : code_Decode.f k a0_0 l0_1 a0_2 a1 a2 l3 = some (r1, r2)) :
    Calls Tryd.prog 28 #[.agg #[.int .i64 a0_0, .slice A0_1 l0_1.length c0_1, .int .i64 a0_2], .int .i64 a1, .int .i64 a2, .slice A3 l3.length c3] w fun e w' => e = .returned (.tuple #[.string r1, .int .i64 r2]) ∧ Below w.heap.size w w' := by
  obtain ⟨⟨rows, e0⟩, hrows, h2⟩ := Option.bind_eq_some_iff.1 h
  have HRW := Aside0.mk (fun W (hb : Below w.heap.size w W) => code_Rows.calls k a0_0 A0_1 c0_1 l0_1 a0_2 rows e0 W (hG.below hb) (Kd.C_below hr0_1 hb) hc0_1 hrows)
  have hu24 := Tryd.underlying24
  clear hrows h
  by_cases he0 : e0 = 0
  · subst he0
    rw [if_pos rfl] at h2
    dsimp only at h2
    by_cases hok : okRows rows = true ∧ 0 < rows.length
    · rw [if_pos hok] at h2
      obtain ⟨hok, hpos⟩ := hok
      obtain ⟨h3, h4, h5, h6⟩ := okRows_iff hok
      have hw1 : wrap64 ((2 : Int) ^ rows.length) = 2 ^ rows.length := by
        have h1 : 2 ^ rows.length ≤ 2 ^ 24 := Nat.pow_le_pow_right (by decide) h3
        have h2 : ((2 : Int) ^ rows.length) = ((2 ^ rows.length : Nat) : Int) := by simp
        rw [h2]
        generalize 2 ^ rows.length = z at h1
        unfold wrap64; omega
      by_cases hbad : a1 < 0 ∨ 4096 < a1 ∨ a2 < 0 ∨ (2 : Int) ^ rows.length ≤ a2 ∨ l3.length ≠ rows.length
      · rw [if_pos hbad] at h2
        obtain ⟨rfl, rfl⟩ := Prod.mk.inj (Option.some.inj h2)
        clear h2 hr0_1 hG hr3
        by_cases b1 : a1 < 0
        · clear hw1 hbad
          go_enter Tryd.func28, Tryd.ntmps28
          go_wp2_with (go_at_call 17; (with_reducible refine (HRW.out _ (by repeat (first | exact Below.refl _ _ | apply below_alloc))).mono ?_); rintro e w1 ⟨v0, rfl, hS, hb1⟩; obtain ⟨Ar, cr, rfl, hcr, hCr⟩ := Kd.S_reads hS; have HB1 := Aside0.mk (below_step (below_alloc (Below.refl w.heap.size w) _) hb1); clear hb1 hS hCr)
          go_ret2
          exact ⟨rfl, HB1.out⟩
        · by_cases b2 : 4096 < a1
          · clear hw1 hbad
            go_enter Tryd.func28, Tryd.ntmps28
            go_wp2_with (go_at_call 17; (with_reducible refine (HRW.out _ (by repeat (first | exact Below.refl _ _ | apply below_alloc))).mono ?_); rintro e w1 ⟨v0, rfl, hS, hb1⟩; obtain ⟨Ar, cr, rfl, hcr, hCr⟩ := Kd.S_reads hS; have HB1 := Aside0.mk (below_step (below_alloc (Below.refl w.heap.size w) _) hb1); clear hb1 hS hCr)
            go_ret2
            exact ⟨rfl, HB1.out⟩
          · by_cases b3 : a2 < 0
            · clear hw1 hbad
              go_enter Tryd.func28, Tryd.ntmps28
              go_wp2_with (go_at_call 17; (with_reducible refine (HRW.out _ (by repeat (first | exact Below.refl _ _ | apply below_alloc))).mono ?_); rintro e w1 ⟨v0, rfl, hS, hb1⟩; obtain ⟨Ar, cr, rfl, hcr, hCr⟩ := Kd.S_reads hS; have HB1 := Aside0.mk (below_step (below_alloc (Below.refl w.heap.size w) _) hb1); clear hb1 hS hCr)
              go_ret2
              exact ⟨rfl, HB1.out⟩
            · by_cases b4 : (2 : Int) ^ rows.length ≤ a2
              · have hb1 : decide (wrap64 ((2 : Int) ^ rows.length) ≤ a2) = true := decide_eq_true (by rw [hw1]; exact b4)
                clear hw1 hbad b4
                go_enter Tryd.func28, Tryd.ntmps28
                go_wp2_with (go_at_call 17; (with_reducible refine (HRW.out _ (by repeat (first | exact Below.refl _ _ | apply below_alloc))).mono ?_); rintro e w1 ⟨v0, rfl, hS, hb1⟩; obtain ⟨Ar, cr, rfl, hcr, hCr⟩ := Kd.S_reads hS; have HB1 := Aside0.mk (below_step (below_alloc (Below.refl w.heap.size w) _) hb1); clear hb1 hS hCr)
                go_ret2
                exact ⟨rfl, HB1.out⟩
              · have hb1 : decide (wrap64 ((2 : Int) ^ rows.length) ≤ a2) = false := decide_eq_false (by rw [hw1]; exact b4)
                have b5 : l3.length ≠ rows.length := by
                  rcases hbad with h | h | h | h | h
                  · exact absurd h b1
                  · exact absurd h b2
                  · exact absurd h b3
                  · exact absurd h b4
                  · exact h
                have hb2 : ((l3.length : Int) == (rows.length : Int)) = false := beq_eq_false_iff_ne.2 (by omega)
                have hb3 : (l3.length == rows.length) = false := beq_eq_false_iff_ne.2 b5
                have hb4 : ((l3.length : Int) != (rows.length : Int)) = true := bne_iff_ne.2 (by omega)
                clear hw1 hbad b4
                go_enter Tryd.func28, Tryd.ntmps28
                go_wp2_with (go_at_call 17; (with_reducible refine (HRW.out _ (by repeat (first | exact Below.refl _ _ | apply below_alloc))).mono ?_); rintro e w1 ⟨v0, rfl, hS, hb1⟩; obtain ⟨Ar, cr, rfl, hcr, hCr⟩ := Kd.S_reads hS; have HB1 := Aside0.mk (below_step (below_alloc (Below.refl w.heap.size w) _) hb1); clear hb1 hS hCr)
                go_ret2
                exact ⟨rfl, HB1.out⟩
      · rw [if_neg hbad] at h2
        have b1 : 0 ≤ a1 := by omega
        have b2 : a1 ≤ 4096 := by omega
        have b3 : 0 ≤ a2 := by omega
        have b5 : l3.length = rows.length := by omega
        have b4 : ¬ (2 : Int) ^ rows.length ≤ a2 := fun h => hbad (.inr (.inr (.inr (.inl h))))
        have hb1 : decide (wrap64 ((2 : Int) ^ rows.length) ≤ a2) = false := decide_eq_false (by rw [hw1]; exact b4)
        clear hw1 hbad
        by_cases hbd : bounded l3 = true
        · rw [if_pos hbd] at h2
          obtain ⟨size0, hsz, h7⟩ := Option.bind_eq_some_iff.1 h2
          by_cases hsp : 0 ≤ size0 ∧ size0 ≤ 4096
          · rw [if_pos hsp] at h7
            obtain ⟨n, rfl⟩ := Int.eq_ofNat_of_zero_le b1
            obtain ⟨mask, rfl⟩ := Int.eq_ofNat_of_zero_le b3
            obtain ⟨size, rfl⟩ := Int.eq_ofNat_of_zero_le hsp.1
            simp only [Int.toNat_natCast] at h7
            have HSZ := Aside0.mk (fun W (hb : Below w.heap.size w W) => code_Size.calls k a0_0 A0_1 c0_1 l0_1 a0_2 (n : Int) (size : Int) W (hG.below hb) (Kd.C_below hr0_1 hb) hc0_1 hsz)
            have hmk : mask < 2 ^ 24 := by
              have h1 : 2 ^ rows.length ≤ 2 ^ 24 := Nat.pow_le_pow_right (by decide) h3
              have h2 : ((2 : Int) ^ rows.length) = ((2 ^ rows.length : Nat) : Int) := by simp
              rw [h2] at b4
              omega
            have hsz4 : size ≤ 4096 := by omega
            have HH := Aside0.mk h7
            have HP3 := Aside0.mk (show ∀ W, Below w.heap.size w W → Kd.string.C W A3 rows.length l3 from fun W hb => by rw [← b5]; exact Kd.C_below hr3 hb)
            have HGw := Aside0.mk hG
            have HCE := Aside0.mk (fun W (hb : Below w.heap.size w W) => Kd.C_below hr0_1 hb)
            have HBD := Aside0.mk hbd
            have H6 := Aside0.mk h6
            have HB5 := Aside0.mk b5
            have hc3' : rows.length ≤ c3 := by omega
            have hbn : ((rows.length : Int) == (rows.length : Int)) = true := beq_self_eq_true _
            have hbm : ((rows.length : Int) != (rows.length : Int)) = false := by simp
            rw [b5]
            clear h7 h2 hr3 hG hr0_1 hok hsp hsz b4 b1 b3 hbd h6 b5 hc3
            go_enter Tryd.func28, Tryd.ntmps28
            go_wp2_with (first | (go_at_call 17; (with_reducible refine (HRW.out _ (by repeat (first | exact Below.refl _ _ | apply below_alloc))).mono ?_); rintro e w1 ⟨v0, rfl, hS, hb1⟩; obtain ⟨Ar, cr, rfl, hcr, hCr⟩ := Kd.S_reads hS; have HCR := Aside0.mk hCr; have hbc : w1.heap[w.heap.size]? = some (.cells #[.int .i64 a0_0, .slice A0_1 l0_1.length c0_1, .int .i64 a0_2] 24 (0, 0)) := blk_below (blk_new w _) hb1; have HBC := Aside0.mk hbc; have HB1 := Aside0.mk (below_step (below_alloc (Below.refl w.heap.size w) _) hb1); have hcz0 : w1.cell? ⟨w.heap.size, 0, none⟩ = some (.int .i64 a0_0) := blk_cell hbc 0; have hcz1 : w1.cell? ⟨w.heap.size, 1, none⟩ = some (.slice A0_1 l0_1.length c0_1) := blk_cell hbc 1; have hcz2 : w1.cell? ⟨w.heap.size, 2, none⟩ = some (.int .i64 a0_2) := blk_cell hbc 2; have hlt1 : w.heap.size < w1.heap.size := blk_lt hbc; clear hbc hb1 hS hCr) | (go_at_call 23; (with_reducible refine (HSZ.out _ HB1.out).mono ?_); rintro e w2 ⟨rfl, hb2⟩; have HBC2 := Aside0.mk (blk_below HBC.out hb2); have HCR2 := Aside0.mk (Kd.C_below HCR.out hb2); have HB2 := Aside0.mk (below_step HB1.out hb2); clear hb2))
            clear hcz0 hcz1 hcz2
            go_loop [60] (fun v => ∃ j : Nat, j ≤ rows.length ∧ v = .int .i64 (j : Int) ∧ Aside0 (∀ i, i < j → (mask >>> i) % 2 = 1 → (rdOf ByteArray.empty l3 (i : Int)).size = size)) (fun v => rows.length - (intOf v).toNat)
            case atStart => exact ⟨0, Nat.zero_le _, rfl, ⟨fun i hi => absurd hi (Nat.not_lt_zero i)⟩⟩
            case round =>
              obtain ⟨j, hj, rfl, HA⟩ := hrel
              by_cases hlt : j < rows.length
              · obtain ⟨ad3, rfl, hx⟩ := at_string_nat (HP3.out _ HB2.out) j hlt
                have hB1 := bit_eq mask j hmk
                have hm2 : (mask >>> j) % 2 < 2 := Nat.mod_lt _ (by decide)
                generalize hpt : rdOf ByteArray.empty l3 (j : Int) = pt at hx
                generalize hbt : (mask >>> j) % 2 = bit at hB1 hm2
                have HPT := Aside0.mk hpt
                have HBT := Aside0.mk hbt
                clear hpt hbt
                by_cases hbit : bit = 1
                · subst hbit
                  by_cases hsw : pt.size = size
                  · subst hsw
                    have hz1 : ((pt.size : Int) != (pt.size : Int)) = false := by simp
                    go_wp2
                    go_round
                    case rel => exact ⟨j + 1, by omega, by go_num, ⟨fun i hi hb => by
                      rcases Nat.lt_or_eq_of_le (Nat.le_of_lt_succ hi) with hi | rfl
                      · exact HA.out i hi hb
                      · rw [HPT.out]⟩⟩
                    case measure => simp [intOf]; omega
                  · have hz1 : ((pt.size : Int) == (size : Int)) = false := beq_eq_false_iff_ne.2 (by omega)
                    have hz2 : (pt.size == size) = false := beq_eq_false_iff_ne.2 hsw
                    have hz3 : ((pt.size : Int) != (size : Int)) = true := bne_iff_ne.2 (by omega)
                    have hns : ¬ sizesOk mask size l3 = true := fun h => hsw (by rw [← HPT.out]; exact sizesOk_iff.1 h j (by rw [HB5.out]; exact hlt) HBT.out)
                    have h7 := HH.out
                    rw [if_neg hns] at h7
                    obtain ⟨rfl, rfl⟩ := Prod.mk.inj (Option.some.inj h7)
                    clear h7 hns HH
                    go_wp2
                    go_ret2
                    exact ⟨rfl, HB2.out⟩
                · obtain rfl : bit = 0 := by omega
                  go_wp2
                  go_round
                  case rel => exact ⟨j + 1, by omega, by go_num, ⟨fun i hi hb => by
                    rcases Nat.lt_or_eq_of_le (Nat.le_of_lt_succ hi) with hi | rfl
                    · exact HA.out i hi hb
                    · have := HBT.out; omega⟩⟩
                  case measure => simp [intOf]; omega
              · obtain rfl : j = rows.length := by omega
                have hso : sizesOk mask size l3 = true := sizesOk_iff.2 (by rw [HB5.out]; exact HA.out)
                have h7 := HH.out
                rw [if_pos hso] at h7
                have HWF := Aside0.mk (show ∀ k, k < rows.length → WfRow (rowWidth rows) 100000 (rd_L4 rows (k : Int), rdOf ByteArray.empty l3 (k : Int)) from fun k hk => ⟨(H6.out k hk).1, (H6.out k hk).2, bounded_rd HBD.out k⟩)
                have HCO := Aside0.mk (show Calls Tryd.prog 67 #[.slice Ar rows.length cr, .int .i64 (mask : Int), .slice A3 rows.length c3] w2 fun e w' => Below w2.heap.size w2 w' ∧ ((collectOk rows mask l3 = none ∧ e = .returned (.pointer none)) ∨ ∃ gs st, collectOk rows mask l3 = some st ∧ e = .returned (.pointer (some ⟨gs, 0, none⟩)) ∧ StairsAt gs w2.heap.size (rowWidth rows) w' st) from by
                  have hA : A3.isSome = true := by
                    obtain ⟨ad, e, _⟩ := at_string_nat (HP3.out _ HB2.out) 0 hpos
                    rw [e]; rfl
                  have h8 := code_collect.calls 100000 w2 Ar cr rows (mask : Int) A3 c3 l3 (HGw.out.below HB2.out) HCR2.out hcr h3 h4 h5 (by decide) (by rw [HB5.out]; exact HP3.out _ HB2.out) (by rw [HB5.out]; exact hc3') (.inr ⟨hA, Nat.le_of_eq HB5.out.symm⟩) HWF.out
                  rw [HB5.out] at h8
                  exact h8)
                clear HH hso
                cases hco : collectOk rows (mask : Int) l3 with
                | none =>
                  rw [hco] at h7 HCO
                  obtain ⟨rfl, rfl⟩ := Prod.mk.inj (Option.some.inj h7)
                  clear h7 hco
                  have hup := Tryd.underlying96
                  go_wp2_with (go_at_call 67; (with_reducible refine HCO.out.mono ?_); rintro e w3 ⟨hb3, hor⟩; have HB3 := Aside0.mk (below_step HB2.out hb3); clear hb3; rcases hor with ⟨_, rfl⟩ | ⟨gs, st, hn, _⟩; (rotate_left; exact absurd hn (by simp)))
                  go_ret2
                  exact ⟨rfl, HB3.out⟩
                | some st =>
                  have hcw := collectOk_wf HWF.out hco
                  rw [hco] at h7 HCO
                  clear hco
                  unfold decodeWith at h7
                  dsimp only at h7
                  by_cases hnf : n ≤ (fullOf rows st).length
                  · rw [if_pos hnf] at h7
                    obtain ⟨⟨again, e1⟩, hen, h8⟩ := Option.bind_eq_some_iff.1 h7
                    dsimp only at h8
                    by_cases hal : again.length = l3.length
                    · rw [if_pos hal] at h8
                      obtain ⟨hcw1, hcw2⟩ := hcw
                      have hD := solveRev_le (M := 100000) (width := rowWidth rows) (l := sortSt (rowWidth rows) st) (fun x hx => (hcw1 x (sortUpto_mem hx)).1.2.2)
                      have hDl := solveRev_length (rowWidth rows) (sortSt (rowWidth rows) st)
                      have hfu : fullOf rows st = joined (solveRev (rowWidth rows) (sortSt (rowWidth rows) st)) := rfl
                      have HSO := Aside0.mk (fun gs W (hb : Below w.heap.size w W) (hS : StairsRd gs (rowWidth rows) W st) => code_stairs_sorted.calls gs (rowWidth rows) 100000 W st (HGw.out.below hb) hS hcw1 (by omega) (by omega) (by decide))
                      generalize solveRev (rowWidth rows) (sortSt (rowWidth rows) st) = D at hD hDl hfu HSO
                      generalize hF : fullOf rows st = full at hnf hen h8 hfu
                      have HEN := Aside0.mk (fun W (hb : Below w.heap.size w W) => code_Encode.calls k a0_0 A0_1 c0_1 l0_1 a0_2 (strOfNums (full.take n)) again e1 W (HGw.out.below hb) (HCE.out W hb) hc0_1 hen)
                      have H8 := Aside0.mk h8
                      have HD := Aside0.mk hD
                      have HDL := Aside0.mk hDl
                      have HFU := Aside0.mk hfu
                      have HAL := Aside0.mk (hal.trans HB5.out)
                      have hup := Tryd.underlying96
                      have hDw : D.length ≤ 16 := by omega
                      clear h7 h8 hen hal hcw1 hcw2 hD hDl hfu hF
                      go_wp2_with (first | (go_at_call 67; (with_reducible refine HCO.out.mono ?_); rintro e w3 ⟨hb3, hor⟩; rcases hor with ⟨hn, _⟩ | ⟨gs, st2, hn, rfl, hS⟩; (exact absurd hn (by simp)); obtain rfl := Option.some.inj hn; have HBC3 := Aside0.mk (blk_below HBC2.out hb3); have HB3 := Aside0.mk (below_step HB2.out hb3); have HS := Aside0.mk hS.rd; clear hb3 hn hS) | (go_at_call 68; (with_reducible refine (HSO.out gs w3 HB3.out HS.out).mono ?_); rintro e w4 ⟨v4, rfl, hR4, hb4⟩; obtain ⟨A4, c4, rfl, hc4, hC4⟩ := Kd.R_reads hR4; have HC4 := Aside0.mk hC4; have HBC4 := Aside0.mk (blk_below HBC3.out hb4); have HB4 := Aside0.mk (below_step HB3.out hb4); clear hb4 hR4 hC4))
                      have hi5 : (Tryd.prog.info? 5).map (·.size) = some 1 := by
                        have := congrArg (Option.map (fun x : Option Value × Nat × Nat => x.2.1)) info5
                        rw [Option.map_map] at this
                        exact this
                      obtain ⟨i5, hi5a, _⟩ := Option.map_eq_some_iff.1 hi5
                      have HI5 := Aside0.mk hi5a
                      clear hi5 hi5a
                      go_loopw [16, 86] (fun v x W => ∃ m : Nat, m ≤ D.length ∧ x = .int .i64 (m : Int) ∧ Aside0 ((Kd.int .u8).R 5 W w4.heap.size (fun _ => True) v (joined (D.take m))) ∧ Aside0 (Below w4.heap.size w4 W)) (fun _ x _ => D.length - (intOf x).toNat)
                      case atStart => exact ⟨0, Nat.zero_le _, rfl, ⟨by rw [List.take_zero]; exact Kd.R_nil _ _ _ _ _⟩, ⟨Below.refl _ _⟩⟩
                      case round =>
                        obtain ⟨m, hm, rfl, HR, HB⟩ := hrel
                        by_cases hltm : m < D.length
                        · obtain ⟨ad4, rfl, hx4⟩ := at_string_nat (Kd.C_below HC4.out HB.out) m hltm
                          have HJ := Aside0.mk (show joined (D.take (m + 1)) = joined (D.take m) ++ bytesOf (rdOf ByteArray.empty D (m : Int)) by
                            rw [List.take_succ_eq_append_getElem hltm, joined_snoc]
                            simp [rdOf, List.getD_eq_getElem?_getD, List.getElem?_eq_getElem hltm])
                          have hsz := HD.out.rd m
                          have hjl := joined_length (M := 100000) (l := D.take m) (fun s hs => HD.out s (List.mem_of_mem_take hs))
                          have hjl2 : (D.take m).length * 100000 ≤ 16 * 100000 := Nat.mul_le_mul_right _ (by rw [List.length_take]; omega)
                          generalize rdOf ByteArray.empty D (m : Int) = s4 at hx4 HJ hsz
                          have HJL := Aside0.mk (show (joined (D.take m)).length + s4.size ≤ 140737488355328 by omega)
                          clear hjl hjl2
                          go_wp2_with (at_builtin; refine print_append_str (w0 := w4) w4.heap.size rfl (.tmp 90) (.tmp 91) 57 9 5 rfl Tryd.underlying57 Tryd.underlying9 info5 u16 (joined (D.take m)) s4 rfl rfl ?oO ?oB ?oS ?oL ?_; (case oO => exact Kd.own_of_R HR.out); (case oB => exact HB.out); (case oS => exact HB.out.size); (case oL => exact HJL.out); intro v5 w5 ho hb hg; have HO5 := Aside0.mk ho; have HB5' := Aside0.mk hb; clear ho hb hg)
                          go_roundw
                          case rel => exact ⟨m + 1, by omega, by go_num, ⟨by rw [HJ.out]; exact Kd.R_of_own HO5.out (fun _ _ => trivial)⟩, HB5'⟩
                          case measure => simp [intOf]; omega
                        · obtain rfl : m = D.length := by omega
                          have hR := HR.out
                          rw [List.take_length, ← HFU.out] at hR
                          obtain ⟨Af, cf, rfl, hcf, hCf⟩ := Kd.R_reads hR
                          have hcut := cut_to (P := Tryd.prog) 57 5 .i64 Tryd.underlying57 HI5.out Af full.length cf (n : Int) (by omega) (by omega) hcf
                          rw [Int.toNat_natCast] at hcut
                          have hC := Kd.C_take (m := n) hCf hnf
                          have hcv := Kd.C_string (P := Tryd.prog) (c := cf) Tryd.underlying57 Tryd.underlying5 Tryd.underlying9 hC
                          rw [List.length_take, Nat.min_eq_left hnf] at hcv
                          have HBx := Aside0.mk (below_step HB4.out HB.out)
                          have hbc := blk_below HBC4.out HB.out
                          have hcz0 : wr.cell? ⟨w.heap.size, 0, none⟩ = some (.int .i64 a0_0) := blk_cell hbc 0
                          have hcz1 : wr.cell? ⟨w.heap.size, 1, none⟩ = some (.slice A0_1 l0_1.length c0_1) := blk_cell hbc 1
                          have hcz2 : wr.cell? ⟨w.heap.size, 2, none⟩ = some (.int .i64 a0_2) := blk_cell hbc 2
                          clear hR hC
                          have hcv1 : (convert 57 9 (.slice Af n cf)).run Tryd.prog wr.drew = .ok (.string (strOfNums (full.take n))) wr.drew := by
                            have hC := Kd.C_below (Kd.C_take (m := n) hCf hnf) (below_drew (Below.refl _ _))
                            have hcv := Kd.C_string (P := Tryd.prog) (c := cf) Tryd.underlying57 Tryd.underlying5 Tryd.underlying9 hC
                            rwa [List.length_take, Nat.min_eq_left hnf] at hcv
                          have HCF := Aside0.mk hCf
                          have HBd := Aside0.mk (below_drew HBx.out)
                          have hbcd := blk_drew hbc
                          have hcy0 : wr.drew.cell? ⟨w.heap.size, 0, none⟩ = some (.int .i64 a0_0) := blk_cell hbcd 0
                          have hcy1 : wr.drew.cell? ⟨w.heap.size, 1, none⟩ = some (.slice A0_1 l0_1.length c0_1) := blk_cell hbcd 1
                          have hcy2 : wr.drew.cell? ⟨w.heap.size, 2, none⟩ = some (.int .i64 a0_2) := blk_cell hbcd 2
                          clear hbc hbcd hCf hcv
                          go_wp2
                          have CV6 := Aside0.mk (show ∀ W, Below wr.drew.heap.size wr.drew W → (convert 57 9 (.slice Af n cf)).run Tryd.prog W = .ok (.string (strOfNums (full.take n))) W from fun W hb => by
                            have hC := Kd.C_below (Kd.C_take (m := n) HCF.out hnf) (below_step (below_drew (Below.refl _ _)) hb)
                            have hcv := Kd.C_string (P := Tryd.prog) (c := cf) Tryd.underlying57 Tryd.underlying5 Tryd.underlying9 hC
                            rwa [List.length_take, Nat.min_eq_left hnf] at hcv)
                          refine start_ (n := 11) (S := fun w' => w'.cell? ⟨w.heap.size, 0, none⟩ = some (.int .i64 a0_0) ∧ w'.cell? ⟨w.heap.size, 1, none⟩ = some (.slice A0_1 l0_1.length c0_1) ∧ w'.cell? ⟨w.heap.size, 2, none⟩ = some (.int .i64 a0_2)) (ds := []) #[false, false, false, false, false, false, false, false, false, false, false] (by kernel_rfl) rfl rfl ⟨hcy0, hcy1, hcy2⟩ (fun hHeld => ?_)
                          generalize wr.drew = wd at *
                          refine pure_ (i := 1) (N := some 96) (v := ?_) (a' := ?_) #[false, true, false, false, false, false, false, false, false, false, false] rfl rfl (by kernel_rfl) (fun _ _ _ h => h) (Or.inl ⟨by rfl, ?_⟩) ?_ ?_
                          rotate_left
                          · intro w'
                            go_simp
                            with_reducible rfl
                          rotate_left
                          · simp only [Act.put, List.setIfInBounds_toArray, List.set_cons_zero, List.set_cons_succ, i64_w, i32_w]
                            rfl
                          refine pure_ (i := 2) (N := some 97) (v := ?_) (a' := ?_) #[false, true, true, false, false, false, false, false, false, false, false] rfl rfl (by kernel_rfl) (fun _ _ _ h => h) (Or.inl ⟨by rfl, ?_⟩) ?_ ?_
                          rotate_left
                          · intro w'
                            go_simp
                            with_reducible rfl
                          rotate_left
                          · simp only [Act.put, List.setIfInBounds_toArray, List.set_cons_zero, List.set_cons_succ, i64_w, i32_w]
                            rfl
                          refine pure_ (i := 3) (N := some 98) (v := ?_) (a' := ?_) #[false, true, true, true, false, false, false, false, false, false, false] rfl rfl (by kernel_rfl) (fun _ _ _ h => h) (Or.inl ⟨by rfl, ?_⟩) ?_ ?_
                          rotate_left
                          · intro w'
                            go_simp
                            with_reducible rfl
                          rotate_left
                          · simp only [Act.put, List.setIfInBounds_toArray, List.set_cons_zero, List.set_cons_succ, i64_w, i32_w]
                            rfl
                          refine take_ (i := 0) (N := some 95) (v := ?_) (a' := ?_) #[true, true, true, true, false, false, false, false, false, false, false] rfl rfl (by kernel_rfl) (fun _ _ _ h => h) (Or.inl ⟨by rfl, ?_⟩) hHeld ?_ ?_
                          rotate_left
                          · rintro w' ⟨s0, s1, s2⟩
                            go_simp
                            with_reducible rfl
                          rotate_left
                          · simp only [Act.put, List.setIfInBounds_toArray, List.set_cons_zero, List.set_cons_succ, i64_w, i32_w]
                            rfl
                          refine one_ (i := 4) (N := some 99) #[true, true, true, true, true, false, false, false, false, false, false] rfl rfl (by kernel_rfl) (by decide) (fun K hK => ?_)
                          refine value_ (w1 := ?_) (v := ?_) (by rfl) rfl ?_ ?_
                          rotate_left 2
                          · go_simp
                            constructor
                            · rfl
                            · rfl
                          refine hK.out _ _ ⟨hcy0, hcy1, hcy2⟩ (fun hHeld => ?_)
                          clear hK K
                          refine norm_ (a' := ?_) ?_ ?_
                          rotate_left
                          · show Act.put _ (some 99) _ = _
                            simp only [Act.put, List.setIfInBounds_toArray, List.set_cons_zero, List.set_cons_succ, i64_w, i32_w]
                            rfl
                          refine one_ (i := 5) (N := some 100) #[true, true, true, true, true, true, false, false, false, false, false] rfl rfl (by kernel_rfl) (by decide) (fun K hK => ?_)
                          refine goes_ Tryd.func18 (by kernel_rfl) rfl #[.agg #[.int .i64 a0_0, .slice A0_1 l0_1.length c0_1, .int .i64 a0_2], .string (strOfNums (full.take n))] (by rfl) rfl rfl (by simp only [List.map_toArray, List.map_cons, List.map_nil]; rfl) ?_
                          with_reducible refine (HEN.out _ HBd.out).mono ?_
                          rintro e w6 ⟨v6, rfl, hR6, hb6⟩
                          refine ⟨_, rfl, ?_⟩
                          obtain ⟨A6, c6, rfl, hc6, hC6⟩ := Kd.R_reads hR6
                          have HC6 := Aside0.mk hC6
                          have HB6 := Aside0.mk (below_step HBd.out hb6)
                          have HB6x := Aside0.mk hb6
                          have hcv6 : (convert 57 9 (.slice Af n cf)).run Tryd.prog w6 = .ok (.string (strOfNums (full.take n))) w6 := CV6.out w6 hb6
                          clear hR6 hb6 hC6
                          refine hK.out _ _ ⟨pw_cell_below HB6x.out hcy0, pw_cell_below HB6x.out hcy1, pw_cell_below HB6x.out hcy2⟩ (fun hHeld => ?_)
                          clear hK K
                          refine norm_ (a' := ?_) ?_ ?_
                          rotate_left
                          · show Act.put _ (some 100) _ = _
                            simp only [Act.put, List.setIfInBounds_toArray, List.set_cons_zero, List.set_cons_succ, i64_w, i32_w]
                            rfl
                          refine pure_ (i := 6) (N := some 94) (v := ?_) (a' := ?_) #[true, true, true, true, true, true, true, false, false, false, false] rfl rfl (by kernel_rfl) (fun _ _ _ h => h) (Or.inl ⟨by rfl, ?_⟩) ?_ ?_
                          rotate_left
                          · intro w'
                            go_simp
                            with_reducible rfl
                          rotate_left
                          · simp only [Act.put, List.setIfInBounds_toArray, List.set_cons_zero, List.set_cons_succ, i64_w, i32_w]
                            rfl
                          refine pure_ (i := 7) (N := some 101) (v := ?_) (a' := ?_) #[true, true, true, true, true, true, true, true, false, false, false] rfl rfl (by kernel_rfl) (fun _ _ _ h => h) (Or.inl ⟨by rfl, ?_⟩) ?_ ?_
                          rotate_left
                          · intro w'
                            go_simp
                            with_reducible rfl
                          rotate_left
                          · simp only [Act.put, List.setIfInBounds_toArray, List.set_cons_zero, List.set_cons_succ, i64_w, i32_w]
                            rfl
                          refine pure_ (i := 8) (N := some 102) (v := ?_) (a' := ?_) #[true, true, true, true, true, true, true, true, true, false, false] rfl rfl (by kernel_rfl) (fun _ _ _ h => h) (Or.inl ⟨by rfl, ?_⟩) ?_ ?_
                          rotate_left
                          · intro w'
                            go_simp
                            with_reducible rfl
                          rotate_left
                          · simp only [Act.put, List.setIfInBounds_toArray, List.set_cons_zero, List.set_cons_succ, i64_w, i32_w]
                            rfl
                          refine pure_ (i := 9) (N := some 19) (v := ?_) (a' := ?_) #[true, true, true, true, true, true, true, true, true, true, false] rfl rfl (by kernel_rfl) (fun _ _ _ h => h) (Or.inl ⟨by rfl, ?_⟩) ?_ ?_
                          rotate_left
                          · intro w'
                            go_simp
                            with_reducible rfl
                          rotate_left
                          · simp only [Act.put, List.setIfInBounds_toArray, List.set_cons_zero, List.set_cons_succ, i64_w, i32_w]
                            rfl
                          refine pure_ (i := 10) (N := some 20) (v := ?_) (a' := ?_) #[true, true, true, true, true, true, true, true, true, true, true] rfl rfl (by kernel_rfl) (fun _ _ _ h => h) (Or.inl ⟨by rfl, ?_⟩) ?_ ?_
                          rotate_left
                          · intro w'
                            go_simp
                            with_reducible rfl
                          rotate_left
                          · simp only [Act.put, List.setIfInBounds_toArray, List.set_cons_zero, List.set_cons_succ, i64_w, i32_w]
                            rfl
                          refine done_ (by kernel_rfl) ?_
                          go_wp2
                          obtain ⟨wo, rfl⟩ : ∃ wo : World, wo = w6 := ⟨_, rfl⟩
                          clear hcy0 hcy1 hcy2 hcz0 hcz1 hcz2 hcv1
                          go_loop [105] (fun v => ∃ j : Nat, j ≤ rows.length ∧ v = .int .i64 (j : Int) ∧ Aside0 (∀ i, i < j → (mask >>> i) % 2 = 1 → rdOf ByteArray.empty again (i : Int) = rdOf ByteArray.empty l3 (i : Int))) (fun v => rows.length - (intOf v).toNat)
                          case atStart => exact ⟨0, Nat.zero_le _, rfl, ⟨fun i hi => absurd hi (Nat.not_lt_zero i)⟩⟩
                          case round =>
                            obtain ⟨j, hj, rfl, HA⟩ := hrel
                            by_cases hlt : j < rows.length
                            · have hla : j < again.length := by rw [HAL.out]; exact hlt
                              obtain ⟨ad3, rfl, hx⟩ := at_string_nat (HP3.out _ HB6.out) j hlt
                              obtain ⟨ad6, rfl, hy⟩ := at_string_nat HC6.out j hla
                              have hB1 := bit_eq mask j hmk
                              have hm2 : (mask >>> j) % 2 < 2 := Nat.mod_lt _ (by decide)
                              generalize hpt : rdOf ByteArray.empty l3 (j : Int) = pt at hx
                              generalize hqt : rdOf ByteArray.empty again (j : Int) = qt at hy
                              generalize hbt : (mask >>> j) % 2 = bit at hB1 hm2
                              have HPT := Aside0.mk hpt
                              have HQT := Aside0.mk hqt
                              have HBT := Aside0.mk hbt
                              clear hpt hqt hbt
                              by_cases hbit : bit = 1
                              · subst hbit
                                by_cases hsw : qt = pt
                                · subst hsw
                                  have hz1 : (qt.toList == qt.toList) = true := beq_iff_eq.2 rfl
                                  have hz2 : (qt.toList != qt.toList) = false := by simp
                                  go_wp2
                                  go_round
                                  case rel => exact ⟨j + 1, by omega, by go_num, ⟨fun i hi hb => by
                                    rcases Nat.lt_or_eq_of_le (Nat.le_of_lt_succ hi) with hi | rfl
                                    · exact HA.out i hi hb
                                    · rw [HPT.out, HQT.out]⟩⟩
                                  case measure => simp [intOf]; omega
                                · have hz2 : (qt.toList == pt.toList) = false := beq_eq_false_iff_ne.2 (fun h => hsw (ba_inj.1 h))
                                  have hz3 : (qt.toList != pt.toList) = true := bne_iff_ne.2 (fun h => hsw (ba_inj.1 h))
                                  have hns : ¬ agree mask again l3 = true := fun h => hsw (by rw [← HPT.out, ← HQT.out]; exact agree_iff.1 h j (by rw [HB5.out]; exact hlt) HBT.out)
                                  have h8 := H8.out
                                  rw [if_neg hns] at h8
                                  obtain ⟨rfl, rfl⟩ := Prod.mk.inj (Option.some.inj h8)
                                  clear h8 hns H8
                                  go_wp2
                                  go_ret2
                                  exact ⟨rfl, HB6.out⟩
                              · obtain rfl : bit = 0 := by omega
                                go_wp2
                                go_round
                                case rel => exact ⟨j + 1, by omega, by go_num, ⟨fun i hi hb => by
                                  rcases Nat.lt_or_eq_of_le (Nat.le_of_lt_succ hi) with hi | rfl
                                  · exact HA.out i hi hb
                                  · have := HBT.out; omega⟩⟩
                                case measure => simp [intOf]; omega
                            · obtain rfl : j = rows.length := by omega
                              have hso : agree mask again l3 = true := agree_iff.2 (by rw [HB5.out]; exact HA.out)
                              have h8 := H8.out
                              rw [if_pos hso] at h8
                              obtain ⟨rfl, rfl⟩ := Prod.mk.inj (Option.some.inj h8)
                              clear h8 hso H8
                              go_wp2
                              go_ret2
                              exact ⟨rfl, HB6.out⟩
                    · rw [if_neg hal] at h8
                      cases h8
                  · rw [if_neg hnf] at h7
                    cases h7
          · rw [if_neg hsp] at h7
            cases h7
        · rw [if_neg hbd] at h2
          cases h2
    · rw [if_neg hok] at h2
      cases h2
  · rw [if_neg he0] at h2
    obtain ⟨rfl, rfl⟩ := Prod.mk.inj (Option.some.inj h2)
    have he1 : (e0 == 0) = false := beq_eq_false_iff_ne.2 he0
    clear h2 hG hr0_1
    go_enter Tryd.func28, Tryd.ntmps28
    go_wp2_with (go_at_call 17; (with_reducible refine (HRW.out _ (by repeat (first | exact Below.refl _ _ | apply below_alloc))).mono ?_); rintro e w1 ⟨v0, rfl, hS, hb1⟩; have HB1 := Aside0.mk hb1; clear hS hb1)
    go_ret2
    exact ⟨rfl, below_step (below_alloc (Below.refl _ _) _) HB1.out⟩


/-! ### bits_OnesCount64: function 100 -/
def bits_OnesCount64.f (a0 : Int) : Option (Int) := some (Go.bits .and .i64 (wrap64 (IntKind.u64.wrap ((IntKind.u64.wrap ((IntKind.u64.wrap ((Go.bits .and .u64 (IntKind.u64.wrap (((IntKind.u64.wrap ((Go.bits .and .u64 ((IntKind.u64.wrap ((Go.bits .and .u64 (a0 / 2) 6148914691236517205) + (Go.bits .and .u64 a0 6148914691236517205))) / 4) 3689348814741910323) + (Go.bits .and .u64 (IntKind.u64.wrap ((Go.bits .and .u64 (a0 / 2) 6148914691236517205) + (Go.bits .and .u64 a0 6148914691236517205))) 3689348814741910323))) / 16) + (IntKind.u64.wrap ((Go.bits .and .u64 ((IntKind.u64.wrap ((Go.bits .and .u64 (a0 / 2) 6148914691236517205) + (Go.bits .and .u64 a0 6148914691236517205))) / 4) 3689348814741910323) + (Go.bits .and .u64 (IntKind.u64.wrap ((Go.bits .and .u64 (a0 / 2) 6148914691236517205) + (Go.bits .and .u64 a0 6148914691236517205))) 3689348814741910323))))) 1085102592571150095) + ((Go.bits .and .u64 (IntKind.u64.wrap (((IntKind.u64.wrap ((Go.bits .and .u64 ((IntKind.u64.wrap ((Go.bits .and .u64 (a0 / 2) 6148914691236517205) + (Go.bits .and .u64 a0 6148914691236517205))) / 4) 3689348814741910323) + (Go.bits .and .u64 (IntKind.u64.wrap ((Go.bits .and .u64 (a0 / 2) 6148914691236517205) + (Go.bits .and .u64 a0 6148914691236517205))) 3689348814741910323))) / 16) + (IntKind.u64.wrap ((Go.bits .and .u64 ((IntKind.u64.wrap ((Go.bits .and .u64 (a0 / 2) 6148914691236517205) + (Go.bits .and .u64 a0 6148914691236517205))) / 4) 3689348814741910323) + (Go.bits .and .u64 (IntKind.u64.wrap ((Go.bits .and .u64 (a0 / 2) 6148914691236517205) + (Go.bits .and .u64 a0 6148914691236517205))) 3689348814741910323))))) 1085102592571150095) / 256))) + ((IntKind.u64.wrap ((Go.bits .and .u64 (IntKind.u64.wrap (((IntKind.u64.wrap ((Go.bits .and .u64 ((IntKind.u64.wrap ((Go.bits .and .u64 (a0 / 2) 6148914691236517205) + (Go.bits .and .u64 a0 6148914691236517205))) / 4) 3689348814741910323) + (Go.bits .and .u64 (IntKind.u64.wrap ((Go.bits .and .u64 (a0 / 2) 6148914691236517205) + (Go.bits .and .u64 a0 6148914691236517205))) 3689348814741910323))) / 16) + (IntKind.u64.wrap ((Go.bits .and .u64 ((IntKind.u64.wrap ((Go.bits .and .u64 (a0 / 2) 6148914691236517205) + (Go.bits .and .u64 a0 6148914691236517205))) / 4) 3689348814741910323) + (Go.bits .and .u64 (IntKind.u64.wrap ((Go.bits .and .u64 (a0 / 2) 6148914691236517205) + (Go.bits .and .u64 a0 6148914691236517205))) 3689348814741910323))))) 1085102592571150095) + ((Go.bits .and .u64 (IntKind.u64.wrap (((IntKind.u64.wrap ((Go.bits .and .u64 ((IntKind.u64.wrap ((Go.bits .and .u64 (a0 / 2) 6148914691236517205) + (Go.bits .and .u64 a0 6148914691236517205))) / 4) 3689348814741910323) + (Go.bits .and .u64 (IntKind.u64.wrap ((Go.bits .and .u64 (a0 / 2) 6148914691236517205) + (Go.bits .and .u64 a0 6148914691236517205))) 3689348814741910323))) / 16) + (IntKind.u64.wrap ((Go.bits .and .u64 ((IntKind.u64.wrap ((Go.bits .and .u64 (a0 / 2) 6148914691236517205) + (Go.bits .and .u64 a0 6148914691236517205))) / 4) 3689348814741910323) + (Go.bits .and .u64 (IntKind.u64.wrap ((Go.bits .and .u64 (a0 / 2) 6148914691236517205) + (Go.bits .and .u64 a0 6148914691236517205))) 3689348814741910323))))) 1085102592571150095) / 256))) / 65536))) + ((IntKind.u64.wrap ((IntKind.u64.wrap ((Go.bits .and .u64 (IntKind.u64.wrap (((IntKind.u64.wrap ((Go.bits .and .u64 ((IntKind.u64.wrap ((Go.bits .and .u64 (a0 / 2) 6148914691236517205) + (Go.bits .and .u64 a0 6148914691236517205))) / 4) 3689348814741910323) + (Go.bits .and .u64 (IntKind.u64.wrap ((Go.bits .and .u64 (a0 / 2) 6148914691236517205) + (Go.bits .and .u64 a0 6148914691236517205))) 3689348814741910323))) / 16) + (IntKind.u64.wrap ((Go.bits .and .u64 ((IntKind.u64.wrap ((Go.bits .and .u64 (a0 / 2) 6148914691236517205) + (Go.bits .and .u64 a0 6148914691236517205))) / 4) 3689348814741910323) + (Go.bits .and .u64 (IntKind.u64.wrap ((Go.bits .and .u64 (a0 / 2) 6148914691236517205) + (Go.bits .and .u64 a0 6148914691236517205))) 3689348814741910323))))) 1085102592571150095) + ((Go.bits .and .u64 (IntKind.u64.wrap (((IntKind.u64.wrap ((Go.bits .and .u64 ((IntKind.u64.wrap ((Go.bits .and .u64 (a0 / 2) 6148914691236517205) + (Go.bits .and .u64 a0 6148914691236517205))) / 4) 3689348814741910323) + (Go.bits .and .u64 (IntKind.u64.wrap ((Go.bits .and .u64 (a0 / 2) 6148914691236517205) + (Go.bits .and .u64 a0 6148914691236517205))) 3689348814741910323))) / 16) + (IntKind.u64.wrap ((Go.bits .and .u64 ((IntKind.u64.wrap ((Go.bits .and .u64 (a0 / 2) 6148914691236517205) + (Go.bits .and .u64 a0 6148914691236517205))) / 4) 3689348814741910323) + (Go.bits .and .u64 (IntKind.u64.wrap ((Go.bits .and .u64 (a0 / 2) 6148914691236517205) + (Go.bits .and .u64 a0 6148914691236517205))) 3689348814741910323))))) 1085102592571150095) / 256))) + ((IntKind.u64.wrap ((Go.bits .and .u64 (IntKind.u64.wrap (((IntKind.u64.wrap ((Go.bits .and .u64 ((IntKind.u64.wrap ((Go.bits .and .u64 (a0 / 2) 6148914691236517205) + (Go.bits .and .u64 a0 6148914691236517205))) / 4) 3689348814741910323) + (Go.bits .and .u64 (IntKind.u64.wrap ((Go.bits .and .u64 (a0 / 2) 6148914691236517205) + (Go.bits .and .u64 a0 6148914691236517205))) 3689348814741910323))) / 16) + (IntKind.u64.wrap ((Go.bits .and .u64 ((IntKind.u64.wrap ((Go.bits .and .u64 (a0 / 2) 6148914691236517205) + (Go.bits .and .u64 a0 6148914691236517205))) / 4) 3689348814741910323) + (Go.bits .and .u64 (IntKind.u64.wrap ((Go.bits .and .u64 (a0 / 2) 6148914691236517205) + (Go.bits .and .u64 a0 6148914691236517205))) 3689348814741910323))))) 1085102592571150095) + ((Go.bits .and .u64 (IntKind.u64.wrap (((IntKind.u64.wrap ((Go.bits .and .u64 ((IntKind.u64.wrap ((Go.bits .and .u64 (a0 / 2) 6148914691236517205) + (Go.bits .and .u64 a0 6148914691236517205))) / 4) 3689348814741910323) + (Go.bits .and .u64 (IntKind.u64.wrap ((Go.bits .and .u64 (a0 / 2) 6148914691236517205) + (Go.bits .and .u64 a0 6148914691236517205))) 3689348814741910323))) / 16) + (IntKind.u64.wrap ((Go.bits .and .u64 ((IntKind.u64.wrap ((Go.bits .and .u64 (a0 / 2) 6148914691236517205) + (Go.bits .and .u64 a0 6148914691236517205))) / 4) 3689348814741910323) + (Go.bits .and .u64 (IntKind.u64.wrap ((Go.bits .and .u64 (a0 / 2) 6148914691236517205) + (Go.bits .and .u64 a0 6148914691236517205))) 3689348814741910323))))) 1085102592571150095) / 256))) / 65536))) / 4294967296)))) 127)
set_option maxHeartbeats 8000000 in
set_option maxRecDepth 100000 in
theorem bits_OnesCount64.calls (a0 : Int) (r : Int) (w : World) (hG : HG w) (h : bits_OnesCount64.f a0 = some r) :
  Calls Tryd.prog 100 #[.int .u64 a0] w fun e w' => e = .returned (.int .i64 r) ∧ Drawn0 w w' := by
 have HGw := Aside0.mk hG
 clear hG
 have H : (some (Go.bits .and .i64 (wrap64 (IntKind.u64.wrap ((IntKind.u64.wrap ((IntKind.u64.wrap ((Go.bits .and .u64 (IntKind.u64.wrap (((IntKind.u64.wrap ((Go.bits .and .u64 ((IntKind.u64.wrap ((Go.bits .and .u64 (a0 / 2) 6148914691236517205) + (Go.bits .and .u64 a0 6148914691236517205))) / 4) 3689348814741910323) + (Go.bits .and .u64 (IntKind.u64.wrap ((Go.bits .and .u64 (a0 / 2) 6148914691236517205) + (Go.bits .and .u64 a0 6148914691236517205))) 3689348814741910323))) / 16) + (IntKind.u64.wrap ((Go.bits .and .u64 ((IntKind.u64.wrap ((Go.bits .and .u64 (a0 / 2) 6148914691236517205) + (Go.bits .and .u64 a0 6148914691236517205))) / 4) 3689348814741910323) + (Go.bits .and .u64 (IntKind.u64.wrap ((Go.bits .and .u64 (a0 / 2) 6148914691236517205) + (Go.bits .and .u64 a0 6148914691236517205))) 3689348814741910323))))) 1085102592571150095) + ((Go.bits .and .u64 (IntKind.u64.wrap (((IntKind.u64.wrap ((Go.bits .and .u64 ((IntKind.u64.wrap ((Go.bits .and .u64 (a0 / 2) 6148914691236517205) + (Go.bits .and .u64 a0 6148914691236517205))) / 4) 3689348814741910323) + (Go.bits .and .u64 (IntKind.u64.wrap ((Go.bits .and .u64 (a0 / 2) 6148914691236517205) + (Go.bits .and .u64 a0 6148914691236517205))) 3689348814741910323))) / 16) + (IntKind.u64.wrap ((Go.bits .and .u64 ((IntKind.u64.wrap ((Go.bits .and .u64 (a0 / 2) 6148914691236517205) + (Go.bits .and .u64 a0 6148914691236517205))) / 4) 3689348814741910323) + (Go.bits .and .u64 (IntKind.u64.wrap ((Go.bits .and .u64 (a0 / 2) 6148914691236517205) + (Go.bits .and .u64 a0 6148914691236517205))) 3689348814741910323))))) 1085102592571150095) / 256))) + ((IntKind.u64.wrap ((Go.bits .and .u64 (IntKind.u64.wrap (((IntKind.u64.wrap ((Go.bits .and .u64 ((IntKind.u64.wrap ((Go.bits .and .u64 (a0 / 2) 6148914691236517205) + (Go.bits .and .u64 a0 6148914691236517205))) / 4) 3689348814741910323) + (Go.bits .and .u64 (IntKind.u64.wrap ((Go.bits .and .u64 (a0 / 2) 6148914691236517205) + (Go.bits .and .u64 a0 6148914691236517205))) 3689348814741910323))) / 16) + (IntKind.u64.wrap ((Go.bits .and .u64 ((IntKind.u64.wrap ((Go.bits .and .u64 (a0 / 2) 6148914691236517205) + (Go.bits .and .u64 a0 6148914691236517205))) / 4) 3689348814741910323) + (Go.bits .and .u64 (IntKind.u64.wrap ((Go.bits .and .u64 (a0 / 2) 6148914691236517205) + (Go.bits .and .u64 a0 6148914691236517205))) 3689348814741910323))))) 1085102592571150095) + ((Go.bits .and .u64 (IntKind.u64.wrap (((IntKind.u64.wrap ((Go.bits .and .u64 ((IntKind.u64.wrap ((Go.bits .and .u64 (a0 / 2) 6148914691236517205) + (Go.bits .and .u64 a0 6148914691236517205))) / 4) 3689348814741910323) + (Go.bits .and .u64 (IntKind.u64.wrap ((Go.bits .and .u64 (a0 / 2) 6148914691236517205) + (Go.bits .and .u64 a0 6148914691236517205))) 3689348814741910323))) / 16) + (IntKind.u64.wrap ((Go.bits .and .u64 ((IntKind.u64.wrap ((Go.bits .and .u64 (a0 / 2) 6148914691236517205) + (Go.bits .and .u64 a0 6148914691236517205))) / 4) 3689348814741910323) + (Go.bits .and .u64 (IntKind.u64.wrap ((Go.bits .and .u64 (a0 / 2) 6148914691236517205) + (Go.bits .and .u64 a0 6148914691236517205))) 3689348814741910323))))) 1085102592571150095) / 256))) / 65536))) + ((IntKind.u64.wrap ((IntKind.u64.wrap ((Go.bits .and .u64 (IntKind.u64.wrap (((IntKind.u64.wrap ((Go.bits .and .u64 ((IntKind.u64.wrap ((Go.bits .and .u64 (a0 / 2) 6148914691236517205) + (Go.bits .and .u64 a0 6148914691236517205))) / 4) 3689348814741910323) + (Go.bits .and .u64 (IntKind.u64.wrap ((Go.bits .and .u64 (a0 / 2) 6148914691236517205) + (Go.bits .and .u64 a0 6148914691236517205))) 3689348814741910323))) / 16) + (IntKind.u64.wrap ((Go.bits .and .u64 ((IntKind.u64.wrap ((Go.bits .and .u64 (a0 / 2) 6148914691236517205) + (Go.bits .and .u64 a0 6148914691236517205))) / 4) 3689348814741910323) + (Go.bits .and .u64 (IntKind.u64.wrap ((Go.bits .and .u64 (a0 / 2) 6148914691236517205) + (Go.bits .and .u64 a0 6148914691236517205))) 3689348814741910323))))) 1085102592571150095) + ((Go.bits .and .u64 (IntKind.u64.wrap (((IntKind.u64.wrap ((Go.bits .and .u64 ((IntKind.u64.wrap ((Go.bits .and .u64 (a0 / 2) 6148914691236517205) + (Go.bits .and .u64 a0 6148914691236517205))) / 4) 3689348814741910323) + (Go.bits .and .u64 (IntKind.u64.wrap ((Go.bits .and .u64 (a0 / 2) 6148914691236517205) + (Go.bits .and .u64 a0 6148914691236517205))) 3689348814741910323))) / 16) + (IntKind.u64.wrap ((Go.bits .and .u64 ((IntKind.u64.wrap ((Go.bits .and .u64 (a0 / 2) 6148914691236517205) + (Go.bits .and .u64 a0 6148914691236517205))) / 4) 3689348814741910323) + (Go.bits .and .u64 (IntKind.u64.wrap ((Go.bits .and .u64 (a0 / 2) 6148914691236517205) + (Go.bits .and .u64 a0 6148914691236517205))) 3689348814741910323))))) 1085102592571150095) / 256))) + ((IntKind.u64.wrap ((Go.bits .and .u64 (IntKind.u64.wrap (((IntKind.u64.wrap ((Go.bits .and .u64 ((IntKind.u64.wrap ((Go.bits .and .u64 (a0 / 2) 6148914691236517205) + (Go.bits .and .u64 a0 6148914691236517205))) / 4) 3689348814741910323) + (Go.bits .and .u64 (IntKind.u64.wrap ((Go.bits .and .u64 (a0 / 2) 6148914691236517205) + (Go.bits .and .u64 a0 6148914691236517205))) 3689348814741910323))) / 16) + (IntKind.u64.wrap ((Go.bits .and .u64 ((IntKind.u64.wrap ((Go.bits .and .u64 (a0 / 2) 6148914691236517205) + (Go.bits .and .u64 a0 6148914691236517205))) / 4) 3689348814741910323) + (Go.bits .and .u64 (IntKind.u64.wrap ((Go.bits .and .u64 (a0 / 2) 6148914691236517205) + (Go.bits .and .u64 a0 6148914691236517205))) 3689348814741910323))))) 1085102592571150095) + ((Go.bits .and .u64 (IntKind.u64.wrap (((IntKind.u64.wrap ((Go.bits .and .u64 ((IntKind.u64.wrap ((Go.bits .and .u64 (a0 / 2) 6148914691236517205) + (Go.bits .and .u64 a0 6148914691236517205))) / 4) 3689348814741910323) + (Go.bits .and .u64 (IntKind.u64.wrap ((Go.bits .and .u64 (a0 / 2) 6148914691236517205) + (Go.bits .and .u64 a0 6148914691236517205))) 3689348814741910323))) / 16) + (IntKind.u64.wrap ((Go.bits .and .u64 ((IntKind.u64.wrap ((Go.bits .and .u64 (a0 / 2) 6148914691236517205) + (Go.bits .and .u64 a0 6148914691236517205))) / 4) 3689348814741910323) + (Go.bits .and .u64 (IntKind.u64.wrap ((Go.bits .and .u64 (a0 / 2) 6148914691236517205) + (Go.bits .and .u64 a0 6148914691236517205))) 3689348814741910323))))) 1085102592571150095) / 256))) / 65536))) / 4294967296)))) 127)) = some r := h
 clear h
 obtain rfl := Option.some.inj H
 go_enter Tryd.func100, Tryd.ntmps100
 go_wp2
 go_ret
 exact ⟨by first | rfl | (simp; done) | (simp [*]; done), by repeat (first | exact Drawn0.refl _ | apply Drawn0.step)⟩


/-! ### bits_OnesCount: function 79 -/
def bits_OnesCount.f (a0 : Int) : Option (Int) := (bits_OnesCount64.f a0).bind fun t264 => (some t264)
set_option maxHeartbeats 8000000 in
set_option maxRecDepth 100000 in
theorem bits_OnesCount.calls (a0 : Int) (r : Int) (w : World) (hG : HG w) (h : bits_OnesCount.f a0 = some r) :
  Calls Tryd.prog 79 #[.int .u64 a0] w fun e w' => e = .returned (.int .i64 r) ∧ Drawn0 w w' := by
 have HGw := Aside0.mk hG
 clear hG
 have H : ((bits_OnesCount64.f a0).bind fun t264 => (some t264)) = some r := h
 clear h
 replace H := Option.bind_eq_some_iff.mp H
 obtain ⟨t264, A20, H⟩ := H
 replace H : (some t264) = some r := H
 have A2 := Aside0.mk A20
 clear A20
 obtain rfl := Option.some.inj H
 go_enter Tryd.func79, Tryd.ntmps79
 go_wp2_with (first | ((with_reducible refine gate_callee (f := 100) rfl ?_); refine goesL_ (some 7) rfl rfl Tryd.func100 (by kernel_rfl) rfl #[.int .u64 a0] rfl (by (try simp only [List.map_toArray, List.map_cons, List.map_nil]); first | done | rfl | (simp only [List.length_drop, List.length_take]; rfl)) ?_; (with_reducible refine (bits_OnesCount64.calls a0 t264 _ ?side1 A2.out).mono ?_); (case side1 => first | exact HGw.out | (repeat (first | exact HGw.out | apply HG.drewN | apply HG.drew))); rintro e w' ⟨rfl, ⟨nd, rfl⟩⟩; refine ⟨_, rfl, ?_⟩))
 go_ret
 exact ⟨by first | rfl | (simp; done) | (simp [*]; done), by repeat (first | exact Drawn0.refl _ | apply Drawn0.step)⟩


/-! ### code_sets: function 72 -/
section
open Go.Shelf
attribute [local go_sem] Oper.semAt_some
/-- How many ones a number has. -/
def onesOf (m : Nat) : Int := (bits_OnesCount.f (m : Int)).getD 0
theorem ones64_some (a : Int) : ∃ r, bits_OnesCount64.f a = some r := ⟨_, by unfold bits_OnesCount64.f; exact rfl⟩
theorem ones_some (m : Nat) : bits_OnesCount.f (m : Int) = some (onesOf m) := by
 unfold onesOf bits_OnesCount.f
 obtain ⟨r, hr⟩ := ones64_some (m : Int)
 rw [hr]
 rfl
theorem ones_calls (m : Nat) (w : World) (hG : HG w) : Calls Tryd.prog 79 #[.int .u64 (m : Int)] w fun e w' => e = .returned (.int .i64 (onesOf m)) ∧ Drawn0 w w' :=
 bits_OnesCount.calls (m : Int) _ w hG (ones_some m)
def setsUpto (size : Int) (k : Nat) : List Nat := (List.range k).filter fun m => decide (onesOf m = size)
theorem setsUpto_succ (size : Int) (k : Nat) : setsUpto size (k + 1) = setsUpto size k ++ (if onesOf k = size then [k] else []) := by
 unfold setsUpto
 rw [List.range_succ, List.filter_append]
 congr 1
 by_cases h : onesOf k = size <;> simp [h]
theorem setsUpto_lt (size : Int) {k Z : Nat} (h : k < Z) : (setsUpto size k).length < Z := Nat.lt_of_le_of_lt (Nat.le_trans (List.length_filter_le _ _) (by simp)) h
theorem KeepsD_ (w : World) (m : Nat) : w.grownBy (w.drewN m) none := by
 have h := pw_below_drewN (Below.refl w.heap.size w) m
 exact ⟨h.os, h.tape, h.output, h.size, fun k hk _ => h.block k hk⟩
set_option maxRecDepth 100000 in
set_option maxHeartbeats 4000000 in
theorem sets1_in (n N : Nat) (size : Int) (hn : N ≤ 24) (h1n : 1 ≤ n) (l Bn Bs n₀ : Nat) (w0 : World) (hG0 : HG w0) (J Jx : List Nat → World → Prop) (BJ : Nat) (hJ : AbidesFrom BJ J)
  (hY : ∀ (pre : List Nat) (x : Nat) W, J pre W → pre.length < 2 ^ N → x < 2 ^ N → YieldAt Fence.wide (n - 1) Tryd.prog l #[.int .i64 (x : Int)] W fun e W' =>
   (e = .returned (.bool true) ∧ J (pre ++ [x]) W' ∧ Below n₀ W W') ∨ (e = .returned (.bool false) ∧ Jx (pre ++ [x]) W'))
  (W : World) (hW : Below w0.heap.size w0 W) (hn0 : n₀ = w0.heap.size) (hBn : W.cell? ⟨Bn, 0, none⟩ = some (.int .i64 (N : Int))) (hBs : W.cell? ⟨Bs, 0, none⟩ = some (.int .i64 size)) (hlt : Bs < n₀) (h0 : J [] W) :
  CallsIn Fence.wide n Tryd.prog 97 #[.func (.yield l) #[] #[], .pointer (some ⟨Bn, 0, none⟩), .pointer (some ⟨Bs, 0, none⟩)] W fun e W' => (∃ v, e = .returned v) ∧
   ((∃ ys, ys = setsUpto size (2 ^ N) ∧ J ys W') ∨ (∃ pre, (∃ k, k ≤ 2 ^ N ∧ pre = setsUpto size k) ∧ Jx pre W')) := by
 obtain ⟨Z, hZ⟩ : ∃ Z : Nat, Z = 2 ^ N := ⟨_, rfl⟩
 have hpl : Z ≤ 2 ^ 24 := by rw [hZ]; exact Nat.pow_le_pow_right (by decide) hn
 have hw1 : wrap64 ((2 : Int) ^ N) = (Z : Int) := by
  have h2 : ((2 : Int) ^ N) = ((2 ^ N : Nat) : Int) := by simp
  rw [h2, ← hZ]
  unfold wrap64; omega
 rw [← hZ] at hY
 have HY := Aside0.mk hY
 have HJ := Aside0.mk hJ
 rw [← hZ]
 have HZ := Aside0.mk hZ
 have HG0 := Aside0.mk hG0
 clear hY hJ hZ hG0
 refine callsIn_of_wp Tryd.func97 rfl trivial ?_ rfl
 simp only [Tryd.ntmps97, List.size_toArray, List.length_cons, List.length_nil, Nat.reduceAdd, Nat.reduceSub, Array.replicate_succ, Array.replicate_zero, List.push_toArray, List.append_toArray, List.nil_append, List.cons_append]
 gi_wp2
 rw [hw1]
 clear hw1
 gi_loopw [7] (fun i wr => ∃ k : Nat, k ≤ Z ∧ i = .int .i64 (k : Int) ∧ Aside0 (J (setsUpto size k) wr) ∧ Aside0 (Below n₀ W wr)) (fun i _ => Z - (intOf i).toNat)
 case atStart => exact ⟨0, Nat.zero_le _, rfl, ⟨h0⟩, ⟨Below.refl _ _⟩⟩
 case round =>
  obtain ⟨k, hk, rfl, HJs, HB⟩ := hrel
  have hcs : wr.cell? ⟨Bs, 0, none⟩ = some (.int .i64 size) := (HB.out.cell (p := ⟨Bs, 0, none⟩) hlt).trans hBs
  by_cases hltk : k < Z
  ·have hOC := ones_calls k
   have HOC := Aside0.mk hOC
   have HSU := Aside0.mk (setsUpto_succ size k)
   have hwk : IntKind.u64.wrap (k : Int) = (k : Int) := by rw [IntKind.wrap_u64]; omega
   clear hOC
   generalize hon : onesOf k = on at HOC HSU
   have HGr := Aside0.mk (show ∀ W', Below wr.heap.size wr W' → HG W' from fun W' hb => HG0.out.below (below_step (hW.trans (by rw [← hn0]; exact HB.out)) hb))
   have hmx : Tryd.prog.follows .mixedOrders = true := by kernel_rfl
   have HDB := Aside0.mk (fun m => (pw_below_drewN (Below.refl wr.heap.size wr) m).mono (show n₀ ≤ wr.heap.size by have := HB.out.size; have := hW.size; omega))
   have HDR := Aside0.mk (fun m => show J (setsUpto size k) (wr.drewN m) from HJ.out _ _ _ none HJs.out ((KeepsD_ wr m)) (fun r e => by cases e))
   by_cases heq : on = size
   ·subst heq
    have hne1 : (on == on) = true := beq_self_eq_true _
    have HYm := Aside0.mk (fun m => (HY.out (setsUpto on k) k (wr.drewN m) (HDR.out m) (setsUpto_lt on hltk) hltk).mono (R' := fun e W' => ∃ b : Bool, e = .returned (.bool b) ∧ (b = true → J (setsUpto on k ++ [k]) W' ∧ Below n₀ (wr.drewN m) W') ∧ (b = false → Jx (setsUpto on k ++ [k]) W')) (fun e W' h => by
     rcases h with ⟨rfl, h⟩ | ⟨rfl, h⟩
     ·exact ⟨true, rfl, fun _ => h, fun h2 => (by cases h2)⟩
     ·exact ⟨false, rfl, fun h2 => (by cases h2), fun _ => h⟩))
    gi_wp2
    first
    | (gi_region_with_o (first | (refine ⟨trivial, ?_⟩; gi_at_call 79; refine (callsIn_wide.2 (HOC.out _ ?g1)).mono ?_; (case g1 => exact HGr.out _ (by repeat (first | exact Below.refl _ _ | apply pw_below_drewN | apply below_drew))); rintro e w' ⟨rfl, ⟨nd, rfl⟩⟩; obtain ⟨fn, tmps, assign, body, hy, hR⟩ := HYm.out (1 + nd); have HR_ := Aside0.mk hR; clear hR) | (gi_at_call 79; refine (callsIn_wide.2 (HOC.out _ ?g1)).mono ?_; (case g1 => exact HGr.out _ (by repeat (first | exact Below.refl _ _ | apply pw_below_drewN | apply below_drew))); rintro e w' ⟨rfl, ⟨nd, rfl⟩⟩; obtain ⟨fn, tmps, assign, body, hy, hR⟩ := HYm.out (1 + nd); have HR_ := Aside0.mk hR; clear hR) | (refine HR_.out.mono ?_; rintro e W3 ⟨b, rfl, h1, h2⟩; have HT_ := Aside0.mk h1; have HF_ := Aside0.mk h2; clear h1 h2 hy)))
    | (gi_region_with_o? (first | (refine ⟨trivial, ?_⟩; gi_at_call 79; refine (callsIn_wide.2 (HOC.out _ ?g1)).mono ?_; (case g1 => exact HGr.out _ (by repeat (first | exact Below.refl _ _ | apply pw_below_drewN | apply below_drew))); rintro e w' ⟨rfl, ⟨nd, rfl⟩⟩; obtain ⟨fn, tmps, assign, body, hy, hR⟩ := HYm.out (1 + nd); have HR_ := Aside0.mk hR; clear hR) | (gi_at_call 79; refine (callsIn_wide.2 (HOC.out _ ?g1)).mono ?_; (case g1 => exact HGr.out _ (by repeat (first | exact Below.refl _ _ | apply pw_below_drewN | apply below_drew))); rintro e w' ⟨rfl, ⟨nd, rfl⟩⟩; obtain ⟨fn, tmps, assign, body, hy, hR⟩ := HYm.out (1 + nd); have HR_ := Aside0.mk hR; clear hR) | (trace_state; fail)))
    all_goals
     cases b
     ·have hjx := HF_.out rfl
      have HJX := Aside0.mk hjx
      clear hjx
      gi_wp2
      refine bodyPost_ret (results_none rfl _ _ _) rfl ?_
      exact ⟨⟨_, rfl⟩, .inr ⟨_, ⟨k + 1, by omega, by rw [HSU.out, if_pos trivial]⟩, HJX.out⟩⟩
     ·have HJ3 := Aside0.mk (HT_.out rfl).1
      have HB3 := Aside0.mk (HT_.out rfl).2
      gi_wp2
      go_roundw
      case rel => exact ⟨k + 1, by omega, by go_num, ⟨by rw [HSU.out, if_pos trivial]; exact HJ3.out⟩, ⟨HB.out.trans ((HDB.out _).trans HB3.out)⟩⟩
      case measure => simp [intOf]; omega
   ·have hne1 : (on == size) = false := beq_eq_false_iff_ne.2 heq
    gi_wp2
    first
    | (gi_region_with_o (first | (refine ⟨trivial, ?_⟩; gi_at_call 79; refine (callsIn_wide.2 (HOC.out _ ?g1)).mono ?_; (case g1 => exact HGr.out _ (by repeat (first | exact Below.refl _ _ | apply pw_below_drewN | apply below_drew))); rintro e w' ⟨rfl, ⟨nd, rfl⟩⟩) | (gi_at_call 79; refine (callsIn_wide.2 (HOC.out _ ?g1)).mono ?_; (case g1 => exact HGr.out _ (by repeat (first | exact Below.refl _ _ | apply pw_below_drewN | apply below_drew))); rintro e w' ⟨rfl, ⟨nd, rfl⟩⟩) | (refine ⟨fun _ h => (by cases h), ?_⟩)))
    | (gi_region_with_o? (first | (refine ⟨trivial, ?_⟩; gi_at_call 79; refine (callsIn_wide.2 (HOC.out _ ?g1)).mono ?_; (case g1 => exact HGr.out _ (by repeat (first | exact Below.refl _ _ | apply pw_below_drewN | apply below_drew))); rintro e w' ⟨rfl, ⟨nd, rfl⟩⟩) | (gi_at_call 79; refine (callsIn_wide.2 (HOC.out _ ?g1)).mono ?_; (case g1 => exact HGr.out _ (by repeat (first | exact Below.refl _ _ | apply pw_below_drewN | apply below_drew))); rintro e w' ⟨rfl, ⟨nd, rfl⟩⟩) | (trace_state; fail)))
    all_goals
     gi_wp2
     go_roundw
     case rel => exact ⟨k + 1, by omega, by go_num, ⟨by rw [HSU.out, if_neg heq, List.append_nil]; exact HDR.out _⟩, ⟨pw_below_drewN HB.out _⟩⟩
     case measure => simp [intOf]; omega
  ·obtain rfl : k = Z := by omega
   gi_wp2
   go_end0
   exact ⟨⟨_, rfl⟩, .inl ⟨_, rfl, HJs.out⟩⟩
abbrev Piece (N : Nat) := { x : Nat // x < 2 ^ N }
theorem sets1_stops (n N : Nat) (size : Int) (hn : N ≤ 24) (h1n : 1 ≤ n) (Bn Bs : Nat) (w0 : World) (hG0 : HG w0) (hBn : w0.cell? ⟨Bn, 0, none⟩ = some (.int .i64 (N : Int))) (hBs : w0.cell? ⟨Bs, 0, none⟩ = some (.int .i64 size)) :
  SeqStopsK Fence.wide n Tryd.prog 97 #[.pointer (some ⟨Bn, 0, none⟩), .pointer (some ⟨Bs, 0, none⟩)] (fun x : Piece N => #[Value.int .i64 (x.1 : Int)]) (Below w0.heap.size) (fun xs => xs.map Subtype.val = setsUpto size (2 ^ N)) (fun pre => ∃ k, k ≤ 2 ^ N ∧ pre.map Subtype.val = setsUpto size k) (2 ^ N) w0 := by
 intro l J Jx W hW hJ hJx hY h0
 have h2 := World.block_lt_of_cell? w0 _ hBs
 refine (sets1_in n N size hn h1n l Bn Bs w0.heap.size w0 hG0 (fun q W' => ∃ q' : List (Piece N), q'.map Subtype.val = q ∧ J q' W') (fun q W' => ∃ q' : List (Piece N), q'.map Subtype.val = q ∧ Jx q' W') W.heap.size ?_ ?_ W hW rfl (pw_cell_below hW hBn) (pw_cell_below hW hBs) h2 ⟨[], rfl, h0⟩).mono ?_
 ·rintro s A B row ⟨q', hq, hj⟩ hg hr
  exact ⟨q', hq, hJ q' A B row hj hg hr⟩
 ·rintro pre x W1 ⟨q', rfl, hj⟩ hl hx
  refine (hY q' ⟨x, hx⟩ W1 hj (by simpa using hl)).mono ?_
  rintro e W' (⟨rfl, h3, h4⟩ | ⟨rfl, h3⟩)
  ·exact .inl ⟨rfl, ⟨_, by simp, h3⟩, h4⟩
  ·exact .inr ⟨rfl, ⟨_, by simp, h3⟩⟩
 ·rintro e W' ⟨he, ⟨ys, rfl, q', hq, hj⟩ | ⟨pre, ⟨k, hk, rfl⟩, q', hq, hj⟩⟩
  ·exact ⟨he, .inl ⟨q', hq, hj⟩⟩
  ·exact ⟨he, .inr ⟨q', ⟨k, hk, hq⟩, hj⟩⟩
set_option maxRecDepth 100000 in
/-- sets: its closure, over two variables of its own. -/
theorem sets_calls (N : Nat) (size : Int) (w : World) :
  Calls Tryd.prog 72 #[.int .i64 (N : Int), .int .i64 size] w fun e w' => e = .returned (.func (.func 97) #[] #[.pointer (some ⟨w.heap.size, 0, none⟩), .pointer (some ⟨w.heap.size + 1, 0, none⟩)]) ∧ w' = (w.alloc (.cells #[.int .i64 (N : Int)] 3)).alloc (.cells #[.int .i64 size] 3) := by
 have hmf := run_mf Tryd.prog
 go_enter Tryd.func72, Tryd.ntmps72
 go_wp2
 go_ret
 exact ⟨rfl, rfl⟩
end


/-! ### code_Distance: function 32 -/
section
open Go.Shelf
attribute [local go_sem] Oper.semAt_some
theorem blk_keep_ {w : World} {g : Nat} {o : Obj} (h : w.heap[g]? = some o) (g2 : Nat) (hne : g ≠ g2) (j : Nat) (u : Value) : (w.setCell ⟨g2, j, none⟩ u).heap[g]? = some o := (Below.heap_setCell w ⟨g2, j, none⟩ u g hne).trans h
theorem blk_new1 (w : World) (o o' : Obj) : ((w.alloc o).alloc o').heap[w.heap.size + 1]? = some o' := by
 have := blk_new (w.alloc o) o'
 rwa [World.size_alloc] at this
theorem blk_new2 (w : World) (o o' o'' : Obj) : (((w.alloc o).alloc o').alloc o'').heap[w.heap.size + 1 + 1]? = some o'' := by
 have := blk_new1 (w.alloc o) o' o''
 rwa [World.size_alloc] at this
def markOf (D : Nat) : Deferred := { target := .collected D, args := #[] }
/-- The marks of loops over functions that have run, as a function leaves. -/
def Marks (B : Nat) (Ds : List Nat) (W : World) : Prop := Ds.Nodup ∧ ∀ D, D ∈ Ds → B ≤ D ∧ W.heap[D]? = some (.deferred (some []))
theorem leaves_marks {F : Fence} {n : Nat} {P : Program} {fn : Func} {tmps : Array Value} {R : Ending → World → Prop} (B : Nat) (G : World → Prop)
  (hG : ∀ W D, G W → B ≤ D → W.heap[D]? = some (.deferred (some [])) → G (W.putObj D (.deferred none))) (hfin : ∀ W, G W → LeavesInM F n P fn tmps R [] .returning W) :
  ∀ Ds W, Marks B Ds W → G W → LeavesInM F n P fn tmps R (Ds.map markOf) .returning W
 | [], W, _, h => hfin W h
 | D :: Ds, W, hm, h => by
  obtain ⟨hn, hd⟩ := hm
  obtain ⟨hB, hD⟩ := hd D (List.mem_cons_self)
  have hnd := List.nodup_cons.1 hn
  refine ⟨by simp, .inl ⟨D, _, rfl, run_takeDeferred hD, ?_⟩⟩
  refine leaves_marks B G hG hfin Ds _ ⟨hnd.2, fun D' h' => ?_⟩ (hG W D h hB hD)
  obtain ⟨h1, h2⟩ := hd D' (List.mem_cons_of_mem _ h')
  exact ⟨h1, (World.putObj_heap_other (fun (e : D' = D) => hnd.1 (e ▸ h'))).trans h2⟩
theorem Marks.keep {B N : Nat} {Ds : List Nat} {W W' : World} (h : Marks B Ds W) (hb : Below N W W') (hl : ∀ D, D ∈ Ds → D < N) : Marks B Ds W' := ⟨h.1, fun D hd => ⟨(h.2 D hd).1, (hb.block D (hl D hd)).trans (h.2 D hd).2⟩⟩
theorem Marks.lt {B : Nat} {Ds : List Nat} {W : World} (h : Marks B Ds W) : ∀ D, D ∈ Ds → D < W.heap.size := fun D hd => (Array.getElem?_eq_some_iff.1 (h.2 D hd).2).1
theorem Marks.set {B : Nat} {Ds : List Nat} {W : World} (h : Marks B Ds W) (g : Nat) (hg : g < B) (j : Nat) (u : Value) : Marks B Ds (W.setCell ⟨g, j, none⟩ u) := ⟨h.1, fun D hd => ⟨(h.2 D hd).1, blk_keep_ (h.2 D hd).2 g (by have := (h.2 D hd).1; omega) j u⟩⟩
/-- What lies at the end: the two results. -/
def DistEnd (Bd Be : Nat) (x y : Int) (w W : World) : Prop := W.cell? ⟨Bd, 0, none⟩ = some (.int .i64 x) ∧ W.cell? ⟨Be, 0, none⟩ = some (.int .i64 y) ∧ Below w.heap.size w W
theorem DistEnd.put {Bd Be : Nat} {x y : Int} {w : World} (B : Nat) (hB : w.heap.size ≤ B) (W : World) (D : Nat) (h : DistEnd Bd Be x y w W) (hD : B ≤ D) (hd : W.heap[D]? = some (.deferred (some []))) : DistEnd Bd Be x y w (W.putObj D (.deferred none)) := by
 obtain ⟨h1, h2, h3⟩ := h
 exact ⟨cell_kept h1 (grownBy_putObj' W D _) (fun r e => by cases e; exact ⟨_, hd, rfl⟩), cell_kept h2 (grownBy_putObj' W D _) (fun r e => by cases e; exact ⟨_, hd, rfl⟩), h3.trans (belowK_b (w := w) (Nat.le_refl _) W D _ _ (Nat.le_trans hB hD) hd rfl rfl)⟩
theorem enters97 : ∀ args W, (callFunc 97 args).run Tryd.prog W = .ok (.enter 97 args) W := enters_of Tryd.func97 (by kernel_rfl) rfl
def ptrBlock : Value → Nat
 | .pointer (some a) => a.block
 | _ => 0
def lostBy (rows : List (List Int)) (s : Nat) : Bool := (collectOk rows ((2 ^ rows.length - 1 - s : Nat) : Int) []).isNone
def distFrom (rows : List (List Int)) (size : Nat) : Nat → Nat
 | 0 => rows.length
 | d + 1 => if (setsUpto (size : Int) (2 ^ rows.length)).any (lostBy rows) = true then size else distFrom rows (size + 1) d
def distOf (rows : List (List Int)) : Nat := distFrom rows 1 (rows.length - 1)
def code_Distance.f (k : Nat) (a0_0 : Int) (l0_1 : List (List Int)) (a0_2 : Int) : Option (Int × Int) :=
 (code_Rows.f k a0_0 l0_1 a0_2).bind fun r => if r.2 = 0 then (if okRows r.1 = true ∧ 0 < r.1.length then some ((distOf r.1 : Nat), 0) else none) else some (0, r.2)
theorem keeps_below {W W' : World} (hb : Below W.heap.size W W') : KeepsOthers W W' := ⟨hb.size, fun k o hk _ => (hb.block k (Array.getElem?_eq_some_iff.1 hk).1).trans hk⟩
theorem dist_mask {n x : Nat} (hn : n ≤ 24) (hx : x < 2 ^ n) : IntKind.i64.wrap (IntKind.i64.wrap (IntKind.i64.wrap (2 ^ n) - 1) - (x : Int)) = ((2 ^ n - 1 - x : Nat) : Int) := by
 have hpl : 2 ^ n ≤ 2 ^ 24 := Nat.pow_le_pow_right (by decide) hn
 have h2 : ((2 : Int) ^ n) = ((2 ^ n : Nat) : Int) := by simp
 rw [h2]
 generalize 2 ^ n = z at *
 simp only [IntKind.wrap_i64]
 omega
/-- What Distance has between two rounds. -/
def DistInv (Bd Be Br N size Bz : Nat) (vr : Value) (w w1 W : World) : Prop :=
 W.heap[Bd]? = some (.cells #[.int .i64 0] 3 (0, 0)) ∧ W.heap[Be]? = some (.cells #[.int .i64 0] 27 (0, 0)) ∧ W.heap[Br]? = some (.cells #[vr] 29 (0, 0)) ∧ W.heap[Br + 1]? = some (.cells #[.int .i64 (N : Int)] 3 (0, 0)) ∧
  W.heap[Bz]? = some (.cells #[.int .i64 (size : Int)] 3 (0, 0)) ∧ w1.heap.size ≤ Bz ∧ Below w1.heap.size w1 W
set_option maxHeartbeats 4000000 in
set_option maxRecDepth 100000 in
theorem code_Distance.calls (k : Nat) (a0_0 : Int) (A0_1 : Option Addr) (c0_1 : Nat) (l0_1 : List (List Int)) (a0_2 : Int) (r1 r2 : Int) (w : World) (hG : HG w) (hr0_1 : Kd.C (Kd.slice 3 (Kd.int .i64)) w A0_1 l0_1.length l0_1) (hc0_1 : l0_1.length ≤ c0_1) (h : code_Distance.f k a0_0 l0_1 a0_2 = some (r1, r2)) :
  Calls Tryd.prog 32 #[.agg #[.int .i64 a0_0, .slice A0_1 l0_1.length c0_1, .int .i64 a0_2]] w fun e w' => e = .returned (.tuple #[.int .i64 r1, .int .i64 r2]) ∧ Below w.heap.size w w' := by
 obtain ⟨⟨rows, e0⟩, hrows, h2⟩ := Option.bind_eq_some_iff.1 h
 have HRW := Aside0.mk (fun W (hb : Below w.heap.size w W) => code_Rows.calls k a0_0 A0_1 c0_1 l0_1 a0_2 rows e0 W (hG.below hb) (Kd.C_below hr0_1 hb) hc0_1 hrows)
 have hu24 := Tryd.underlying24
 clear hrows h
 refine (callsIn_wide (n := 6)).1 ?_
 refine callsIn_of_wp_marks Tryd.func32 rfl trivial ?_ rfl
 simp only [Tryd.ntmps32, List.size_toArray, List.length_cons, List.length_nil, Nat.reduceAdd, Nat.reduceSub, Array.replicate_succ, Array.replicate_zero, List.push_toArray, List.append_toArray, List.nil_append, List.cons_append]
 by_cases he0 : e0 = 0
 ·subst he0
  rw [if_pos rfl] at h2
  dsimp only at h2
  by_cases hok : okRows rows = true ∧ 0 < rows.length
  ·rw [if_pos hok] at h2
   obtain ⟨hok, hpos⟩ := hok
   obtain ⟨h3, h4, h5, h6⟩ := okRows_iff hok
   obtain ⟨rfl, rfl⟩ := Prod.mk.inj (Option.some.inj h2)
   have HG := Aside0.mk hG
   have H6 := Aside0.mk h6
   clear h2 hG hr0_1 h6 hok
   gi_wp2_with (refine ⟨trivial, ?_⟩; gi_at_call 17; refine (callsIn_wide.2 (HRW.out _ (by repeat (first | exact Below.refl _ _ | apply below_alloc)))).mono ?_; rintro e w1 ⟨v0, rfl, hS, hb1⟩; obtain ⟨Ar, cr, rfl, hcr, hCr⟩ := Kd.S_reads hS; have HCR := Aside0.mk hCr; have HB1 := Aside0.mk hb1; have HD := Aside0.mk (blk_below (blk_alloc (blk_new1 w (.cells #[.int .i64 a0_0, .slice A0_1 l0_1.length c0_1, .int .i64 a0_2] 24) (.cells #[.int .i64 0] 3)) (.cells #[.int .i64 0] 27)) hb1); have HE := Aside0.mk (blk_below (blk_new2 w (.cells #[.int .i64 a0_0, .slice A0_1 l0_1.length c0_1, .int .i64 a0_2] 24) (.cells #[.int .i64 0] 3) (.cells #[.int .i64 0] 27)) hb1); clear hS hb1 hCr)
   have HI0 : Aside0 (DistInv (w.heap.size + 1) (w.heap.size + 1 + 1) w1.heap.size rows.length 1 (w1.heap.size + 1 + 1) (.slice Ar rows.length cr) w w1 (((w1.alloc (.cells #[.slice Ar rows.length cr] 29)).alloc (.cells #[.int .i64 (rows.length : Int)] 3)).alloc (.cells #[.int .i64 1] 3))) :=
    ⟨blk_alloc (blk_alloc (blk_alloc HD.out _) _) _, blk_alloc (blk_alloc (blk_alloc HE.out _) _) _, blk_alloc (blk_alloc (blk_new _ _) _) _, blk_alloc (blk_new1 _ _ _) _, blk_new2 _ _ _ _, by omega, below_alloc (below_alloc (below_alloc (Below.refl _ _) _) _) _⟩
   refine wpIn_loop (fun a W => ∃ (size Bz : Nat) (Ds : List Nat) (u19 u20 u21 u22 u23 u24 u25 u26 u37 : Value), a = { tmps := #[.agg #[.int .i64 a0_0, .slice A0_1 l0_1.length c0_1, .int .i64 a0_2], .pointer (some ⟨w.heap.size, 0, none⟩), .pointer (some ⟨w.heap.size + 1, 0, none⟩), .pointer (some ⟨w.heap.size + 1 + 1, 0, none⟩), .pointer (some ⟨w1.heap.size, 0, none⟩), .int .i64 0, .pointer (some ⟨w1.heap.size + 1, 0, none⟩), .pointer (some ⟨Bz, 0, none⟩), undef, .tuple #[.slice Ar rows.length cr, .int .i64 0], .agg #[.int .i64 a0_0, .slice A0_1 l0_1.length c0_1, .int .i64 a0_2], .tuple #[.slice Ar rows.length cr, .int .i64 0], .slice Ar rows.length cr, .int .i64 0, .int .i64 0, .bool false, undef, .slice Ar rows.length cr, .int .i64 (rows.length : Int), u19, u20, u21, u22, u23, u24, u25, u26, undef, undef, undef, undef, undef, undef, undef, undef, undef, undef, u37, undef], defers := Ds.map markOf } ∧ size ≤ rows.length ∧ 1 ≤ size ∧ Aside0 (distOf rows = distFrom rows size (rows.length - size)) ∧ Aside0 (DistInv (w.heap.size + 1) (w.heap.size + 1 + 1) w1.heap.size rows.length size Bz (.slice Ar rows.length cr) w w1 W) ∧ Aside0 (Marks w1.heap.size Ds W))
    (fun a W => rows.length - (intOf ((W.cell? ⟨ptrBlock (a.tmps.getD 7 undef), 0, none⟩).getD undef)).toNat)
    ⟨1, _, [], _, _, _, _, _, _, _, _, _, rfl, hpos, Nat.le_refl _, ⟨rfl⟩, HI0, ⟨⟨List.nodup_nil, fun D h => by cases h⟩⟩⟩ ?_
   rintro a wr ⟨size, Bz, Ds, u19, u20, u21, u22, u23, u24, u25, u26, u37, rfl, hs1, hs2, HDF, HI, HM⟩
   ·clear HI0
    obtain ⟨hD, hE, hR, hNn, hZ, hbz, hB⟩ := HI.out
    have hcr0 := blk_cell hR 0
    have hcn0 := blk_cell hNn 0
    have hcz0 := blk_cell hZ 0
    by_cases hlt : size < rows.length
    ·have HSE := Aside0.mk (sets_calls rows.length (size : Int) wr)
     clear hD hE hR hNn hZ hB
     gi_wp2_with (first | (refine ⟨trivial, ?_⟩; gi_at_call 72; refine (callsIn_wide.2 HSE.out).mono ?_; rintro e w2 ⟨rfl, hw2⟩) | (gi_at_call 72; refine (callsIn_wide.2 HSE.out).mono ?_; rintro e w2 ⟨rfl, hw2⟩))
     have HB1' := Aside0.mk (below_step (by repeat (first | exact Below.refl _ _ | apply below_alloc)) HB1.out : Below w.heap.size w w1)
     have hbn := blk_alloc (blk_new wr (.cells #[.int .i64 (rows.length : Int)] 3)) (.cells #[.int .i64 (size : Int)] 3)
     have hbs := blk_new1 wr (.cells #[.int .i64 (rows.length : Int)] 3) (.cells #[.int .i64 (size : Int)] 3)
     have hb12 := below_alloc (below_alloc (Below.refl wr.heap.size wr) (.cells #[.int .i64 (rows.length : Int)] 3)) (.cells #[.int .i64 (size : Int)] 3)
     obtain ⟨W2, hW2⟩ : ∃ W2, (wr.alloc (.cells #[.int .i64 (rows.length : Int)] 3)).alloc (.cells #[.int .i64 (size : Int)] 3) = W2 := ⟨_, rfl⟩
     rw [hW2] at hbn hbs hb12 ⊢
     obtain ⟨hD, hE, hR, hNn, hZ, hbz, hB⟩ := HI.out
     have HB2 := Aside0.mk (below_step hB hb12)
     have HM2 := Aside0.mk (HM.out.keep hb12 HM.out.lt)
     have HD2 := Aside0.mk (blk_below hD hb12)
     have HE2 := Aside0.mk (blk_below hE hb12)
     have HR2 := Aside0.mk (blk_below hR hb12)
     have HN2 := Aside0.mk (blk_below hNn hb12)
     have HZ2 := Aside0.mk (blk_below hZ hb12)
     have hG2 : XB.HG W2 := HG.out.below (below_step HB1'.out HB2.out)
     have HSQ := Aside0.mk (sets1_stops 5 rows.length (size : Int) h3 (by decide) wr.heap.size (wr.heap.size + 1) W2 hG2 (blk_cell hbn 0) (blk_cell hbs 0))
     have HG2 := Aside0.mk hG2
     have HBN := Aside0.mk hbn
     have HBS := Aside0.mk hbs
     clear hD hE hR hNn hZ hB hbn hbs hb12 hG2 hcr0 hcn0 hcz0 hW2
     refine wpIn_rangeFunc_ownF (F := Fence.wide) (n := 6) rfl (by decide) (gf := 97) (lb := #[.pointer (some ⟨wr.heap.size, 0, none⟩), .pointer (some ⟨wr.heap.size + 1, 0, none⟩)]) rfl trivial enters97 HSQ.out belowK_t (belowK_b (Nat.le_refl _)) (Below.refl _ _) (fun _ => rfl)
      (fun pre W => (∀ x, x ∈ pre → lostBy rows x.1 = false) ∧ Below W2.heap.size W2 W)
      (fun c pre W => c = .ret ∧ (∃ x, x ∈ pre ∧ lostBy rows x.1 = true) ∧ DistEnd (w.heap.size + 1) (w.heap.size + 1 + 1) (size : Int) 0 w W ∧ Marks w1.heap.size Ds W)
      (fun s A B row hs hg hr => ⟨hs.1, hs.2.grown hg hs.2.size (fun k e => (hr k e).1)⟩)
      ?hIx ⟨fun x hx => by (cases hx), Below.refl _ _⟩ (fun x => { tmps := #[.agg #[.int .i64 a0_0, .slice A0_1 l0_1.length c0_1, .int .i64 a0_2], .pointer (some ⟨w.heap.size, 0, none⟩), .pointer (some ⟨w.heap.size + 1, 0, none⟩), .pointer (some ⟨w.heap.size + 1 + 1, 0, none⟩), .pointer (some ⟨w1.heap.size, 0, none⟩), .int .i64 0, .pointer (some ⟨w1.heap.size + 1, 0, none⟩), .pointer (some ⟨Bz, 0, none⟩), .int .i64 (x.1 : Int), .tuple #[.slice Ar rows.length cr, .int .i64 0], .agg #[.int .i64 a0_0, .slice A0_1 l0_1.length c0_1, .int .i64 a0_2], .tuple #[.slice Ar rows.length cr, .int .i64 0], .slice Ar rows.length cr, .int .i64 0, .int .i64 0, .bool false, undef, .slice Ar rows.length cr, .int .i64 (rows.length : Int), .int .i64 (size : Int), .int .i64 (rows.length : Int), .bool true, u22, u23, .int .i64 (rows.length : Int), .int .i64 (size : Int), .func (.func 97) #[] #[.pointer (some ⟨wr.heap.size, 0, none⟩), .pointer (some ⟨wr.heap.size + 1, 0, none⟩)], .int .i64 (x.1 : Int), undef, undef, undef, undef, undef, undef, undef, undef, undef, u37, undef], defers := [] }) ?assign ?body ?done ?stop
     case hIx =>
      rintro c s A B row ⟨h1, h2, ⟨h3, h4, h5⟩, h6⟩ hg hr
      have hle : w.heap.size ≤ W2.heap.size := (below_step HB1'.out HB2.out).size
      refine ⟨h1, h2, ⟨cell_kept h3 hg (fun r e => (hr r e).2), cell_kept h4 hg (fun r e => (hr r e).2), h5.grown hg h5.size (fun k e => Nat.le_trans hle (hr k e).1)⟩, h6.1, fun D hd => ⟨(h6.2 D hd).1, (hg.block D (h6.lt D hd) (fun e => ?_)).trans (h6.2 D hd).2⟩⟩
      have := HM2.out.lt D hd
      have := (hr D e.symm).1
      omega
     case assign =>
      intro l x W K hK
      gi_wp2
      exact hK
     case body =>
      rintro l pre x W ⟨hp, hBW⟩ hlen
      have hmx : Tryd.prog.follows .mixedOrders = true := by kernel_rfl
      have hcr0 := blk_cell (blk_below HR2.out hBW) 0
      have hcn0 := blk_cell (blk_below HN2.out hBW) 0
      have hcz0 := blk_cell (blk_below HZ2.out hBW) 0
      have hBW0 := Aside0.mk (below_step (below_step HB1'.out HB2.out) hBW : Below w.heap.size w W)
      have hBW1 := Aside0.mk (below_step HB2.out hBW : Below w1.heap.size w1 W)
      have HCO := Aside0.mk (show ∀ (mask : Int) W', Below W.heap.size W W' → Calls Tryd.prog 67 #[.slice Ar rows.length cr, .int .i64 mask, .slice none 0 0] W' fun e w' => Below W'.heap.size W' w' ∧ ∃ b : Bool, (b = (collectOk rows mask []).isNone) ∧ ∃ pv, e = .returned (.pointer pv) ∧ (pv.isNone = b) from by
       intro mask W' hb
       refine (code_collect.calls 0 W' Ar cr rows mask none 0 [] (HG.out.below (below_step hBW0.out hb)) (Kd.C_below HCR.out (below_step hBW1.out hb)) hcr h3 h4 h5 (by decide) ⟨rfl, by decide, fun h_ => absurd h_ (by decide)⟩ (Nat.le_refl _) (.inl ⟨rfl, rfl, rfl⟩) (fun k hk => ⟨(H6.out k hk).1, (H6.out k hk).2, by simp [rdOf]⟩)).mono ?_
       rintro e w' ⟨hb', ⟨h1, rfl⟩ | ⟨gs, st, h1, rfl, _⟩⟩
       ·exact ⟨hb', true, by rw [h1]; rfl, none, rfl, rfl⟩
       ·exact ⟨hb', false, by rw [h1]; rfl, some ⟨gs, 0, none⟩, rfl, rfl⟩)
      have hup := Tryd.underlying96
      gi_wp2
      first
      | (gi_region_with_o (first | (refine ⟨trivial, ?_⟩; gi_at_call 67; refine (CallsIn.inRound l (callsIn_wide.2 (HCO.out _ _ (by repeat (first | exact Below.refl _ _ | apply pw_below_drewN | apply below_drew))))).mono ?_; rintro e w5 ⟨hb5, bb, hbb, pv, rfl, hpv⟩; have HB5 := Aside0.mk hb5; have HBB := Aside0.mk hbb; clear hb5 hbb) | (gi_at_call 67; refine (CallsIn.inRound l (callsIn_wide.2 (HCO.out _ _ (by repeat (first | exact Below.refl _ _ | apply pw_below_drewN | apply below_drew))))).mono ?_; rintro e w5 ⟨hb5, bb, hbb, pv, rfl, hpv⟩; have HB5 := Aside0.mk hb5; have HBB := Aside0.mk hbb; clear hb5 hbb)))
      | (gi_region_with_o? (first | (refine ⟨trivial, ?_⟩; gi_at_call 67; refine (CallsIn.inRound l (callsIn_wide.2 (HCO.out _ _ (by repeat (first | exact Below.refl _ _ | apply pw_below_drewN | apply below_drew))))).mono ?_; rintro e w5 ⟨hb5, bb, hbb, pv, rfl, hpv⟩; have HB5 := Aside0.mk hb5; have HBB := Aside0.mk hbb; clear hb5 hbb) | (gi_at_call 67; refine (CallsIn.inRound l (callsIn_wide.2 (HCO.out _ _ (by repeat (first | exact Below.refl _ _ | apply pw_below_drewN | apply below_drew))))).mono ?_; rintro e w5 ⟨hb5, bb, hbb, pv, rfl, hpv⟩; have HB5 := Aside0.mk hb5; have HBB := Aside0.mk hbb; clear hb5 hbb)))
      all_goals
       have hb5 : Below W.heap.size W w5 := below_step (by repeat (first | exact Below.refl _ _ | apply pw_below_drewN | apply below_drew)) HB5.out
       have hbb := HBB.out
       rw [dist_mask h3 x.2] at hbb
       have HLB := Aside0.mk (show bb = lostBy rows x.1 from hbb)
       have HB5W := Aside0.mk hb5
       have HPV := Aside0.mk hpv
       have hd5 := blk_below (blk_below HD2.out hBW) hb5
       have he5 := blk_below (blk_below HE2.out hBW) hb5
       have hz5 := blk_below (blk_below HZ2.out hBW) hb5
       have hd50 := blk_cell hd5 0
       have hd51 := blk_frozen hd5 0
       have he50 := blk_cell he5 0
       have he51 := blk_frozen he5 0
       have hz50 := blk_cell hz5 0
       have HD5 := Aside0.mk hd5
       have HE5 := Aside0.mk he5
       clear HB5 HBB hbb hb5 HCO hpv hcr0 hcn0 hcz0 hd5 he5 hz5 hup
       cases bb with
       | false =>
        clear hd50 hd51 he50 he51 hz50
        gi_wp2
        exact ⟨keeps_below HB5W.out, HB5W.out.mono hBW.size, fun y hy => by
         rcases List.mem_append.1 hy with hy | hy
         ·exact hp y hy
         ·obtain rfl := List.mem_singleton.1 hy
          exact HLB.out.symm, below_step hBW HB5W.out⟩
       | true =>
        gi_wp2
        have hl1 := blk_lt HD.out
        have hl2 := blk_lt HE.out
        have hle := HB1'.out.size
        have hr1 := blk_cell (blk_keep_ (g := w.heap.size + 1) (blk_set HD5.out 0 (.int .i64 (size : Int))) (w.heap.size + 1 + 1) (by omega) 0 (.int .i64 0)) 0
        have hr2 := blk_cell (blk_set (blk_keep_ (g := w.heap.size + 1 + 1) HE5.out (w.heap.size + 1) (by omega) 0 (.int .i64 (size : Int))) 0 (.int .i64 0)) 0
        have hmk : Marks w1.heap.size Ds w5 := (HM2.out.keep hBW HM2.out.lt).keep HB5W.out (fun D hd => Nat.lt_of_lt_of_le (HM2.out.lt D hd) hBW.size)
        exact ⟨(keeps_below HB5W.out).trans ((KeepsOthers.setCell _ _ _).trans (KeepsOthers.setCell _ _ _)), rfl, ⟨x, by simp, HLB.out.symm⟩, ⟨hr1, hr2, below_set (below_set (below_step hBW0.out HB5W.out) (by omega)) (by omega)⟩, (hmk.set _ hl1 0 _).set _ hl2 0 _⟩
     case done =>
      rintro D xs W hDl hS ⟨hall, hBW⟩ hK
      have hz := blk_below HZ2.out hBW
      have hz0 := blk_cell hz 0
      have hz1 := blk_frozen hz 0
      gi_wp2
      have hw12 : w1.heap.size ≤ W2.heap.size := HB2.out.size
      have hnot : D ∉ Ds := fun h => by have := HM2.out.lt D h; omega
      have hzr := blk_cell HI.out.2.2.2.2.1 0
      have hcast : ((size : Int) + 1) = ((size + 1 : Nat) : Int) := by simp
      have hzn := blk_cell (blk_new W (.cells #[.int .i64 ((size : Int) + 1)] 3)) 0
      have hdo : distOf rows = distFrom rows (size + 1) (rows.length - (size + 1)) := by
       have hd := HDF.out
       obtain ⟨d, hd2⟩ : ∃ d, rows.length - size = d + 1 := ⟨rows.length - size - 1, by omega⟩
       rw [hd2] at hd
       unfold distFrom at hd
       rw [if_neg] at hd
       ·rw [hd]; congr 1; omega
       ·rw [List.any_eq_true]
        rintro ⟨y, hy, hly⟩
        rw [← hS] at hy
        obtain ⟨x, hx, rfl⟩ := List.mem_map.1 hy
        rw [hall x hx] at hly
        cases hly
      refine ⟨⟨size + 1, W.heap.size, D :: Ds, _, _, _, _, _, _, _, _, _, rfl, by omega, by omega, ⟨hdo⟩, ⟨blk_alloc (blk_below HD2.out hBW) _, blk_alloc (blk_below HE2.out hBW) _, blk_alloc (blk_below HR2.out hBW) _, blk_alloc (blk_below HN2.out hBW) _, by rw [hcast]; exact blk_new _ _, by have := hBW.size; omega, below_alloc (below_step HB2.out hBW) _⟩, ⟨List.nodup_cons.2 ⟨hnot, HM2.out.1⟩, fun D' h' => ?_⟩⟩, ?_⟩
      ·rcases List.mem_cons.1 h' with rfl | h'
       ·exact ⟨by omega, blk_alloc hK _⟩
       ·exact ⟨(HM2.out.2 D' h').1, blk_alloc (blk_below (HM2.out.2 D' h').2 hBW) _⟩
      ·show rows.length - (intOf (((W.alloc (.cells #[.int .i64 ((size : Int) + 1)] 3)).cell? ⟨W.heap.size, 0, none⟩).getD undef)).toNat < rows.length - (intOf ((wr.cell? ⟨Bz, 0, none⟩).getD undef)).toNat
       rw [hzr, hzn]
       simp [intOf]
       omega
     case stop =>
      rintro D c pre W hDl hSp ⟨rfl, ⟨x, hx, hlx⟩, hend, hmk⟩ hK
      have hdo : distOf rows = size := by
       obtain ⟨kk, hkk, hpre⟩ := hSp
       have hd := HDF.out
       obtain ⟨d, hd2⟩ : ∃ d, rows.length - size = d + 1 := ⟨rows.length - size - 1, by omega⟩
       rw [hd2] at hd
       unfold distFrom at hd
       rw [if_pos] at hd
       ·exact hd
       ·rw [List.any_eq_true]
        refine ⟨x.1, ?_, hlx⟩
        have hm : x.1 ∈ setsUpto (size : Int) kk := by rw [← hpre]; exact List.mem_map_of_mem hx
        rw [setsUpto, List.mem_filter, List.mem_range] at hm ⊢
        exact ⟨by omega, hm.2⟩
      have HDO := Aside0.mk hdo
      gi_wp2
      have hw12 : w1.heap.size ≤ W2.heap.size := HB2.out.size
      have hnot : D ∉ Ds := fun h => by have := HM2.out.lt D h; omega
      refine leaves_marks w1.heap.size (DistEnd (w.heap.size + 1) (w.heap.size + 1 + 1) (size : Int) 0 w) (fun W D h h1 h2 => h.put w1.heap.size HB1'.out.size W D h1 h2) (fun W h => ?_) (D :: Ds) _ ⟨List.nodup_cons.2 ⟨hnot, hmk.1⟩, fun D' h' => ?_⟩ hend
      ·obtain ⟨c1, c2, c3⟩ := h
       exact ⟨.tuple #[.int .i64 (size : Int), .int .i64 0], by simp [results, Tryd.f32, go_sem, c1, c2], by rw [HDO.out], c3⟩
      ·rcases List.mem_cons.1 h' with rfl | h'
       ·exact ⟨by omega, hK⟩
       ·exact hmk.2 D' h'
    ·obtain ⟨N, hN⟩ : ∃ N : Nat, N = rows.length := ⟨_, rfl⟩
     have hsz : size = N := by omega
     have hdo : distOf rows = N := by
      have := HDF.out
      rw [show rows.length - size = 0 by omega] at this
      exact this.trans hN.symm
     have HDO := Aside0.mk hdo
     rw [← hN] at hcn0
     subst hsz
     have hd0 := blk_cell hD 0
     have hd1 := blk_frozen hD 0
     have he0 := blk_cell hE 0
     have he1 := blk_frozen hE 0
     have HDk := Aside0.mk hD
     have HEk := Aside0.mk hE
     have HBk := Aside0.mk hB
     clear HDF hD hE hR hNn hZ hB HI hN hdo
     gi_wp2
     have hr1 := blk_cell (blk_keep_ (g := w.heap.size + 1) (blk_set HDk.out 0 (.int .i64 (size : Int))) (w.heap.size + 1 + 1) (by omega) 0 (.int .i64 0)) 0
     have hr2 := blk_cell (blk_set (blk_keep_ (g := w.heap.size + 1 + 1) HEk.out (w.heap.size + 1) (by omega) 0 (.int .i64 (size : Int))) 0 (.int .i64 0)) 0
     have hl1 := blk_lt HD.out
     have hl2 := blk_lt HE.out
     refine leaves_marks w1.heap.size (DistEnd (w.heap.size + 1) (w.heap.size + 1 + 1) (size : Int) 0 w) (fun W D h h1 h2 => h.put w1.heap.size (by omega) W D h1 h2) (fun W h => ?_) Ds _ ((HM.out.set _ hl1 0 _).set _ hl2 0 _) ⟨hr1, hr2, below_set (below_set (below_step (below_step (by repeat (first | exact Below.refl _ _ | apply below_alloc)) HB1.out) HBk.out) (by omega)) (by omega)⟩
     obtain ⟨c1, c2, c3⟩ := h
     exact ⟨.tuple #[.int .i64 (size : Int), .int .i64 0], by simp [results, Tryd.f32, go_sem, c1, c2], by rw [HDO.out], c3⟩
  ·rw [if_neg hok] at h2
   cases h2
 ·rw [if_neg he0] at h2
  obtain ⟨rfl, rfl⟩ := Prod.mk.inj (Option.some.inj h2)
  have he1 : (e0 == 0) = false := beq_eq_false_iff_ne.2 he0
  clear h2 hG hr0_1
  gi_wp2_with (first | (gi_at_call 17; refine (callsIn_wide.2 (HRW.out _ (by repeat (first | exact Below.refl _ _ | apply below_alloc)))).mono ?_; rintro e w1 ⟨v0, rfl, hS, hb1⟩; obtain ⟨Ar, cr, rfl⟩ := Kd.S_slice hS; have HB1 := Aside0.mk hb1; have HD := Aside0.mk (blk_below (blk_alloc (blk_new1 w (.cells #[.int .i64 a0_0, .slice A0_1 l0_1.length c0_1, .int .i64 a0_2] 24) (.cells #[.int .i64 0] 3)) (.cells #[.int .i64 0] 27)) hb1); have HE := Aside0.mk (blk_below (blk_new2 w (.cells #[.int .i64 a0_0, .slice A0_1 l0_1.length c0_1, .int .i64 a0_2] 24) (.cells #[.int .i64 0] 3) (.cells #[.int .i64 0] 27)) hb1); have hd0 := blk_cell (blk_alloc HD.out (.cells #[.slice Ar rows.length cr] 29)) 0; have hd1 := blk_frozen (blk_alloc HD.out (.cells #[.slice Ar rows.length cr] 29)) 0; have hee0 := blk_cell (blk_alloc HE.out (.cells #[.slice Ar rows.length cr] 29)) 0; have hee1 := blk_frozen (blk_alloc HE.out (.cells #[.slice Ar rows.length cr] 29)) 0; clear hS hb1) | (refine ⟨trivial, ?_⟩; gi_at_call 17; refine (callsIn_wide.2 (HRW.out _ (by repeat (first | exact Below.refl _ _ | apply below_alloc)))).mono ?_; rintro e w1 ⟨v0, rfl, hS, hb1⟩; obtain ⟨Ar, cr, rfl⟩ := Kd.S_slice hS; have HB1 := Aside0.mk hb1; have HD := Aside0.mk (blk_below (blk_alloc (blk_new1 w (.cells #[.int .i64 a0_0, .slice A0_1 l0_1.length c0_1, .int .i64 a0_2] 24) (.cells #[.int .i64 0] 3)) (.cells #[.int .i64 0] 27)) hb1); have HE := Aside0.mk (blk_below (blk_new2 w (.cells #[.int .i64 a0_0, .slice A0_1 l0_1.length c0_1, .int .i64 a0_2] 24) (.cells #[.int .i64 0] 3) (.cells #[.int .i64 0] 27)) hb1); have hd0 := blk_cell (blk_alloc HD.out (.cells #[.slice Ar rows.length cr] 29)) 0; have hd1 := blk_frozen (blk_alloc HD.out (.cells #[.slice Ar rows.length cr] 29)) 0; have hee0 := blk_cell (blk_alloc HE.out (.cells #[.slice Ar rows.length cr] 29)) 0; have hee1 := blk_frozen (blk_alloc HE.out (.cells #[.slice Ar rows.length cr] 29)) 0; clear hS hb1))
  have hr1 := blk_cell (blk_keep_ (g := w.heap.size + 1) (blk_set (blk_alloc HD.out (.cells #[.slice Ar rows.length cr] 29)) 0 (.int .i64 0)) (w.heap.size + 1 + 1) (by omega) 0 (.int .i64 e0)) 0
  have hr2 := blk_cell (blk_set (blk_keep_ (g := w.heap.size + 1 + 1) (blk_alloc HE.out (.cells #[.slice Ar rows.length cr] 29)) (w.heap.size + 1) (by omega) 0 (.int .i64 0)) 0 (.int .i64 e0)) 0
  refine ⟨_, by simp [results, Tryd.f32, go_sem, hr1, hr2], rfl, ?_⟩
  exact below_set (below_set (below_alloc (below_step (by repeat (first | exact Below.refl _ _ | apply below_alloc)) HB1.out) _) (by omega)) (by omega)
end


/-! ### quietuslaw07_sanity: function 15 -/
/-! a code in its variable -/
def CodeAt (g : Nat) (A : Option Addr) (c : Nat) (d : Int) (l : List (List Int)) (m : Int) (W : World) : Prop :=
 W.heap[g]? = some (.cells #[.int .i64 d, .slice A l.length c, .int .i64 m] 24 (0, 0)) ∧ l.length ≤ c ∧ Kd.C (Kd.slice 3 (Kd.int .i64)) W A l.length l ∧ HG W
theorem CodeAt.below {g : Nat} {A : Option Addr} {c : Nat} {d : Int} {l : List (List Int)} {m : Int} {W W' : World} (h : CodeAt g A c d l m W) (hb : Below W.heap.size W W') : CodeAt g A c d l m W' :=
 ⟨blk_below h.1 hb, h.2.1, Kd.C_below h.2.2.1 hb, h.2.2.2.below hb⟩
section
variable {g : Nat} {A : Option Addr} {c : Nat} {d : Int} {l : List (List Int)} {m : Int} {W : World}
theorem CodeAt.hg (h : CodeAt g A c d l m W) : HG W := h.2.2.2
theorem CodeAt.c0 (h : CodeAt g A c d l m W) : W.cell? ⟨g, 0, none⟩ = some (.int .i64 d) := blk_cell h.1 0
theorem CodeAt.c1 (h : CodeAt g A c d l m W) : W.cell? ⟨g, 1, none⟩ = some (.slice A l.length c) := blk_cell h.1 1
theorem CodeAt.c2 (h : CodeAt g A c d l m W) : W.cell? ⟨g, 2, none⟩ = some (.int .i64 m) := blk_cell h.1 2
theorem CodeAt.rows {k : Nat} {r1 : List (List Int)} {r2 : Int} (h : CodeAt g A c d l m W) (hr : code_Rows.f k d l m = some (r1, r2)) :
  Calls Tryd.prog 17 #[.agg #[.int .i64 d, .slice A l.length c, .int .i64 m]] W fun e w' => ∃ v0_ : Value, e = .returned (.tuple #[v0_, .int .i64 r2]) ∧ Kd.S (Kd.slice 5 (Kd.int .u8)) 57 w' W.heap.size (fun _ => True) v0_ r1 ∧ Below W.heap.size W w' :=
 code_Rows.calls k d A c l m r1 r2 W h.2.2.2 h.2.2.1 h.2.1 hr
theorem CodeAt.encode {k : Nat} {s : ByteArray} {r1 : List ByteArray} {r2 : Int} (h : CodeAt g A c d l m W) (hr : code_Encode.f k d l m s = some (r1, r2)) :
  Calls Tryd.prog 18 #[.agg #[.int .i64 d, .slice A l.length c, .int .i64 m], .string s] W fun e w' => ∃ v0_ : Value, e = .returned (.tuple #[v0_, .int .i64 r2]) ∧ Kd.R Kd.string 9 w' W.heap.size (fun _ => True) v0_ r1 ∧ Below W.heap.size W w' :=
 code_Encode.calls k d A c l m s r1 r2 W h.2.2.2 h.2.2.1 h.2.1 hr
theorem CodeAt.check {k : Nat} {r : Int} (h : CodeAt g A c d l m W) (hr : code_Check.f k d l m = some r) :
  Calls Tryd.prog 20 #[.agg #[.int .i64 d, .slice A l.length c, .int .i64 m]] W fun e w' => e = .returned (.int .i64 r) ∧ Below W.heap.size W w' :=
 code_Check.calls k d A c l m r W h.2.2.2 h.2.2.1 h.2.1 hr
theorem CodeAt.pieces {k : Nat} {r : Int} (h : CodeAt g A c d l m W) (hr : code_Pieces.f k d l m = some r) :
  Calls Tryd.prog 21 #[.agg #[.int .i64 d, .slice A l.length c, .int .i64 m]] W fun e w' => e = .returned (.int .i64 r) ∧ Below W.heap.size W w' :=
 code_Pieces.calls k d A c l m r W h.2.2.2 h.2.2.1 h.2.1 hr
theorem CodeAt.size {k : Nat} {n r : Int} (h : CodeAt g A c d l m W) (hr : code_Size.f k d l m n = some r) :
  Calls Tryd.prog 23 #[.agg #[.int .i64 d, .slice A l.length c, .int .i64 m], .int .i64 n] W fun e w' => e = .returned (.int .i64 r) ∧ Below W.heap.size W w' :=
 code_Size.calls k d A c l m n r W h.2.2.2 h.2.2.1 h.2.1 hr
theorem CodeAt.recoverable {k : Nat} {n : Int} {r : Bool} (h : CodeAt g A c d l m W) (hr : code_Recoverable.f k d l m n = some r) :
  Calls Tryd.prog 30 #[.agg #[.int .i64 d, .slice A l.length c, .int .i64 m], .int .i64 n] W fun e w' => e = .returned (.bool r) ∧ Below W.heap.size W w' :=
 code_Recoverable.calls k d A c l m n r W h.2.2.2 h.2.2.1 h.2.1 hr
theorem CodeAt.distance {k : Nat} {r1 r2 : Int} (h : CodeAt g A c d l m W) (hr : code_Distance.f k d l m = some (r1, r2)) :
  Calls Tryd.prog 32 #[.agg #[.int .i64 d, .slice A l.length c, .int .i64 m]] W fun e w' => e = .returned (.tuple #[.int .i64 r1, .int .i64 r2]) ∧ Below W.heap.size W w' :=
 code_Distance.calls k d A c l m r1 r2 W h.2.2.2 h.2.2.1 h.2.1 hr
theorem CodeAt.decode {k : Nat} {n mask : Int} {Ap : Option Addr} {cp np : Nat} {p : List ByteArray} {r1 : ByteArray} {r2 : Int} (h : CodeAt g A c d l m W) (hn : p.length = np) (hp : Kd.C Kd.string W Ap np p) (hcp : np ≤ cp) (hr : code_Decode.f k d l m n mask p = some (r1, r2)) :
  Calls Tryd.prog 28 #[.agg #[.int .i64 d, .slice A l.length c, .int .i64 m], .int .i64 n, .int .i64 mask, .slice Ap np cp] W fun e w' => e = .returned (.tuple #[.string r1, .int .i64 r2]) ∧ Below W.heap.size W w' := by
 subst hn
 exact code_Decode.calls k d A c l m n mask Ap cp p r1 r2 W h.2.2.2 h.2.2.1 h.2.1 hp hcp hr
end
/-! the document's example -/
def exL : List (List Int) := [[0, 1], [2, 3]]
def exRows : List (List Int) := [[1, 0, 0, 0], [0, 1, 0, 0], [0, 0, 1, 0], [0, 0, 0, 1], [1, 1, 0, 0], [0, 0, 1, 1], [1, 2, 4, 8]]
def exParts : List ByteArray := [⟨#[1, 2]⟩, ⟨#[3, 4]⟩, ⟨#[5, 6]⟩, ⟨#[7, 0]⟩, ⟨#[2, 6]⟩, ⟨#[2, 6]⟩, ⟨#[43, 18]⟩]
def exBad : List ByteArray := [⟨#[1, 2]⟩, ⟨#[3, 4]⟩, ⟨#[5, 6]⟩, ⟨#[7, 0]⟩, ⟨#[2, 6]⟩, ⟨#[2, 7]⟩, ⟨#[43, 18]⟩]
theorem ex_check : code_Check.f 40 4 exL 1 = some 0 := by decide +kernel
theorem ex_rows : code_Rows.f 40 4 exL 1 = some (exRows, 0) := by decide +kernel
theorem ex_encode : code_Encode.f 40 4 exL 1 (⟨#[1, 2, 3, 4, 5, 6, 7]⟩ : ByteArray) = some (exParts, 0) := by decide +kernel
theorem ex_pieces : code_Pieces.f 40 4 exL 1 = some 7 := by decide +kernel
theorem ex_size : code_Size.f 40 4 exL 1 7 = some 2 := by decide +kernel
theorem ex_can1 : code_Recoverable.f 40 4 exL 1 124 = some true := by decide +kernel
theorem ex_can2 : code_Recoverable.f 40 4 exL 1 120 = some true := by decide +kernel
theorem ex_can3 : code_Recoverable.f 40 4 exL 1 60 = some false := by decide +kernel
theorem ex_dist : code_Distance.f 40 4 exL 1 = some (3, 0) := by decide +kernel
theorem ex_dec1 : code_Decode.f 40 4 exL 1 7 30 exParts = some (⟨#[1, 2, 3, 4, 5, 6, 7]⟩, 0) := by decide +kernel
theorem ex_dec2 : code_Decode.f 40 4 exL 1 7 60 exParts = some (⟨#[]⟩, 17) := by decide +kernel
theorem ex_dec3 : code_Decode.f 40 4 exL 1 7 127 exBad = some (⟨#[]⟩, 14) := by decide +kernel
theorem ex_row {w : World} {gr : Nat} (h : Kd.C (Kd.slice 5 (Kd.int .u8)) w (some ⟨gr, 0, none⟩) 7 exRows) (i : Nat) (hi : i < 7) (x : List Int) (s : ByteArray) (hx : rd_L4 exRows (i : Int) = x) (n : Nat) (hn : x.length = n) (hs : strOfNums x = s) :
  ∃ A0 c0, w.cell? ⟨gr, i, none⟩ = some (.slice A0 n c0) ∧ (convert 57 9 (.slice A0 n c0)).run Tryd.prog w = .ok (.string s) w := by
 obtain ⟨ad', A0, c0, e, h1, _, h2⟩ := at_L4 h (i : Int) (by omega) (by omega)
 obtain rfl : ⟨gr, 0, none⟩ = ad' := by injection e
 rw [hx, hn, Int.toNat_natCast] at h1
 rw [show (⟨gr, 0, none⟩ : Addr).add i = ⟨gr, i, none⟩ from add_plain _ _] at h1
 rw [hx, hn] at h2
 rw [← hs]
 exact ⟨A0, c0, h1, Kd.C_string Tryd.underlying57 Tryd.underlying5 Tryd.underlying9 h2⟩
theorem ex_part {w : World} {gp : Nat} {p : List ByteArray} (h : Kd.C Kd.string w (some ⟨gp, 0, none⟩) 7 p) (i : Nat) (hi : i < 7) (s : ByteArray) (hs : rdOf ByteArray.empty p (i : Int) = s) : w.cell? ⟨gp, i, none⟩ = some (.string s) := by
 obtain ⟨ad', e, h1⟩ := at_string_nat h i hi
 obtain rfl : ⟨gp, 0, none⟩ = ad' := by injection e
 rw [show (⟨gp, 0, none⟩ : Addr).add i = ⟨gp, i, none⟩ from add_plain _ _] at h1
 rw [h1, hs]
set_option maxHeartbeats 4000000 in
set_option maxRecDepth 100000 in
theorem quietuslaw07_sanity.yes (w : World) (hG : HG w) :
  Calls Tryd.prog 15 #[] w fun e w' => e = .returned (.bool true) ∧ Below w.heap.size w w' := by
 have HGw := Aside0.mk hG
 have hu24 := Tryd.underlying24
 have hex : quietuslaw07_example.f = some (4, exL, 1) := rfl
 have HEX := Aside0.mk hex
 have HRows := Aside0.mk ex_rows
 have HEnc := Aside0.mk ex_encode
 have HChk := Aside0.mk ex_check
 have HPie := Aside0.mk ex_pieces
 have HSiz := Aside0.mk ex_size
 have HR1 := Aside0.mk ex_can1
 have HR2 := Aside0.mk ex_can2
 have HR3 := Aside0.mk ex_can3
 have HDi := Aside0.mk ex_dist
 have HD1 := Aside0.mk ex_dec1
 have HD2 := Aside0.mk ex_dec2
 have HD3 := Aside0.mk ex_dec3
 generalize exL = L at HEX HRows HEnc HChk HPie HSiz HR1 HR2 HR3 HDi HD1 HD2 HD3
 clear hG hex
 go_enter Tryd.func15, Tryd.ntmps15
 go_upto_region 4 with (first
  | (go_at_call 56; (with_reducible refine (quietuslaw07_example.calls 4 L 1 _ HGw.out HEX.out).mono ?_); rintro e w5 ⟨v0, rfl, hN, hb5⟩; obtain ⟨A, c, rfl, hc, hC⟩ := Kd.N_reads hN; have HK0 := Aside0.mk (show CodeAt w5.heap.size A c 4 L 1 (w5.alloc (.cells #[.int .i64 4, .slice A L.length c, .int .i64 1] 24)) from ⟨blk_new _ _, hc, Kd.C_alloc hC _, (HGw.out.below hb5).alloc _⟩); have HB0 := Aside0.mk (below_alloc hb5 (.cells #[.int .i64 4, .slice A L.length c, .int .i64 1] 24)); clear hN hC hc hb5)
  | (go_at_call 17; (with_reducible refine (HK0.out.rows HRows.out).mono ?_); rintro e w6 ⟨v1, rfl, hS, hb⟩; obtain ⟨gr, cr, rfl, _, _, _⟩ := Kd.S_form hS (by decide); have hCr := (Kd.S_reads' hS).2.2; have HK1 := Aside0.mk (HK0.out.below hb); have HB1 := Aside0.mk (below_step HB0.out hb); have HCR1 := Aside0.mk (show Kd.C (Kd.slice 5 (Kd.int .u8)) w6 (some ⟨gr, 0, none⟩) 7 exRows from hCr); rw [show exRows.length = 7 from rfl]; clear hS hb hCr; generalize w5.heap.size = gc at *; have hz0 := HK1.out.c0; have hz1 := HK1.out.c1; have hz2 := HK1.out.c2)
  | (go_at_call 18; (with_reducible refine (HK1.out.encode HEnc.out).mono ?_); rintro e w7 ⟨v2, rfl, hR, hb⟩; have HK2 := Aside0.mk (HK1.out.below hb); have HB2 := Aside0.mk (below_step HB1.out hb); have HCR2 := Aside0.mk (Kd.C_below HCR1.out hb); obtain ⟨gp, cp, rfl, hgp, _, _⟩ := Kd.R_form hR (by decide); have HP2 := Aside0.mk (show Kd.R Kd.string 9 w7 w6.heap.size (fun _ => True) (.slice (some ⟨gp, 0, none⟩) 7 cp) exParts from hR); rw [show exParts.length = 7 from rfl]; have HGP := Aside0.mk hgp; have HBE := Aside0.mk hb; clear hR hb hgp hz0 hz1 hz2; have hz0 := HK2.out.c0; have hz1 := HK2.out.c1; have hz2 := HK2.out.c2))
 go_upto_region 6 with (first | (go_at_call 20; (with_reducible refine (HK2.out.check HChk.out).mono ?_); rintro e w8 ⟨rfl, hb⟩; have HKn := Aside0.mk (HK2.out.below hb); have HBn := Aside0.mk (below_step HB2.out hb); have HEn := Aside0.mk (below_step HBE.out hb); have HCn := Aside0.mk (Kd.C_below HCR2.out hb); have HPn := Aside0.mk (Kd.R_below HP2.out hb); clear HK2 HB2 HBE HCR2 HP2 hz0 hz1 hz2 hb; have HK2 := HKn; have HB2 := HBn; have HBE := HEn; have HCR2 := HCn; have HP2 := HPn; clear HKn HBn HEn HCn HPn; have hz0 := HK2.out.c0; have hz1 := HK2.out.c1; have hz2 := HK2.out.c2) | (go_at_call 21; (with_reducible refine (HK2.out.pieces HPie.out).mono ?_); rintro e w8 ⟨rfl, hb⟩; have HKn := Aside0.mk (HK2.out.below hb); have HBn := Aside0.mk (below_step HB2.out hb); have HEn := Aside0.mk (below_step HBE.out hb); have HCn := Aside0.mk (Kd.C_below HCR2.out hb); have HPn := Aside0.mk (Kd.R_below HP2.out hb); clear HK2 HB2 HBE HCR2 HP2 hz0 hz1 hz2 hb; have HK2 := HKn; have HB2 := HBn; have HBE := HEn; have HCR2 := HCn; have HP2 := HPn; clear HKn HBn HEn HCn HPn; have hz0 := HK2.out.c0; have hz1 := HK2.out.c1; have hz2 := HK2.out.c2) | (go_at_call 23; (with_reducible refine (HK2.out.size HSiz.out).mono ?_); rintro e w8 ⟨rfl, hb⟩; have HKn := Aside0.mk (HK2.out.below hb); have HBn := Aside0.mk (below_step HB2.out hb); have HEn := Aside0.mk (below_step HBE.out hb); have HCn := Aside0.mk (Kd.C_below HCR2.out hb); have HPn := Aside0.mk (Kd.R_below HP2.out hb); clear HK2 HB2 HBE HCR2 HP2 hz0 hz1 hz2 hb; have HK2 := HKn; have HB2 := HBn; have HBE := HEn; have HCR2 := HCn; have HP2 := HPn; clear HKn HBn HEn HCn HPn; have hz0 := HK2.out.c0; have hz1 := HK2.out.c1; have hz2 := HK2.out.c2))
 obtain ⟨hcp_, hCp⟩ := (Kd.R_reads' HP2.out).2
 have HCP := Aside0.mk (show Kd.C Kd.string _ (some ⟨gp, 0, none⟩) 7 exParts from hCp)
 obtain ⟨B4, b4, hr4, hs4⟩ := ex_row HCR2.out 4 (by omega) _ ⟨#[1, 1, 0, 0]⟩ rfl 4 rfl rfl
 obtain ⟨B5, b5, hr5, hs5⟩ := ex_row HCR2.out 5 (by omega) _ ⟨#[0, 0, 1, 1]⟩ rfl 4 rfl rfl
 obtain ⟨B6, b6, hr6, hs6⟩ := ex_row HCR2.out 6 (by omega) _ ⟨#[1, 2, 4, 8]⟩ rfl 4 rfl rfl
 have hp3 := ex_part HCP.out 3 (by omega) ⟨#[7, 0]⟩ rfl
 have hp4 := ex_part HCP.out 4 (by omega) ⟨#[2, 6]⟩ rfl
 have hp5 := ex_part HCP.out 5 (by omega) ⟨#[2, 6]⟩ rfl
 have hp6 := ex_part HCP.out 6 (by omega) ⟨#[43, 18]⟩ rfl
 clear hCp
 go_upto_region 7 with (fail)
 clear hr4 hr5 hr6 hs4 hs5 hs6 hp3 hp4 hp5 hp6 HCR2
 have HN7 := Aside0.mk (show exParts.length = 7 from rfl)
 have HM7 := Aside0.mk (show exBad.length = 7 from rfl)
 go_upto_region 11 with (first | (go_at_call 30; (with_reducible refine (HK2.out.recoverable HR1.out).mono ?_); rintro e w8 ⟨rfl, hb⟩; have HKn := Aside0.mk (HK2.out.below hb); have HBn := Aside0.mk (below_step HB2.out hb); have HEn := Aside0.mk (below_step HBE.out hb); have HPn := Aside0.mk (Kd.R_below HP2.out hb); have HCn := Aside0.mk (Kd.C_below HCP.out hb); clear HK2 HB2 HBE HP2 HCP hz0 hz1 hz2 hb; have HK2 := HKn; have HB2 := HBn; have HBE := HEn; have HP2 := HPn; have HCP := HCn; clear HKn HBn HEn HPn HCn; have hz0 := HK2.out.c0; have hz1 := HK2.out.c1; have hz2 := HK2.out.c2) | (go_at_call 30; (with_reducible refine (HK2.out.recoverable HR2.out).mono ?_); rintro e w8 ⟨rfl, hb⟩; have HKn := Aside0.mk (HK2.out.below hb); have HBn := Aside0.mk (below_step HB2.out hb); have HEn := Aside0.mk (below_step HBE.out hb); have HPn := Aside0.mk (Kd.R_below HP2.out hb); have HCn := Aside0.mk (Kd.C_below HCP.out hb); clear HK2 HB2 HBE HP2 HCP hz0 hz1 hz2 hb; have HK2 := HKn; have HB2 := HBn; have HBE := HEn; have HP2 := HPn; have HCP := HCn; clear HKn HBn HEn HPn HCn; have hz0 := HK2.out.c0; have hz1 := HK2.out.c1; have hz2 := HK2.out.c2) | (go_at_call 30; (with_reducible refine (HK2.out.recoverable HR3.out).mono ?_); rintro e w8 ⟨rfl, hb⟩; have HKn := Aside0.mk (HK2.out.below hb); have HBn := Aside0.mk (below_step HB2.out hb); have HEn := Aside0.mk (below_step HBE.out hb); have HPn := Aside0.mk (Kd.R_below HP2.out hb); have HCn := Aside0.mk (Kd.C_below HCP.out hb); clear HK2 HB2 HBE HP2 HCP hz0 hz1 hz2 hb; have HK2 := HKn; have HB2 := HBn; have HBE := HEn; have HP2 := HPn; have HCP := HCn; clear HKn HBn HEn HPn HCn; have hz0 := HK2.out.c0; have hz1 := HK2.out.c1; have hz2 := HK2.out.c2) | (go_at_call 32; (with_reducible refine (HK2.out.distance HDi.out).mono ?_); rintro e w8 ⟨rfl, hb⟩; have HKn := Aside0.mk (HK2.out.below hb); have HBn := Aside0.mk (below_step HB2.out hb); have HEn := Aside0.mk (below_step HBE.out hb); have HPn := Aside0.mk (Kd.R_below HP2.out hb); have HCn := Aside0.mk (Kd.C_below HCP.out hb); clear HK2 HB2 HBE HP2 HCP hz0 hz1 hz2 hb; have HK2 := HKn; have HB2 := HBn; have HBE := HEn; have HP2 := HPn; have HCP := HCn; clear HKn HBn HEn HPn HCn; have hz0 := HK2.out.c0; have hz1 := HK2.out.c1; have hz2 := HK2.out.c2) | (go_at_call 28; (with_reducible refine (HK2.out.decode HN7.out HCP.out hcp_ HD1.out).mono ?_); rintro e w8 ⟨rfl, hb⟩; have HKn := Aside0.mk (HK2.out.below hb); have HBn := Aside0.mk (below_step HB2.out hb); have HEn := Aside0.mk (below_step HBE.out hb); have HPn := Aside0.mk (Kd.R_below HP2.out hb); have HCn := Aside0.mk (Kd.C_below HCP.out hb); clear HK2 HB2 HBE HP2 HCP hz0 hz1 hz2 hb; have HK2 := HKn; have HB2 := HBn; have HBE := HEn; have HP2 := HPn; have HCP := HCn; clear HKn HBn HEn HPn HCn; have hz0 := HK2.out.c0; have hz1 := HK2.out.c1; have hz2 := HK2.out.c2) | (go_at_call 28; (with_reducible refine (HK2.out.decode HN7.out HCP.out hcp_ HD2.out).mono ?_); rintro e w8 ⟨rfl, hb⟩; have HKn := Aside0.mk (HK2.out.below hb); have HBn := Aside0.mk (below_step HB2.out hb); have HEn := Aside0.mk (below_step HBE.out hb); have HPn := Aside0.mk (Kd.R_below HP2.out hb); have HCn := Aside0.mk (Kd.C_below HCP.out hb); clear HK2 HB2 HBE HP2 HCP hz0 hz1 hz2 hb; have HK2 := HKn; have HB2 := HBn; have HBE := HEn; have HP2 := HPn; have HCP := HCn; clear HKn HBn HEn HPn HCn; have hz0 := HK2.out.c0; have hz1 := HK2.out.c1; have hz2 := HK2.out.c2))
 obtain ⟨hom, hfz⟩ := Kd.R_celln (ByteArray.empty) HP2.out (5 : Int) (by omega) (by decide)
 rw [show (5 : Int).toNat = 5 from rfl] at hom hfz
 have HPUT := Aside0.mk (Kd.R_putn HP2.out (5 : Int) ⟨#[2, 7]⟩)
 have hEw := below_set (j := 5) (v := .string ⟨#[2, 7]⟩) HBE.out HGP.out
 have HKw := Aside0.mk (HK1.out.below hEw)
 have HCw := Aside0.mk (show Kd.C Kd.string (World.setCell _ ⟨gp, 5, none⟩ (.string ⟨#[2, 7]⟩)) (some ⟨gp, 0, none⟩) 7 exBad from (Kd.R_reads' HPUT.out).2.2)
 have HBw := Aside0.mk (below_step HB1.out hEw)
 go_upto_region 12 with (fail)
 clear hz0 hz1 hz2 hom hfz hEw
 have hz0 := HKw.out.c0
 have hz1 := HKw.out.c1
 have hz2 := HKw.out.c2
 go_wp2_with (go_at_call 28; (with_reducible refine (HKw.out.decode HM7.out HCw.out hcp_ HD3.out).mono ?_); rintro e w8 ⟨rfl, hb⟩; have HBz := Aside0.mk (below_step HBw.out hb); clear hb)
 go_ret
 exact ⟨rfl, HBz.out⟩


/-! ### quietuslaw07_CodeEncodesAsSpecified: function 3 -/
section
variable {g : Nat} {A : Option Addr} {c : Nat} {d : Int} {l : List (List Int)} {m : Int} {W : World}
theorem CodeAt.few {k : Nat} {n : Int} {r : Bool} (h : CodeAt g A c d l m W) (hr : quietusref07_Few.f k d l m n = some r) :
  Calls Tryd.prog 14 #[.agg #[.int .i64 d, .slice A l.length c, .int .i64 m], .int .i64 n] W fun e w' => e = .returned (.bool r) ∧ Below W.heap.size W w' :=
 quietusref07_Few.calls k d A c l m n r W h.2.2.2 h.2.2.1 h.2.1 hr
theorem CodeAt.rcheck {k : Nat} {r : Int} (h : CodeAt g A c d l m W) (hr : quietusref07_Check.f k d l m = some r) :
  Calls Tryd.prog 16 #[.agg #[.int .i64 d, .slice A l.length c, .int .i64 m]] W fun e w' => e = .returned (.int .i64 r) ∧ Below W.heap.size W w' :=
 quietusref07_Check.calls k d A c l m r W h.2.2.2 h.2.2.1 h.2.1 hr
theorem CodeAt.rpieces {k : Nat} {r : Int} (h : CodeAt g A c d l m W) (hr : quietusref07_Pieces.f k d l m = some r) :
  Calls Tryd.prog 22 #[.agg #[.int .i64 d, .slice A l.length c, .int .i64 m]] W fun e w' => e = .returned (.int .i64 r) ∧ Below W.heap.size W w' :=
 quietusref07_Pieces.calls k d A c l m r W h.2.2.2 h.2.2.1 h.2.1 hr
end
theorem CodeAt.keep {g : Nat} {A : Option Addr} {c : Nat} {d : Int} {l : List (List Int)} {m : Int} {w W W' : World} (h : CodeAt g A c d l m W) (hb : Below W.heap.size W W') : Aside0 (CodeAt g A c d l m W') := ⟨h.below hb⟩

/-! ### quietusref07_Bit: function 73 -/
def quietusref07_Bit.l0 : Nat → Int → Int → Int → Option (Int)
 | 0, _, _, _ => none
 | k + 1, x0, x3, x4 => if x4 < x0 then (quietusref07_Bit.l0 k x0 (wrap64 (2 * x3)) (wrap64 (x4 + 1))) else (some x3)
def quietusref07_Bit.f (k : Nat) (a0 : Int) : Option (Int) := quietusref07_Bit.l0 k a0 1 0
set_option maxHeartbeats 8000000 in
set_option maxRecDepth 100000 in
theorem quietusref07_Bit.calls (k : Nat) (a0 : Int) (r : Int) (w : World) (hG : HG w) (h : quietusref07_Bit.f k a0 = some r) :
  Calls Tryd.prog 73 #[.int .i64 a0] w fun e w' => e = .returned (.int .i64 r) ∧ Drawn0 w w' := by
 have HGw := Aside0.mk hG
 clear hG
 have H : (quietusref07_Bit.l0 k a0 1 0) = some r := h
 clear h
 have H' := Aside0.mk H
 clear H
 go_enter Tryd.func73, Tryd.ntmps73
 go_wp2
 go_loopg [3, 4] k (fun kq v3 v4 w' => ∃ (x3_1 : Int) (x4_1 : Int), v3 = .int .i64 x3_1 ∧ v4 = .int .i64 x4_1 ∧ Aside0 (quietusref07_Bit.l0 kq a0 x3_1 x4_1 = some r) ∧ Aside0 (kq ≤ k) ∧ Drawn0 w w')
 case atStart => exact ⟨(1), (0), (by first | rfl | (simp; done) | (simp [*]; done)), (by first | rfl | (simp; done) | (simp [*]; done)), H', ⟨Nat.le_refl _⟩, by repeat (first | exact Drawn0.refl _ | apply Drawn0.step)⟩
 case round =>
  clear H'
  obtain ⟨x3_1, x4_1, rfl, rfl, HA, HK1, ⟨m1, rfl⟩⟩ := hrel
  cases gk with
  | zero => exact absurd HA.out (by simp [quietusref07_Bit.l0])
  | succ k1 =>
   have H := HA.out
   clear HA
   simp only [quietusref07_Bit.l0] at H
   by_cases c2 : x4_1 < a0
   ·rw [if_pos c2] at H
    have c2b0 : decide (x4_1 < a0) = true := decide_eq_true c2
    clear c2
    have H' := Aside0.mk H
    clear H
    go_wp2
    go_roundg k1
    case measure => have := HK1.out; omega
    case rel => exact ⟨(wrap64 (2 * x3_1)), (wrap64 (x4_1 + 1)), (by first | rfl | (simp; done) | (simp [*]; done)), (by first | rfl | (simp; done) | (simp [*]; done)), H', ⟨by have := HK1.out; omega⟩, by repeat (first | exact Drawn0.refl _ | apply Drawn0.step)⟩
   ·rw [if_neg c2] at H
    have c2b0 : decide (x4_1 < a0) = false := decide_eq_false c2
    clear c2
    obtain rfl := Option.some.inj H
    go_wp2
    go_ret
    exact ⟨by first | rfl | (simp; done) | (simp [*]; done), by repeat (first | exact Drawn0.refl _ | apply Drawn0.step)⟩


/-! ### quietusref07_IsSet: function 33 -/
def quietusref07_IsSet.f (k : Nat) (a0_0 : Int) (l0_1 : List (List Int)) (a0_2 : Int) (a1 : Int) : Option (Bool) := if a1 ≥ 0 then ((quietusref07_Pieces.f k a0_0 l0_1 a0_2).bind fun t192 => ((quietusref07_Bit.f k t192).bind fun t193 => (some (decide (a1 < t193))))) else (some false)
set_option maxHeartbeats 8000000 in
set_option maxRecDepth 100000 in
theorem quietusref07_IsSet.calls (k : Nat) (a0_0 : Int) (A0_1 : Option Addr) (c0_1 : Nat) (l0_1 : List (List Int)) (a0_2 : Int) (a1 : Int) (r : Bool) (w : World) (hG : HG w) (hr0_1 : Kd.C (Kd.slice 3 (Kd.int .i64)) w A0_1 l0_1.length l0_1) (hc0_1 : l0_1.length ≤ c0_1) (h : quietusref07_IsSet.f k a0_0 l0_1 a0_2 a1 = some r) :
  Calls Tryd.prog 33 #[.agg #[.int .i64 a0_0, .slice A0_1 l0_1.length c0_1, .int .i64 a0_2], .int .i64 a1] w fun e w' => e = .returned (.bool r) ∧ Below w.heap.size w w' := by
 have HGw := Aside0.mk hG
 clear hG
 have hu24 := Tryd.underlying24
 have HR0_1 := Aside0.mk hr0_1
 have HC0_1 := Aside0.mk hc0_1
 clear hr0_1 hc0_1
 have HB := Aside0.mk (Below.refl w.heap.size w)
 have H : (if a1 ≥ 0 then ((quietusref07_Pieces.f k a0_0 l0_1 a0_2).bind fun t192 => ((quietusref07_Bit.f k t192).bind fun t193 => (some (decide (a1 < t193))))) else (some false)) = some r := h
 clear h
 by_cases c3 : a1 ≥ 0
 ·rw [if_pos c3] at H
  have c3b0 : decide (0 ≤ a1) = true := decide_eq_true c3
  clear c3
  replace H := Option.bind_eq_some_iff.mp H
  obtain ⟨t192, A40, H⟩ := H
  replace H : ((quietusref07_Bit.f k t192).bind fun t193 => (some (decide (a1 < t193)))) = some r := H
  have A4 := Aside0.mk A40
  clear A40
  replace H := Option.bind_eq_some_iff.mp H
  obtain ⟨t193, A50, H⟩ := H
  replace H : (some (decide (a1 < t193))) = some r := H
  have A5 := Aside0.mk A50
  clear A50
  obtain rfl := Option.some.inj H
  go_enter Tryd.func33, Tryd.ntmps33
  go_wp2_with (first | ((with_reducible refine gate_dst (N := 2) rfl ?_); refine box_event ?hg (N := 2) ?hd (cs := #[.int .i64 a0_0, .slice A0_1 l0_1.length c0_1, .int .i64 a0_2]) (t := 24) ?hr ?_; (case hd => rfl); (case hg => rfl); (case hr => first | (go_simp; done) | (go_simp; rfl)); intro gb191 hg w6 hbox hb; have n0_ := Aside0.mk (below_step (by repeat (first | (with_reducible first | exact HB.out | apply below_alloc | apply pw_below_drewN | apply below_drew1) | exact HB.out)) hb); have n1_ := Aside0.mk (hbox); have n2_ := Aside0.mk ((by rw [hg]; exact (below_size (by repeat (first | (with_reducible first | exact HB.out | apply below_alloc | apply pw_below_drewN | apply below_drew1) | exact HB.out))) : w.heap.size ≤ gb191)); have n3_ := Aside0.mk ((by rw [hg]; exact (below_size (by repeat (first | (with_reducible first | exact HB.out | apply below_alloc | apply pw_below_drewN | apply below_drew1) | exact HB.out))) : w.heap.size ≤ gb191)); clear HB; have HB := n0_; have BK191 := n1_; have GW191 := n2_; have GE191 := n3_; clear n0_ n1_ n2_ n3_; clear hb hbox hg; have hcz7_0 : w6.cell? ⟨gb191, 0, none⟩ = some (.int .i64 a0_0) := (blk_cell BK191.out 0).trans rfl; have hcz7_1 : w6.cell? ⟨gb191, 1, none⟩ = some (.slice A0_1 l0_1.length c0_1) := (blk_cell BK191.out 1).trans rfl; have hcz7_2 : w6.cell? ⟨gb191, 2, none⟩ = some (.int .i64 a0_2) := (blk_cell BK191.out 2).trans rfl; have hfz7_0 := blk_frozen BK191.out 0; have hfz7_1 := blk_frozen BK191.out 1; have hfz7_2 := blk_frozen BK191.out 2) | (go_at_call 22; (with_reducible refine (quietusref07_Pieces.calls k a0_0 _ _ l0_1 a0_2 t192 _ ?side1 ?side2 ?side3 A4.out).mono ?_); (case side1 => exact HG.below HGw.out (by repeat (first | (with_reducible first | exact HB.out | apply below_alloc | apply pw_below_drewN | apply below_drew1 | refine below_set ?_ GE191.out) | exact HB.out))); (case side2 => repeat (first | exact (Kd.C_below HR0_1.out HB.out) | (with_reducible refine Kd.C_alloc ?_ _) | (with_reducible refine Kd.C_drewN ?_ _) | (with_reducible refine Kd.C_drew ?_))); (case side3 => exact HC0_1.out); rintro e w8 ⟨rfl, hb⟩; have n0_ := Aside0.mk (blk_below (g := gb191) (o := .cells #[.int .i64 a0_0, .slice A0_1 l0_1.length c0_1, .int .i64 a0_2] 24 (0, 0)) (by (with_reducible repeat (first | refine blk_drewN ?_ _ | refine blk_drew ?_ | refine blk_alloc ?_ _)); exact BK191.out) hb); have n1_ := Aside0.mk (below_step (by repeat (first | (with_reducible first | exact HB.out | apply below_alloc | apply pw_below_drewN | apply below_drew1 | refine below_set ?_ GE191.out) | exact HB.out)) hb); clear BK191; clear HB; have BK191 := n0_; have HB := n1_; clear n0_ n1_; (try clear hb); (try clear hb2); (try clear hk); (try clear hi)) | (go_at_call 73; (with_reducible refine (quietusref07_Bit.calls k t192 t193 _ ?side1 A5.out).mono ?_); (case side1 => exact HG.below HGw.out (by repeat (first | (with_reducible first | exact HB.out | apply below_alloc | apply pw_below_drewN | apply below_drew1 | refine below_set ?_ GE191.out) | exact HB.out))); rintro e w' ⟨rfl, ⟨nd, rfl⟩⟩))
  go_ret
  exact ⟨by first | rfl | (simp [errW_none, errW_some] <;> rfl) | (simp [*, errW_none, errW_some] <;> rfl), by repeat (first | (with_reducible first | exact HB.out | apply below_alloc | apply pw_below_drewN | apply below_drew1 | refine below_set ?_ GE191.out) | exact HB.out)⟩
 ·rw [if_neg c3] at H
  have c3b0 : decide (0 ≤ a1) = false := decide_eq_false c3
  clear c3
  obtain rfl := Option.some.inj H
  go_enter Tryd.func33, Tryd.ntmps33
  go_wp2_with (first | ((with_reducible refine gate_dst (N := 2) rfl ?_); refine box_event ?hg (N := 2) ?hd (cs := #[.int .i64 a0_0, .slice A0_1 l0_1.length c0_1, .int .i64 a0_2]) (t := 24) ?hr ?_; (case hd => rfl); (case hg => rfl); (case hr => first | (go_simp; done) | (go_simp; rfl)); intro gb191 hg w9 hbox hb; have n0_ := Aside0.mk (below_step (by repeat (first | (with_reducible first | exact HB.out | apply below_alloc | apply pw_below_drewN | apply below_drew1) | exact HB.out)) hb); have n1_ := Aside0.mk (hbox); have n2_ := Aside0.mk ((by rw [hg]; exact (below_size (by repeat (first | (with_reducible first | exact HB.out | apply below_alloc | apply pw_below_drewN | apply below_drew1) | exact HB.out))) : w.heap.size ≤ gb191)); have n3_ := Aside0.mk ((by rw [hg]; exact (below_size (by repeat (first | (with_reducible first | exact HB.out | apply below_alloc | apply pw_below_drewN | apply below_drew1) | exact HB.out))) : w.heap.size ≤ gb191)); clear HB; have HB := n0_; have BK191 := n1_; have GW191 := n2_; have GE191 := n3_; clear n0_ n1_ n2_ n3_; clear hb hbox hg))
  go_ret
  exact ⟨by first | rfl | (simp [errW_none, errW_some] <;> rfl) | (simp [*, errW_none, errW_some] <;> rfl), by repeat (first | (with_reducible first | exact HB.out | apply below_alloc | apply pw_below_drewN | apply below_drew1 | refine below_set ?_ GE191.out) | exact HB.out)⟩


/-! ### quietusref07_Count: function 35 -/
def quietusref07_Count.l0 : Nat → Int → Int → Option (Int)
 | 0, _, _ => none
 | k + 1, x0, x3 => if x0 > 0 then (quietusref07_Count.l0 k (wrap64 (Int.tdiv x0 2)) (wrap64 (x3 + (Int.tmod x0 2)))) else (some x3)
def quietusref07_Count.f (k : Nat) (a0 : Int) : Option (Int) := quietusref07_Count.l0 k a0 0
set_option maxHeartbeats 8000000 in
set_option maxRecDepth 100000 in
theorem quietusref07_Count.calls (k : Nat) (a0 : Int) (r : Int) (w : World) (hG : HG w) (h : quietusref07_Count.f k a0 = some r) :
  Calls Tryd.prog 35 #[.int .i64 a0] w fun e w' => e = .returned (.int .i64 r) ∧ Drawn0 w w' := by
 have HGw := Aside0.mk hG
 clear hG
 have H : (quietusref07_Count.l0 k a0 0) = some r := h
 clear h
 have H' := Aside0.mk H
 clear H
 go_enter Tryd.func35, Tryd.ntmps35
 go_wp2
 go_loopg [0, 3] k (fun kq v0 v3 w' => ∃ (x0_1 : Int) (x3_1 : Int), v0 = .int .i64 x0_1 ∧ v3 = .int .i64 x3_1 ∧ Aside0 (quietusref07_Count.l0 kq x0_1 x3_1 = some r) ∧ Aside0 (kq ≤ k) ∧ Drawn0 w w')
 case atStart => exact ⟨(a0), (0), (by first | rfl | (simp; done) | (simp [*]; done)), (by first | rfl | (simp; done) | (simp [*]; done)), H', ⟨Nat.le_refl _⟩, by repeat (first | exact Drawn0.refl _ | apply Drawn0.step)⟩
 case round =>
  clear H'
  obtain ⟨x0_1, x3_1, rfl, rfl, HA, HK1, ⟨m1, rfl⟩⟩ := hrel
  cases gk with
  | zero => exact absurd HA.out (by simp [quietusref07_Count.l0])
  | succ k1 =>
   have H := HA.out
   clear HA
   simp only [quietusref07_Count.l0] at H
   by_cases c2 : x0_1 > 0
   ·rw [if_pos c2] at H
    have c2b0 : decide (0 < x0_1) = true := decide_eq_true c2
    clear c2
    have H' := Aside0.mk H
    clear H
    go_wp2
    go_roundg k1
    case measure => have := HK1.out; omega
    case rel => exact ⟨(wrap64 (Int.tdiv x0_1 2)), (wrap64 (x3_1 + (Int.tmod x0_1 2))), (by first | rfl | (simp; done) | (simp [*]; done)), (by first | rfl | (simp; done) | (simp [*]; done)), H', ⟨by have := HK1.out; omega⟩, by repeat (first | exact Drawn0.refl _ | apply Drawn0.step)⟩
   ·rw [if_neg c2] at H
    have c2b0 : decide (0 < x0_1) = false := decide_eq_false c2
    clear c2
    obtain rfl := Option.some.inj H
    go_wp2
    go_ret
    exact ⟨by first | rfl | (simp; done) | (simp [*]; done), by repeat (first | exact Drawn0.refl _ | apply Drawn0.step)⟩


/-! ### quietusref07_In: function 69 -/
def quietusref07_In.l0 : Nat → Int → Int → Int → Option (Bool)
 | 0, _, _, _ => none
 | k + 1, x0, x1, x5 => if x5 < x1 then (quietusref07_In.l0 k (wrap64 (Int.tdiv x0 2)) x1 (wrap64 (x5 + 1))) else (some ((Int.tmod x0 2) == 1))
def quietusref07_In.f (k : Nat) (a0 : Int) (a1 : Int) : Option (Bool) := quietusref07_In.l0 k a0 a1 0
set_option maxHeartbeats 8000000 in
set_option maxRecDepth 100000 in
theorem quietusref07_In.calls (k : Nat) (a0 : Int) (a1 : Int) (r : Bool) (w : World) (hG : HG w) (h : quietusref07_In.f k a0 a1 = some r) :
  Calls Tryd.prog 69 #[.int .i64 a0, .int .i64 a1] w fun e w' => e = .returned (.bool r) ∧ Drawn0 w w' := by
 have HGw := Aside0.mk hG
 clear hG
 have H : (quietusref07_In.l0 k a0 a1 0) = some r := h
 clear h
 have H' := Aside0.mk H
 clear H
 go_enter Tryd.func69, Tryd.ntmps69
 go_wp2
 go_loopg [0, 5] k (fun kq v0 v5 w' => ∃ (x0_1 : Int) (x5_1 : Int), v0 = .int .i64 x0_1 ∧ v5 = .int .i64 x5_1 ∧ Aside0 (quietusref07_In.l0 kq x0_1 a1 x5_1 = some r) ∧ Aside0 (kq ≤ k) ∧ Drawn0 w w')
 case atStart => exact ⟨(a0), (0), (by first | rfl | (simp; done) | (simp [*]; done)), (by first | rfl | (simp; done) | (simp [*]; done)), H', ⟨Nat.le_refl _⟩, by repeat (first | exact Drawn0.refl _ | apply Drawn0.step)⟩
 case round =>
  clear H'
  try clear p2
  obtain ⟨x0_1, x5_1, rfl, rfl, HA, HK1, ⟨m1, rfl⟩⟩ := hrel
  cases gk with
  | zero => exact absurd HA.out (by simp [quietusref07_In.l0])
  | succ k1 =>
   have H := HA.out
   clear HA
   simp only [quietusref07_In.l0] at H
   by_cases c3 : x5_1 < a1
   ·rw [if_pos c3] at H
    have c3b0 : decide (x5_1 < a1) = true := decide_eq_true c3
    clear c3
    have H' := Aside0.mk H
    clear H
    go_wp2
    go_roundg k1
    case measure => have := HK1.out; omega
    case rel => exact ⟨(wrap64 (Int.tdiv x0_1 2)), (wrap64 (x5_1 + 1)), (by first | rfl | (simp; done) | (simp [*]; done)), (by first | rfl | (simp; done) | (simp [*]; done)), H', ⟨by have := HK1.out; omega⟩, by repeat (first | exact Drawn0.refl _ | apply Drawn0.step)⟩
   ·rw [if_neg c3] at H
    have c3b0 : decide (x5_1 < a1) = false := decide_eq_false c3
    clear c3
    obtain rfl := Option.some.inj H
    go_wp2
    go_ret
    exact ⟨by first | rfl | (simp; done) | (simp [*]; done), by repeat (first | exact Drawn0.refl _ | apply Drawn0.step)⟩


/-! ### quietusref04_Inv: function 108 -/
def quietusref04_Inv.l0 : Nat → Int → Int → Option (Int)
 | 0, _, _ => none
 | k + 1, x0, x3 => if x3 < 256 then ((quietusref04_Mul.f k x0 ((x3) % 256)).bind fun t194 => (if t194 = 1 then (some ((x3) % 256)) else (quietusref04_Inv.l0 k x0 (wrap64 (x3 + 1))))) else (some 0)
def quietusref04_Inv.f (k : Nat) (a0 : Int) : Option (Int) := quietusref04_Inv.l0 k a0 1
set_option maxHeartbeats 8000000 in
set_option maxRecDepth 100000 in
theorem quietusref04_Inv.calls (k : Nat) (a0 : Int) (r : Int) (w : World) (hG : HG w) (h : quietusref04_Inv.f k a0 = some r) :
  Calls Tryd.prog 108 #[.int .u8 a0] w fun e w' => e = .returned (.int .u8 r) ∧ Drawn0 w w' := by
 have HGw := Aside0.mk hG
 clear hG
 have H : (quietusref04_Inv.l0 k a0 1) = some r := h
 clear h
 have H' := Aside0.mk H
 clear H
 go_enter Tryd.func108, Tryd.ntmps108
 go_wp2
 go_loopg [3] k (fun kq v3 w' => ∃ (x3_1 : Int), v3 = .int .i64 x3_1 ∧ Aside0 (quietusref04_Inv.l0 kq a0 x3_1 = some r) ∧ Aside0 (kq ≤ k) ∧ Drawn0 w w')
 case atStart => exact ⟨(1), (by first | rfl | (simp; done) | (simp [*]; done)), H', ⟨Nat.le_refl _⟩, by repeat (first | exact Drawn0.refl _ | apply Drawn0.step)⟩
 case round =>
  clear H'
  try clear c1
  obtain ⟨x3_1, rfl, HA, HK1, ⟨m1, rfl⟩⟩ := hrel
  cases gk with
  | zero => exact absurd HA.out (by simp [quietusref04_Inv.l0])
  | succ k1 =>
   have H := HA.out
   clear HA
   simp only [quietusref04_Inv.l0] at H
   by_cases c2 : x3_1 < 256
   ·rw [if_pos c2] at H
    have c2b0 : decide (x3_1 < 256) = true := decide_eq_true c2
    clear c2
    replace H := Option.bind_eq_some_iff.mp H
    obtain ⟨t194, A30, H⟩ := H
    replace H : (if t194 = 1 then (some ((x3_1) % 256)) else (quietusref04_Inv.l0 k1 a0 (wrap64 (x3_1 + 1)))) = some r := H
    have A3 := Aside0.mk A30
    clear A30
    by_cases c4 : t194 = 1
    ·rw [if_pos c4] at H
     have c4b0 : (t194 == 1) = true := beq_iff_eq.mpr c4
     have c4b1 : (t194 != 1) = false := bne_eq_false_iff_eq.mpr c4
     clear c4
     obtain rfl := Option.some.inj H
     go_wp2_with (first | ((with_reducible refine gate_callee (f := 104) rfl ?_); refine goesL_ (some 11) rfl rfl Tryd.func104 (by kernel_rfl) rfl #[.int .u8 a0, .int .u8 ((x3_1) % 256)] rfl (by (try simp only [List.map_toArray, List.map_cons, List.map_nil]); first | done | rfl | (simp only [List.length_drop, List.length_take]; rfl)) ?_; (with_reducible refine (quietusref04_Mul.calls k1 a0 ((x3_1) % 256) t194 _ ?side1 A3.out).mono ?_); (case side1 => first | exact HGw.out | (repeat (first | exact HGw.out | apply HG.drewN | apply HG.drew))); rintro e w' ⟨rfl, ⟨nd, rfl⟩⟩; refine ⟨_, rfl, ?_⟩))
     go_ret
     exact ⟨by first | rfl | (simp; done) | (simp [*]; done), by repeat (first | exact Drawn0.refl _ | apply Drawn0.step)⟩
    ·rw [if_neg c4] at H
     have c4b0 : (t194 == 1) = false := beq_eq_false_iff_ne.mpr c4
     have c4b1 : (t194 != 1) = true := bne_iff_ne.mpr c4
     have H' := Aside0.mk H
     clear H
     go_wp2_with (first | ((with_reducible refine gate_callee (f := 104) rfl ?_); refine goesL_ (some 11) rfl rfl Tryd.func104 (by kernel_rfl) rfl #[.int .u8 a0, .int .u8 ((x3_1) % 256)] rfl (by (try simp only [List.map_toArray, List.map_cons, List.map_nil]); first | done | rfl | (simp only [List.length_drop, List.length_take]; rfl)) ?_; (with_reducible refine (quietusref04_Mul.calls k1 a0 ((x3_1) % 256) t194 _ ?side1 A3.out).mono ?_); (case side1 => first | exact HGw.out | (repeat (first | exact HGw.out | apply HG.drewN | apply HG.drew))); rintro e w' ⟨rfl, ⟨nd, rfl⟩⟩; refine ⟨_, rfl, ?_⟩))
     go_roundg k1
     case measure => have := HK1.out; omega
     case rel => exact ⟨(wrap64 (x3_1 + 1)), (by first | rfl | (simp; done) | (simp [*]; done)), H', ⟨by have := HK1.out; omega⟩, by repeat (first | exact Drawn0.refl _ | apply Drawn0.step)⟩
   ·rw [if_neg c2] at H
    have c2b0 : decide (x3_1 < 256) = false := decide_eq_false c2
    clear c2
    obtain rfl := Option.some.inj H
    go_wp2
    go_ret
    exact ⟨by first | rfl | (simp; done) | (simp [*]; done), by repeat (first | exact Drawn0.refl _ | apply Drawn0.step)⟩


/-! ### quietusref07_less: function 96 -/
def quietusref07_less.l0 : Nat → List Int → List Int → Int → List Int → Int → Option (List Int)
 | 0, _, _, _, _, _ => none
 | k + 1, x0, x1, x7, x8, x9 => if x9 < (x0.length : Int) then (if 0 ≤ x9 then (if x9 < (x1.length : Int) then ((quietusref04_Mul.f k x7 (rd x1 x9)).bind fun t201 => (if x8.length < 140737488355328 then (quietusref07_less.l0 k x0 x1 x7 (x8 ++ [Go.bits .xor .u8 (rd x0 x9) t201]) (wrap64 (x9 + 1))) else (none))) else (none)) else (none)) else (some x8)
def quietusref07_less.f (k : Nat) (l0 : List Int) (l1 : List Int) (a2 : Int) : Option (List Int) := if 0 ≤ a2 then (if a2 < (l0.length : Int) then (if a2 < (l1.length : Int) then ((quietusref04_Inv.f k (rd l1 a2)).bind fun t197 => ((quietusref04_Mul.f k (rd l0 a2) t197).bind fun t198 => (quietusref07_less.l0 k l0 l1 t198 ([] : List Int) 0))) else (none)) else (none)) else (none)
def quietusref07_less.T1 : Bool × List (List Nat × List Nat) := (true, [([], []), ([], []), ([0, 1], [0, 1]), ([2], [2]), ([], []), ([], []), ([4, 5], [4, 5]), ([6], [6]), ([7], [7]), ([3, 8, 8], [3, 8]), ([9, 9, 0, 1, 2, 3, 4, 5, 6, 7, 8, 9], [9])])
def quietusref07_less.B1 : List Nat := [0, 0, 3, 7, 0, 0, 48, 112, 240, 511, 1023]
theorem quietusref07_less.tab1 : rtab .any (opsOf Tryd.f96 1) = quietusref07_less.T1 := by kernel_rfl
theorem quietusref07_less.bits1 : waitsOk quietusref07_less.T1.2 quietusref07_less.B1 = true := by kernel_rfl
def quietusref07_less.T6 : Bool × List (List Nat × List Nat) := (true, [([], []), ([], []), ([], []), ([1, 2], [1, 2]), ([3], [3]), ([], []), ([], []), ([], []), ([6, 7], [6, 7]), ([8], [8]), ([5, 9], [5, 9]), ([4, 10], [4, 10]), ([11], [11]), ([0, 12, 10], [0, 12]), ([13, 13, 0, 1, 2, 3, 4, 5, 6, 7, 8, 9, 10, 11, 12, 13], [0, 13])])
def quietusref07_less.B6 : List Nat := [0, 0, 0, 6, 14, 0, 0, 0, 192, 448, 992, 2046, 4094, 8191, 16383]
theorem quietusref07_less.tab6 : rtab .any (opsOf Tryd.f96 6) = quietusref07_less.T6 := by kernel_rfl
theorem quietusref07_less.bits6 : waitsOk quietusref07_less.T6.2 quietusref07_less.B6 = true := by kernel_rfl
set_option maxHeartbeats 8000000 in
set_option maxRecDepth 100000 in
theorem quietusref07_less.calls (k : Nat) (A0 : Option Addr) (c0 : Nat) (l0 : List Int) (A1 : Option Addr) (c1 : Nat) (l1 : List Int) (a2 : Int) (r : List Int) (w : World) (hG : HG w) (hr0 : Kd.C (Kd.int .u8) w A0 l0.length l0) (hc0 : l0.length ≤ c0) (hr1 : Kd.C (Kd.int .u8) w A1 l1.length l1) (hc1 : l1.length ≤ c1) (h : quietusref07_less.f k l0 l1 a2 = some r) :
  Calls Tryd.prog 96 #[.slice A0 l0.length c0, .slice A1 l1.length c1, .int .i64 a2] w fun e w' => ∃ v0_ : Value, e = .returned (v0_) ∧ Kd.R (Kd.int .u8) 5 w' w.heap.size (fun _ => True) v0_ r ∧ Below w.heap.size w w' := by
 have HGw := Aside0.mk hG
 clear hG
 have HR0 := Aside0.mk hr0
 have HC0 := Aside0.mk hc0
 clear hr0 hc0
 have HR1 := Aside0.mk hr1
 have HC1 := Aside0.mk hc1
 clear hr1 hc1
 have HB := Aside0.mk (Below.refl w.heap.size w)
 have H : (if 0 ≤ a2 then (if a2 < (l0.length : Int) then (if a2 < (l1.length : Int) then ((quietusref04_Inv.f k (rd l1 a2)).bind fun t197 => ((quietusref04_Mul.f k (rd l0 a2) t197).bind fun t198 => (quietusref07_less.l0 k l0 l1 t198 ([] : List Int) 0))) else (none)) else (none)) else (none)) = some r := h
 clear h
 by_cases c4 : 0 ≤ a2
 ·rw [if_pos c4] at H
  have c4b0 : decide (0 ≤ a2) = true := decide_eq_true c4
  clear c4
  by_cases c5 : a2 < (l0.length : Int)
  ·rw [if_pos c5] at H
   have c5b0 : decide (a2 < (l0.length : Int)) = true := decide_eq_true c5
   clear c5
   by_cases c6 : a2 < (l1.length : Int)
   ·rw [if_pos c6] at H
    have c6b0 : decide (a2 < (l1.length : Int)) = true := decide_eq_true c6
    clear c6
    replace H := Option.bind_eq_some_iff.mp H
    obtain ⟨t197, A70, H⟩ := H
    replace H : ((quietusref04_Mul.f k (rd l0 a2) t197).bind fun t198 => (quietusref07_less.l0 k l0 l1 t198 ([] : List Int) 0)) = some r := H
    have A7 := Aside0.mk A70
    clear A70
    replace H := Option.bind_eq_some_iff.mp H
    obtain ⟨t198, A80, H⟩ := H
    replace H : (quietusref07_less.l0 k l0 l1 t198 ([] : List Int) 0) = some r := H
    have A8 := Aside0.mk A80
    clear A80
    have H' := Aside0.mk H
    clear H
    go_enter Tryd.func96, Tryd.ntmps96
    try go_wp2
    have n0_ := Aside0.mk (below_drew1 HB.out)
    clear HB
    have HB := n0_
    clear n0_
    have p195 : 0 ≤ (a2 : Int) := of_decide_eq_true (by first | (with_reducible assumption) | assumption)
    have q195 : a2 < (l0.length : Int) := of_decide_eq_true (by first | (with_reducible assumption) | assumption)
    obtain ⟨ad195, e195, hx195_0⟩ := Kd.at_int HR0.out a2 p195 q195
    have hw195_0 := hx195_0
    cases e195
    replace hx195_0 := (HB.out.cell (World.block_lt_of_cell? w _ hx195_0)).trans hx195_0
    replace p195 := eq_true p195
    replace q195 := eq_true q195
    have p196 : 0 ≤ (a2 : Int) := of_decide_eq_true (by first | (with_reducible assumption) | assumption)
    have q196 : a2 < (l1.length : Int) := of_decide_eq_true (by first | (with_reducible assumption) | assumption)
    obtain ⟨ad196, e196, hx196_0⟩ := Kd.at_int HR1.out a2 p196 q196
    have hw196_0 := hx196_0
    cases e196
    replace hx196_0 := (HB.out.cell (World.block_lt_of_cell? w _ hx196_0)).trans hx196_0
    replace p196 := eq_true p196
    replace q196 := eq_true q196
    refine start_ (n := 11) (S := fun w' => w'.cell? (ad195.add (a2).toNat) = some (.int .u8 (rd l0 a2)) ∧ w'.cell? (ad196.add (a2).toNat) = some (.int .u8 (rd l1 a2))) (ds := []) #[false, false, false, false, false, false, false, false, false, false, false] (by kernel_rfl) rfl rfl ⟨((HB.out.cell (World.block_lt_of_cell? w _ hw195_0)).trans hw195_0), ((HB.out.cell (World.block_lt_of_cell? w _ hw196_0)).trans hw196_0)⟩ (fun hHeld => ?_); refine with_tabW quietusref07_less.tab1 quietusref07_less.bits1 (fun HT_ HW_ => ?_)
    generalize w.drew = w9 at HB hx195_0 hx196_0 hHeld ⊢
    refine pure_ (i := 0) (N := some 10) (v := ?_) (a' := ?_) #[true, false, false, false, false, false, false, false, false, false, false] rfl rfl (any_of HT_.out (by kernel_rfl)) (fun _ _ _ h => h) (Or.inl ⟨by rfl, ?_⟩) ?_ ?_
    rotate_left
    ·intro w'
     go_simp
     with_reducible rfl
    rotate_left
    ·simp only [Act.put, List.setIfInBounds_toArray, List.set_cons_zero, List.set_cons_succ, i64_w, i32_w]
     rfl
    refine pure_ (i := 1) (N := some 11) (v := ?_) (a' := ?_) #[true, true, false, false, false, false, false, false, false, false, false] rfl rfl (any_of HT_.out (by kernel_rfl)) (fun _ _ _ h => h) (Or.inl ⟨by rfl, ?_⟩) ?_ ?_
    rotate_left
    ·intro w'
     go_simp
     with_reducible rfl
    rotate_left
    ·simp only [Act.put, List.setIfInBounds_toArray, List.set_cons_zero, List.set_cons_succ, i64_w, i32_w]
     rfl
    refine pure_ (i := 2) (N := some 12) (v := ?_) (a' := ?_) #[true, true, true, false, false, false, false, false, false, false, false] rfl rfl (any_of HT_.out (by kernel_rfl)) (fun _ _ _ h => h) (Or.inl ⟨by rfl, ?_⟩) ?_ ?_
    rotate_left
    ·intro w'
     go_simp
     with_reducible rfl
    rotate_left
    ·simp only [Act.put, List.setIfInBounds_toArray, List.set_cons_zero, List.set_cons_succ, i64_w, i32_w]
     rfl
    refine pure_ (i := 4) (N := some 14) (v := ?_) (a' := ?_) #[true, true, true, false, true, false, false, false, false, false, false] rfl rfl (any_of HT_.out (by kernel_rfl)) (fun _ _ _ h => h) (Or.inl ⟨by rfl, ?_⟩) ?_ ?_
    rotate_left
    ·intro w'
     go_simp
     with_reducible rfl
    rotate_left
    ·simp only [Act.put, List.setIfInBounds_toArray, List.set_cons_zero, List.set_cons_succ, i64_w, i32_w]
     rfl
    refine pure_ (i := 5) (N := some 15) (v := ?_) (a' := ?_) #[true, true, true, false, true, true, false, false, false, false, false] rfl rfl (any_of HT_.out (by kernel_rfl)) (fun _ _ _ h => h) (Or.inl ⟨by rfl, ?_⟩) ?_ ?_
    rotate_left
    ·intro w'
     go_simp
     with_reducible rfl
    rotate_left
    ·simp only [Act.put, List.setIfInBounds_toArray, List.set_cons_zero, List.set_cons_succ, i64_w, i32_w]
     rfl
    refine pure_ (i := 6) (N := some 16) (v := ?_) (a' := ?_) #[true, true, true, false, true, true, true, false, false, false, false] rfl rfl (any_of HT_.out (by kernel_rfl)) (fun _ _ _ h => h) (Or.inl ⟨by rfl, ?_⟩) ?_ ?_
    rotate_left
    ·intro w'
     go_simp
     with_reducible rfl
    rotate_left
    ·simp only [Act.put, List.setIfInBounds_toArray, List.set_cons_zero, List.set_cons_succ, i64_w, i32_w]
     rfl
    refine take_ (i := 3) (N := some 13) (v := ?_) (a' := ?_) #[true, true, true, true, true, true, true, false, false, false, false] rfl rfl (take_ofW HT_.out HW_.out (by kernel_rfl)) (fun _ _ _ h => h) (Or.inl ⟨by rfl, ?_⟩) hHeld ?_ ?_
    rotate_left
    ·rintro w' ⟨s0, s1⟩
     go_simp
     with_reducible rfl
    rotate_left
    ·simp only [Act.put, List.setIfInBounds_toArray, List.set_cons_zero, List.set_cons_succ, i64_w, i32_w]
     rfl
    refine take_ (i := 7) (N := some 17) (v := ?_) (a' := ?_) #[true, true, true, true, true, true, true, true, false, false, false] rfl rfl (take_ofW HT_.out HW_.out (by kernel_rfl)) (fun _ _ _ h => h) (Or.inl ⟨by rfl, ?_⟩) hHeld ?_ ?_
    rotate_left
    ·rintro w' ⟨s0, s1⟩
     go_simp
     with_reducible rfl
    rotate_left
    ·simp only [Act.put, List.setIfInBounds_toArray, List.set_cons_zero, List.set_cons_succ, i64_w, i32_w]
     rfl
    refine one_ (i := 8) (N := some 18) #[true, true, true, true, true, true, true, true, true, false, false] rfl rfl (one_of HT_.out (by kernel_rfl)) (by decide) (fun K hK => ?_)
    refine goes_ Tryd.func108 (by kernel_rfl) rfl #[.int .u8 (rd l1 a2)] (by rfl) rfl rfl (by (try simp only [List.map_toArray, List.map_cons, List.map_nil]); first | done | rfl | (simp only [List.length_drop, List.length_take]; rfl)) ?_
    with_reducible refine (quietusref04_Inv.calls k (rd l1 a2) t197 _ ?side1 A7.out).mono ?_
    (case side1 => exact HG.below HGw.out (by repeat (first | (with_reducible first | exact HB.out | apply below_alloc | apply pw_below_drewN | apply below_drew1) | exact HB.out)))
    rintro e w' ⟨rfl, ⟨nd, rfl⟩⟩
    refine ⟨_, rfl, ?_⟩
    refine hK.out _ _ ⟨((HB.out.cell (World.block_lt_of_cell? w _ hw195_0)).trans hw195_0), ((HB.out.cell (World.block_lt_of_cell? w _ hw196_0)).trans hw196_0)⟩ (fun hHeld => ?_)
    clear hK K
    refine norm_ (a' := ?_) ?_ ?_
    rotate_left
    ·show Act.put _ (some 18) _ = _
     simp only [Act.put, List.setIfInBounds_toArray, List.set_cons_zero, List.set_cons_succ, i64_w, i32_w]
     rfl
    refine one_ (i := 9) (N := some 19) #[true, true, true, true, true, true, true, true, true, true, false] rfl rfl (one_of HT_.out (by kernel_rfl)) (by decide) (fun K hK => ?_)
    refine goes_ Tryd.func104 (by kernel_rfl) rfl #[.int .u8 (rd l0 a2), .int .u8 t197] (by rfl) rfl rfl (by (try simp only [List.map_toArray, List.map_cons, List.map_nil]); first | done | rfl | (simp only [List.length_drop, List.length_take]; rfl)) ?_
    with_reducible refine (quietusref04_Mul.calls k (rd l0 a2) t197 t198 _ ?side1 A8.out).mono ?_
    (case side1 => exact HG.below HGw.out (by repeat (first | (with_reducible first | exact HB.out | apply below_alloc | apply pw_below_drewN | apply below_drew1) | exact HB.out)))
    rintro e w' ⟨rfl, ⟨nd, rfl⟩⟩
    refine ⟨_, rfl, ?_⟩
    refine hK.out _ _ ⟨((HB.out.cell (World.block_lt_of_cell? w _ hw195_0)).trans hw195_0), ((HB.out.cell (World.block_lt_of_cell? w _ hw196_0)).trans hw196_0)⟩ (fun hHeld => ?_)
    clear hK K
    refine norm_ (a' := ?_) ?_ ?_
    rotate_left
    ·show Act.put _ (some 19) _ = _
     simp only [Act.put, List.setIfInBounds_toArray, List.set_cons_zero, List.set_cons_succ, i64_w, i32_w]
     rfl
    refine pure_ (i := 10) (N := some 7) (v := ?_) (a' := ?_) #[true, true, true, true, true, true, true, true, true, true, true] rfl rfl (any_of HT_.out (by kernel_rfl)) (fun _ _ _ h => h) (Or.inl ⟨by rfl, ?_⟩) ?_ ?_
    rotate_left
    ·intro w'
     go_simp
     with_reducible rfl
    rotate_left
    ·simp only [Act.put, List.setIfInBounds_toArray, List.set_cons_zero, List.set_cons_succ, i64_w, i32_w]
     rfl
    refine done_ (done_of HT_.out (by kernel_rfl)) ?_
    try go_wp2
    go_loopg [8, 9] k (fun kq v8 v9 w' => ∃ (x8_1 : List Int) (x9_1 : Int), v9 = .int .i64 x9_1 ∧ Aside0 (quietusref07_less.l0 kq l0 l1 t198 x8_1 x9_1 = some r) ∧ Aside0 (kq ≤ k) ∧ Aside0 (Kd.R (Kd.int .u8) 5 w' w.heap.size (fun _ => True) v8 x8_1) ∧ Aside0 (Below w.heap.size w w'))
    case atStart => exact ⟨(([] : List Int)), (0), (by first | rfl | (simp; done) | (simp [*]; done)), H', ⟨Nat.le_refl _⟩, ⟨by first | exact Kd.R_nil _ _ _ _ _ | exact Kd.N_nil _ _ _ _ _ | exact Kd.V_nil _ _ _ _ _ | exact Kd.Q_nil _ _ _ _ _ | exact Kd.S_nil _ _ _ _ _⟩, ⟨by repeat (first | (with_reducible first | exact HB.out | apply below_alloc | apply pw_below_drewN | apply below_drew1) | exact HB.out)⟩⟩
    case round =>
     clear H'
     try clear c1
     try clear p1
     try clear q1
     try clear hx1
     try clear p2
     try clear c4
     try clear c4b0
     try clear c5
     try clear c5b0
     try clear c6
     try clear c6b0
     try clear c9
     try clear hx195_0
     try clear hx196_0
     try clear p195
     try clear p196
     try clear q195
     try clear q196
     obtain ⟨x8_1, x9_1, rfl, HA, HK1, HO_8, HB⟩ := hrel
     cases gk with
     | zero => exact absurd HA.out (by simp [quietusref07_less.l0])
     | succ k1 =>
      have H := HA.out
      clear HA
      simp only [quietusref07_less.l0] at H
      by_cases c10 : x9_1 < (l0.length : Int)
      ·rw [if_pos c10] at H
       have c10b0 : decide (x9_1 < (l0.length : Int)) = true := decide_eq_true c10
       clear c10
       by_cases c11 : 0 ≤ x9_1
       ·rw [if_pos c11] at H
        have c11b0 : decide (0 ≤ x9_1) = true := decide_eq_true c11
        clear c11
        by_cases c12 : x9_1 < (l1.length : Int)
        ·rw [if_pos c12] at H
         have c12b0 : decide (x9_1 < (l1.length : Int)) = true := decide_eq_true c12
         clear c12
         replace H := Option.bind_eq_some_iff.mp H
         obtain ⟨t201, A130, H⟩ := H
         replace H : (if x8_1.length < 140737488355328 then (quietusref07_less.l0 k1 l0 l1 t198 (x8_1 ++ [Go.bits .xor .u8 (rd l0 x9_1) t201]) (wrap64 (x9_1 + 1))) else (none)) = some r := H
         have A13 := Aside0.mk A130
         clear A130
         by_cases c14 : x8_1.length < 140737488355328
         ·rw [if_pos c14] at H
          have LMc14 := Aside0.mk c14
          clear c14
          obtain ⟨y202, hy202⟩ : ∃ y_ : List Int, y_ = (x8_1 ++ [Go.bits .xor .u8 (rd l0 x9_1) t201]) := ⟨_, rfl⟩
          replace H : (quietusref07_less.l0 k1 l0 l1 t198 y202 (wrap64 (x9_1 + 1))) = some r := by first | (rw [hy202]; with_reducible exact H) | (have H2_ := (Option.bind_some _ _).symm.trans H; rw [hy202]; with_reducible exact H2_) | (have H2_ := (Option.bind_some _ _).symm.trans H; with_reducible exact H2_) | with_reducible exact H | (rw [hy202]; exact H) | exact H
          have Ny202 := Aside0.mk hy202
          clear hy202
          have H' := Aside0.mk H
          clear H
          try go_wp2
          have n0_ := Aside0.mk (Kd.R_drew HO_8.out)
          have n1_ := Aside0.mk (below_drew1 HB.out)
          clear HO_8
          clear HB
          have HO_8 := n0_
          have HB := n1_
          clear n0_ n1_
          have p199 : 0 ≤ (x9_1 : Int) := of_decide_eq_true (by first | (with_reducible assumption) | assumption)
          have q199 : x9_1 < (l0.length : Int) := of_decide_eq_true (by first | (with_reducible assumption) | assumption)
          obtain ⟨ad199, e199, hx199_0⟩ := Kd.at_int HR0.out x9_1 p199 q199
          have hw199_0 := hx199_0
          obtain rfl : ad195 = ad199 := (by injection e199)
          replace hx199_0 := (HB.out.cell (World.block_lt_of_cell? w _ hx199_0)).trans hx199_0
          replace p199 := eq_true p199
          replace q199 := eq_true q199
          have p200 : 0 ≤ (x9_1 : Int) := of_decide_eq_true (by first | (with_reducible assumption) | assumption)
          have q200 : x9_1 < (l1.length : Int) := of_decide_eq_true (by first | (with_reducible assumption) | assumption)
          obtain ⟨ad200, e200, hx200_0⟩ := Kd.at_int HR1.out x9_1 p200 q200
          have hw200_0 := hx200_0
          obtain rfl : ad196 = ad200 := (by injection e200)
          replace hx200_0 := (HB.out.cell (World.block_lt_of_cell? w _ hx200_0)).trans hx200_0
          replace p200 := eq_true p200
          replace q200 := eq_true q200
          refine start_ (n := 15) (S := fun w' => w'.cell? (ad195.add (x9_1).toNat) = some (.int .u8 (rd l0 x9_1)) ∧ w'.cell? (ad196.add (x9_1).toNat) = some (.int .u8 (rd l1 x9_1))) (ds := []) #[false, false, false, false, false, false, false, false, false, false, false, false, false, false, false] (by kernel_rfl) rfl rfl ⟨((HB.out.cell (World.block_lt_of_cell? w _ hw199_0)).trans hw199_0), ((HB.out.cell (World.block_lt_of_cell? w _ hw200_0)).trans hw200_0)⟩ (fun hHeld => ?_); refine with_tabW quietusref07_less.tab6 quietusref07_less.bits6 (fun HT_ HW_ => ?_)
          generalize wr.drew = w15 at HO_8 HB hx199_0 hx200_0 hHeld ⊢
          refine pure_ (i := 0) (N := some 26) (v := ?_) (a' := ?_) #[true, false, false, false, false, false, false, false, false, false, false, false, false, false, false] rfl rfl (any_of HT_.out (by kernel_rfl)) (fun _ _ _ h => h) (Or.inl ⟨by rfl, ?_⟩) ?_ ?_
          rotate_left
          ·intro w'
           go_simp
           with_reducible rfl
          rotate_left
          ·simp only [Act.put, List.setIfInBounds_toArray, List.set_cons_zero, List.set_cons_succ, i64_w, i32_w]
           rfl
          refine pure_ (i := 1) (N := some 27) (v := ?_) (a' := ?_) #[true, true, false, false, false, false, false, false, false, false, false, false, false, false, false] rfl rfl (any_of HT_.out (by kernel_rfl)) (fun _ _ _ h => h) (Or.inl ⟨by rfl, ?_⟩) ?_ ?_
          rotate_left
          ·intro w'
           go_simp
           with_reducible rfl
          rotate_left
          ·simp only [Act.put, List.setIfInBounds_toArray, List.set_cons_zero, List.set_cons_succ, i64_w, i32_w]
           rfl
          refine pure_ (i := 2) (N := some 28) (v := ?_) (a' := ?_) #[true, true, true, false, false, false, false, false, false, false, false, false, false, false, false] rfl rfl (any_of HT_.out (by kernel_rfl)) (fun _ _ _ h => h) (Or.inl ⟨by rfl, ?_⟩) ?_ ?_
          rotate_left
          ·intro w'
           go_simp
           with_reducible rfl
          rotate_left
          ·simp only [Act.put, List.setIfInBounds_toArray, List.set_cons_zero, List.set_cons_succ, i64_w, i32_w]
           rfl
          refine pure_ (i := 3) (N := some 29) (v := ?_) (a' := ?_) #[true, true, true, true, false, false, false, false, false, false, false, false, false, false, false] rfl rfl (any_of HT_.out (by kernel_rfl)) (fun _ _ _ h => h) (Or.inl ⟨by rfl, ?_⟩) ?_ ?_
          rotate_left
          ·intro w'
           go_simp
           with_reducible rfl
          rotate_left
          ·simp only [Act.put, List.setIfInBounds_toArray, List.set_cons_zero, List.set_cons_succ, i64_w, i32_w]
           rfl
          refine pure_ (i := 5) (N := some 31) (v := ?_) (a' := ?_) #[true, true, true, true, false, true, false, false, false, false, false, false, false, false, false] rfl rfl (any_of HT_.out (by kernel_rfl)) (fun _ _ _ h => h) (Or.inl ⟨by rfl, ?_⟩) ?_ ?_
          rotate_left
          ·intro w'
           go_simp
           with_reducible rfl
          rotate_left
          ·simp only [Act.put, List.setIfInBounds_toArray, List.set_cons_zero, List.set_cons_succ, i64_w, i32_w]
           rfl
          refine pure_ (i := 6) (N := some 32) (v := ?_) (a' := ?_) #[true, true, true, true, false, true, true, false, false, false, false, false, false, false, false] rfl rfl (any_of HT_.out (by kernel_rfl)) (fun _ _ _ h => h) (Or.inl ⟨by rfl, ?_⟩) ?_ ?_
          rotate_left
          ·intro w'
           go_simp
           with_reducible rfl
          rotate_left
          ·simp only [Act.put, List.setIfInBounds_toArray, List.set_cons_zero, List.set_cons_succ, i64_w, i32_w]
           rfl
          refine pure_ (i := 7) (N := some 33) (v := ?_) (a' := ?_) #[true, true, true, true, false, true, true, true, false, false, false, false, false, false, false] rfl rfl (any_of HT_.out (by kernel_rfl)) (fun _ _ _ h => h) (Or.inl ⟨by rfl, ?_⟩) ?_ ?_
          rotate_left
          ·intro w'
           go_simp
           with_reducible rfl
          rotate_left
          ·simp only [Act.put, List.setIfInBounds_toArray, List.set_cons_zero, List.set_cons_succ, i64_w, i32_w]
           rfl
          refine pure_ (i := 8) (N := some 34) (v := ?_) (a' := ?_) #[true, true, true, true, false, true, true, true, true, false, false, false, false, false, false] rfl rfl (any_of HT_.out (by kernel_rfl)) (fun _ _ _ h => h) (Or.inl ⟨by rfl, ?_⟩) ?_ ?_
          rotate_left
          ·intro w'
           go_simp
           with_reducible rfl
          rotate_left
          ·simp only [Act.put, List.setIfInBounds_toArray, List.set_cons_zero, List.set_cons_succ, i64_w, i32_w]
           rfl
          refine take_ (i := 4) (N := some 30) (v := ?_) (a' := ?_) #[true, true, true, true, true, true, true, true, true, false, false, false, false, false, false] rfl rfl (take_ofW HT_.out HW_.out (by kernel_rfl)) (fun _ _ _ h => h) (Or.inl ⟨by rfl, ?_⟩) hHeld ?_ ?_
          rotate_left
          ·rintro w' ⟨s0, s1⟩
           go_simp
           with_reducible rfl
          rotate_left
          ·simp only [Act.put, List.setIfInBounds_toArray, List.set_cons_zero, List.set_cons_succ, i64_w, i32_w]
           rfl
          refine take_ (i := 9) (N := some 35) (v := ?_) (a' := ?_) #[true, true, true, true, true, true, true, true, true, true, false, false, false, false, false] rfl rfl (take_ofW HT_.out HW_.out (by kernel_rfl)) (fun _ _ _ h => h) (Or.inl ⟨by rfl, ?_⟩) hHeld ?_ ?_
          rotate_left
          ·rintro w' ⟨s0, s1⟩
           go_simp
           with_reducible rfl
          rotate_left
          ·simp only [Act.put, List.setIfInBounds_toArray, List.set_cons_zero, List.set_cons_succ, i64_w, i32_w]
           rfl
          refine one_ (i := 10) (N := some 36) #[true, true, true, true, true, true, true, true, true, true, true, false, false, false, false] rfl rfl (one_of HT_.out (by kernel_rfl)) (by decide) (fun K hK => ?_)
          refine goes_ Tryd.func104 (by kernel_rfl) rfl #[.int .u8 t198, .int .u8 (rd l1 x9_1)] (by rfl) rfl rfl (by (try simp only [List.map_toArray, List.map_cons, List.map_nil]); first | done | rfl | (simp only [List.length_drop, List.length_take]; rfl)) ?_
          with_reducible refine (quietusref04_Mul.calls k1 t198 (rd l1 x9_1) t201 _ ?side1 A13.out).mono ?_
          (case side1 => exact HG.below HGw.out (by repeat (first | (with_reducible first | exact HB.out | apply below_alloc | apply pw_below_drewN | apply below_drew1) | exact HB.out)))
          rintro e w' ⟨rfl, ⟨nd, rfl⟩⟩
          refine ⟨_, rfl, ?_⟩
          refine hK.out _ _ ⟨((HB.out.cell (World.block_lt_of_cell? w _ hw199_0)).trans hw199_0), ((HB.out.cell (World.block_lt_of_cell? w _ hw200_0)).trans hw200_0)⟩ (fun hHeld => ?_)
          clear hK K
          refine norm_ (a' := ?_) ?_ ?_
          rotate_left
          ·show Act.put _ (some 36) _ = _
           simp only [Act.put, List.setIfInBounds_toArray, List.set_cons_zero, List.set_cons_succ, i64_w, i32_w]
           rfl
          refine pure_ (i := 11) (N := some 37) (v := ?_) (a' := ?_) #[true, true, true, true, true, true, true, true, true, true, true, true, false, false, false] rfl rfl (any_of HT_.out (by kernel_rfl)) (fun _ _ _ h => h) (Or.inl ⟨by rfl, ?_⟩) ?_ ?_
          rotate_left
          ·intro w'
           go_simp
           with_reducible rfl
          rotate_left
          ·simp only [Act.put, List.setIfInBounds_toArray, List.set_cons_zero, List.set_cons_succ, i64_w, i32_w]
           rfl
          refine one_ (i := 12) (N := some 38) #[true, true, true, true, true, true, true, true, true, true, true, true, true, false, false] rfl rfl (one_of HT_.out (by kernel_rfl)) (by decide) (fun K hK => ?_)
          refine value_ (w1 := ?_) (v := ?_) (by rfl) rfl ?_ ?_
          rotate_left 2
          ·go_simp
           constructor
           ·rfl
           ·rfl
          refine hK.out _ _ ⟨(World.cell?_alloc_lt _ _ _ (World.block_lt_of_cell? _ _ (((HB.out.cell (World.block_lt_of_cell? w _ hw199_0)).trans hw199_0)))).trans (((HB.out.cell (World.block_lt_of_cell? w _ hw199_0)).trans hw199_0)), (World.cell?_alloc_lt _ _ _ (World.block_lt_of_cell? _ _ (((HB.out.cell (World.block_lt_of_cell? w _ hw200_0)).trans hw200_0)))).trans (((HB.out.cell (World.block_lt_of_cell? w _ hw200_0)).trans hw200_0))⟩ (fun hHeld => ?_)
          clear hK K
          refine norm_ (a' := ?_) ?_ ?_
          rotate_left
          ·show Act.put _ (some 38) _ = _
           simp only [Act.put, List.setIfInBounds_toArray, List.set_cons_zero, List.set_cons_succ, i64_w, i32_w]
           rfl
          refine one_ (i := 13) (N := some 39) #[true, true, true, true, true, true, true, true, true, true, true, true, true, true, false] rfl rfl (one_of HT_.out (by kernel_rfl)) (by decide) (fun K hK => ?_)
          refine Kd.R_append_step (Kd.int .u8) (w0 := w) w.heap.size (by rfl) (.tmp 26) (.tmp 38) 57 5 (.int .u8 0) 1 rfl Tryd.underlying57 info5 rfl (by decide) (by omega) u8 x8_1 (Go.bits .xor .u8 (rd l0 x9_1) t201) [.int .u8 (Go.bits .xor .u8 (rd l0 x9_1) t201)] (fun _ => True) (fun _ => False) rfl rfl ?aP (fun _ hk => hk.elim) ?aF ?aO ?aB ?aS ?aL ?_
          (case aP => exact rfl)
          (case aB => exact (by repeat (first | (with_reducible first | exact HB.out | apply below_alloc | apply pw_below_drewN | apply below_drew1) | exact HB.out)))
          (case aF => exact (fun _ _ => trivial))
          (case aO => exact (by (with_reducible repeat (first | apply Kd.R_alloc | apply Kd.R_drewN | apply Kd.R_drew)); exact HO_8.out))
          (case aS => exact (below_size (by repeat (first | (with_reducible first | exact HB.out | apply below_alloc | apply pw_below_drewN | apply below_drew1) | exact HB.out))))
          (case aL => have := LMc14.out; omega)
          intro v203 w16 ho hb hg hat
          rw [← Ny202.out] at ho
          have n0_ := Aside0.mk (hb)
          have n1_ := Aside0.mk (ho)
          clear HB
          clear HO_8
          have HB := n0_
          have HO204 := n1_
          clear n0_ n1_
          clear ho hb hg hat
          refine hK.out _ _ ⟨((HB.out.cell (World.block_lt_of_cell? w _ hw199_0)).trans hw199_0), ((HB.out.cell (World.block_lt_of_cell? w _ hw200_0)).trans hw200_0)⟩ (fun hHeld => ?_)
          clear hK K
          refine norm_ (a' := ?_) ?_ ?_
          rotate_left
          ·show Act.put _ (some 39) _ = _
           simp only [Act.put, List.setIfInBounds_toArray, List.set_cons_zero, List.set_cons_succ, i64_w, i32_w]
           rfl
          refine pure_ (i := 14) (N := some 8) (v := ?_) (a' := ?_) #[true, true, true, true, true, true, true, true, true, true, true, true, true, true, true] rfl rfl (any_of HT_.out (by kernel_rfl)) (fun _ _ _ h => h) (Or.inl ⟨by rfl, ?_⟩) ?_ ?_
          rotate_left
          ·intro w'
           go_simp
           with_reducible rfl
          rotate_left
          ·simp only [Act.put, List.setIfInBounds_toArray, List.set_cons_zero, List.set_cons_succ, i64_w, i32_w]
           rfl
          refine done_ (done_of HT_.out (by kernel_rfl)) ?_
          try go_wp2
          go_roundg k1
          case measure => have := HK1.out; omega
          case rel => exact ⟨(y202), (wrap64 (x9_1 + 1)), (by first | rfl | (simp; done) | (simp [*]; done)), H', ⟨by have := HK1.out; omega⟩, ⟨by (with_reducible repeat (first | apply Kd.R_alloc | apply Kd.R_drewN | apply Kd.R_drew)); exact HO204.out⟩, ⟨by repeat (first | (with_reducible first | exact HB.out | apply below_alloc | apply pw_below_drewN | apply below_drew1) | exact HB.out)⟩⟩
         ·rw [if_neg c14] at H
          exact absurd H (by simp)
        ·rw [if_neg c12] at H
         exact absurd H (by simp)
       ·rw [if_neg c11] at H
        exact absurd H (by simp)
      ·rw [if_neg c10] at H
       have c10b0 : decide (x9_1 < (l0.length : Int)) = false := decide_eq_false c10
       clear c10
       obtain rfl := Option.some.inj H
       go_wp2
       go_ret
       exact ⟨_, by first | rfl | (simp [errW_none, errW_some] <;> rfl) | (simp [*, errW_none, errW_some] <;> rfl), by (with_reducible repeat (first | apply Kd.R_alloc | apply Kd.R_drewN | apply Kd.R_drew)); exact HO_8.out, by repeat (first | (with_reducible first | exact HB.out | apply below_alloc | apply pw_below_drewN | apply below_drew1) | exact HB.out)⟩
   ·rw [if_neg c6] at H
    exact absurd H (by simp)
  ·rw [if_neg c5] at H
   exact absurd H (by simp)
 ·rw [if_neg c4] at H
  exact absurd H (by simp)
end Go.Proofs.YtkadfidmfnpohaaDoor.XB
