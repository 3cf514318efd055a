/- Lemmas for the claim Enc: functions of the program as plain Lean functions, each with its contract, and what is proved of them. -/
import Derived.Test.YtkadfidmfnpohaaDoorQEnc0
import Derived.Test.YtkadfidmfnpohaaDoorQEnc2
import Derived.RangeFuncNested
import Derived.RangeFuncBound
import Derived.RangeFuncCalls
import Derived.RangeFuncLeaves
import Derived.RangeFuncFrom
import Derived.Shelf.Abstract
import Derived.Shelf.RegionOpen
import Derived.OwnWalkIn
import Derived.TacticsInMore
import Derived.LoopNIn
import Derived.LoopIn
import Derived.TacticsIn
import Derived.RegionIn
import Derived.Test.YtkadfidmfnpohaaDoorQEnc1
namespace Go.Proofs.YtkadfidmfnpohaaDoor.XB
open Go.RowKit Go.Proofs.YtkadfidmfnpohaaDoorW.PrintWords Go.Proofs.YtkadfidmfnpohaaDoorW.PrintLast Go.Proofs.YtkadfidmfnpohaaDoorW.PrintMore
attribute [local go_sem] max2_int min2_int max_two min_two max_three min_three max_four min_four   -- for this text's walks alone
set_option linter.unusedVariables false
set_option linter.unusedSimpArgs false

/-! ### code_Decode: function 28 -/
def sizesOk (mask size : Nat) (pieces : List ByteArray) : Bool := (List.range pieces.length).all fun k => decide ((mask >>> k) % 2 = 0) || decide ((rdOf ByteArray.empty pieces (k : Int)).size = size)
def agree (mask : Nat) (again pieces : List ByteArray) : Bool := (List.range pieces.length).all fun k => decide ((mask >>> k) % 2 = 0) || decide (rdOf ByteArray.empty again (k : Int) = rdOf ByteArray.empty pieces (k : Int))
def bounded (pieces : List ByteArray) : Bool := pieces.all fun s => decide (s.size ≤ 100000)
def joined (l : List ByteArray) : List Int := l.flatMap bytesOf
def fullOf (rows : List (List Int)) (st : St) : List Int := joined (solveRev (rowWidth rows) (sortSt (rowWidth rows) st))
def decodeWith (k : Nat) (a0_0 : Int) (l0_1 : List (List Int)) (a0_2 : Int) (rows : List (List Int)) (n mask : Nat) (pieces : List ByteArray) : Option St → Option (ByteArray × Int)
  | none => some (⟨#[]⟩, 17)
  | some st => if n ≤ (fullOf rows st).length then (code_Encode.f k a0_0 l0_1 a0_2 (strOfNums ((fullOf rows st).take n))).bind fun again =>
      if again.1.length = pieces.length then (if agree mask again.1 pieces = true then some (strOfNums ((fullOf rows st).take n), 0) else some (⟨#[]⟩, 14)) else none else none
def code_Decode.f (k : Nat) (a0_0 : Int) (l0_1 : List (List Int)) (a0_2 : Int) (a1 a2 : Int) (l3 : List ByteArray) : Option (ByteArray × Int) :=
  (code_Rows.f k a0_0 l0_1 a0_2).bind fun r => if r.2 = 0 then
    (if okRows r.1 = true ∧ 0 < r.1.length then if a1 < 0 ∨ 4096 < a1 ∨ a2 < 0 ∨ (2 : Int) ^ r.1.length ≤ a2 ∨ l3.length ≠ r.1.length then some (⟨#[]⟩, 1)
     else if bounded l3 = true then
       (code_Size.f k a0_0 l0_1 a0_2 a1).bind fun size => if 0 ≤ size ∧ size ≤ 4096 then (if sizesOk a2.toNat size.toNat l3 = true then decodeWith k a0_0 l0_1 a0_2 r.1 a1.toNat a2.toNat l3 (collectOk r.1 a2 l3) else some (⟨#[]⟩, 1)) else none
     else none else none)
  else some (⟨#[]⟩, r.2)
theorem ba_loop (bs : ByteArray) : ∀ (d i : Nat) (r : List UInt8), i + d = bs.size → ByteArray.toList.loop bs i r = r.reverse ++ bs.data.toList.drop i
  | 0, i, r, h => by
    unfold ByteArray.toList.loop
    rw [if_neg (by omega), List.drop_of_length_le (by rw [Array.length_toList]; show bs.size ≤ i; omega), List.append_nil]
  | d + 1, i, r, h => by
    have hi : i < bs.data.toList.length := by rw [Array.length_toList]; show i < bs.size; omega
    unfold ByteArray.toList.loop
    rw [if_pos (by omega), ba_loop bs d (i + 1) _ (by omega), List.drop_eq_getElem_cons hi, List.reverse_cons, List.append_assoc]
    have hg : bs.get! i = bs.data.toList[i] := by
      obtain ⟨a⟩ := bs
      have h2 : i < a.size := by simpa using hi
      show a[i]! = _
      simp [getElem!_pos a i h2]
    rw [hg]
    rfl
theorem ba_toList (bs : ByteArray) : bs.toList = bs.data.toList := by
  have := ba_loop bs bs.size 0 [] (by omega)
  simpa [ByteArray.toList] using this
theorem ba_inj {a b : ByteArray} : a.toList = b.toList ↔ a = b := by
  rw [ba_toList, ba_toList]
  constructor
  · intro h
    exact ByteArray.ext (Array.toList_inj.1 h)
  · rintro rfl; rfl
theorem sizesOk_iff {mask size : Nat} {pieces : List ByteArray} : sizesOk mask size pieces = true ↔ ∀ k, k < pieces.length → (mask >>> k) % 2 = 1 → (rdOf ByteArray.empty pieces (k : Int)).size = size := by
  simp only [sizesOk, List.all_eq_true, List.mem_range, Bool.or_eq_true, decide_eq_true_eq]
  exact ⟨fun h k hk hb => (h k hk).resolve_left (by omega), fun h k hk => by by_cases hb : (mask >>> k) % 2 = 1; exact .inr (h k hk hb); exact .inl (by omega)⟩
theorem agree_iff {mask : Nat} {again pieces : List ByteArray} : agree mask again pieces = true ↔ ∀ k, k < pieces.length → (mask >>> k) % 2 = 1 → rdOf ByteArray.empty again (k : Int) = rdOf ByteArray.empty pieces (k : Int) := by
  simp only [agree, List.all_eq_true, List.mem_range, Bool.or_eq_true, decide_eq_true_eq]
  exact ⟨fun h k hk hb => (h k hk).resolve_left (by omega), fun h k hk => by by_cases hb : (mask >>> k) % 2 = 1; exact .inr (h k hk hb); exact .inl (by omega)⟩
theorem bounded_rd {pieces : List ByteArray} (h : bounded pieces = true) (k : Nat) : (rdOf ByteArray.empty pieces (k : Int)).size ≤ 100000 := by
  have h : AllLe 100000 pieces := fun s hs => of_decide_eq_true (List.all_eq_true.1 h s hs)
  exact h.rd k
theorem bit_eq (mask j : Nat) (hm : mask < 2 ^ 24) : Go.bits .and .i64 ((mask : Int) / 2 ^ j) 1 = ((mask >>> j % 2 : Nat) : Int) := by
  rw [show ((mask : Int) / 2 ^ j) = ((mask >>> j : Nat) : Int) by rw [Nat.shiftRight_eq_div_pow]; simp, i64_and1 _ (by have := Nat.shiftRight_le mask j; omega)]
theorem collectOk_wf {M : Nat} {rows : List (List Int)} {mask : Int} {pieces : List ByteArray} {st : St} (hwf : ∀ k, k < rows.length → WfRow (rowWidth rows) M (rd_L4 rows (k : Int), rdOf ByteArray.empty pieces (k : Int))) (h : collectOk rows mask pieces = some st) : WfSt (rowWidth rows) M st ∧ st.length ≤ rowWidth rows := by
  unfold collectOk at h
  split at h
  · cases h
  · split at h
    · cases h
    · obtain rfl := Option.some.inj h
      exact ⟨collectUpto_wf hwf _ (Nat.le_refl _), collectUpto_length _ _ _ _ _⟩
theorem joined_snoc (l : List ByteArray) (s : ByteArray) : joined (l ++ [s]) = joined l ++ bytesOf s := by simp [joined]
theorem joined_length {M : Nat} : ∀ {l : List ByteArray}, AllLe M l → (joined l).length ≤ l.length * M
  | [], _ => Nat.zero_le _
  | a :: l, h => by
    have ih := joined_length (l := l) (fun s hs => h s (List.mem_cons_of_mem _ hs))
    have ha := h a (List.mem_cons_self)
    show (bytesOf a ++ joined l).length ≤ _
    rw [List.length_append, bytesOf_length, List.length_cons, Nat.succ_mul]
    omega
set_option maxHeartbeats 4000000 in
set_option maxRecDepth 100000 in
theorem code_Decode.calls (k : Nat) (a0_0 : Int) (A0_1 : Option Addr) (c0_1 : Nat) (l0_1 : List (List Int)) (a0_2 : Int) (a1 a2 : Int) (A3 : Option Addr) (c3 : Nat) (l3 : List ByteArray) (r1 : ByteArray) (r2 : Int) (w : World) (hG : HG w) (hr0_1 : Kd.C (Kd.slice 3 (Kd.int .i64)) w A0_1 l0_1.length l0_1) (hc0_1 : l0_1.length ≤ c0_1) (hr3 : Kd.C Kd.string w A3 l3.length l3) (hc3 : l3.length ≤ c3) (h : code_Decode.f k a0_0 l0_1 a0_2 a1 a2 l3 = some (r1, r2)) :
    Calls Tryd.prog 28 #[.agg #[.int .i64 a0_0, .slice A0_1 l0_1.length c0_1, .int .i64 a0_2], .int .i64 a1, .int .i64 a2, .slice A3 l3.length c3] w fun e w' => e = .returned (.tuple #[.string r1, .int .i64 r2]) ∧ Below w.heap.size w w' := by
  obtain ⟨⟨rows, e0⟩, hrows, h2⟩ := Option.bind_eq_some_iff.1 h
  have HRW := Aside0.mk (fun W (hb : Below w.heap.size w W) => code_Rows.calls k a0_0 A0_1 c0_1 l0_1 a0_2 rows e0 W (hG.below hb) (Kd.C_below hr0_1 hb) hc0_1 hrows)
  have hu24 := Tryd.underlying24
  clear hrows h
  by_cases he0 : e0 = 0
  · subst he0
    rw [if_pos rfl] at h2
    dsimp only at h2
    by_cases hok : okRows rows = true ∧ 0 < rows.length
    · rw [if_pos hok] at h2
      obtain ⟨hok, hpos⟩ := hok
      obtain ⟨h3, h4, h5, h6⟩ := okRows_iff hok
      have hw1 : wrap64 ((2 : Int) ^ rows.length) = 2 ^ rows.length := by
        have h1 : 2 ^ rows.length ≤ 2 ^ 24 := Nat.pow_le_pow_right (by decide) h3
        have h2 : ((2 : Int) ^ rows.length) = ((2 ^ rows.length : Nat) : Int) := by simp
        rw [h2]
        generalize 2 ^ rows.length = z at h1
        unfold wrap64; omega
      by_cases hbad : a1 < 0 ∨ 4096 < a1 ∨ a2 < 0 ∨ (2 : Int) ^ rows.length ≤ a2 ∨ l3.length ≠ rows.length
      · rw [if_pos hbad] at h2
        obtain ⟨rfl, rfl⟩ := Prod.mk.inj (Option.some.inj h2)
        clear h2 hr0_1 hG hr3
        by_cases b1 : a1 < 0
        · clear hw1 hbad
          go_enter Tryd.func28, Tryd.ntmps28
          go_wp2_with (go_at_call 17; (with_reducible refine (HRW.out _ (by repeat (first | exact Below.refl _ _ | apply below_alloc))).mono ?_); rintro e w1 ⟨v0, rfl, hS, hb1⟩; obtain ⟨Ar, cr, rfl, hcr, hCr⟩ := Kd.S_reads hS; have HB1 := Aside0.mk (below_step (below_alloc (Below.refl w.heap.size w) _) hb1); clear hb1 hS hCr)
          go_ret2
          exact ⟨rfl, HB1.out⟩
        · by_cases b2 : 4096 < a1
          · clear hw1 hbad
            go_enter Tryd.func28, Tryd.ntmps28
            go_wp2_with (go_at_call 17; (with_reducible refine (HRW.out _ (by repeat (first | exact Below.refl _ _ | apply below_alloc))).mono ?_); rintro e w1 ⟨v0, rfl, hS, hb1⟩; obtain ⟨Ar, cr, rfl, hcr, hCr⟩ := Kd.S_reads hS; have HB1 := Aside0.mk (below_step (below_alloc (Below.refl w.heap.size w) _) hb1); clear hb1 hS hCr)
            go_ret2
            exact ⟨rfl, HB1.out⟩
          · by_cases b3 : a2 < 0
            · clear hw1 hbad
              go_enter Tryd.func28, Tryd.ntmps28
              go_wp2_with (go_at_call 17; (with_reducible refine (HRW.out _ (by repeat (first | exact Below.refl _ _ | apply below_alloc))).mono ?_); rintro e w1 ⟨v0, rfl, hS, hb1⟩; obtain ⟨Ar, cr, rfl, hcr, hCr⟩ := Kd.S_reads hS; have HB1 := Aside0.mk (below_step (below_alloc (Below.refl w.heap.size w) _) hb1); clear hb1 hS hCr)
              go_ret2
              exact ⟨rfl, HB1.out⟩
            · by_cases b4 : (2 : Int) ^ rows.length ≤ a2
              · have hb1 : decide (wrap64 ((2 : Int) ^ rows.length) ≤ a2) = true := decide_eq_true (by rw [hw1]; exact b4)
                clear hw1 hbad b4
                go_enter Tryd.func28, Tryd.ntmps28
                go_wp2_with (go_at_call 17; (with_reducible refine (HRW.out _ (by repeat (first | exact Below.refl _ _ | apply below_alloc))).mono ?_); rintro e w1 ⟨v0, rfl, hS, hb1⟩; obtain ⟨Ar, cr, rfl, hcr, hCr⟩ := Kd.S_reads hS; have HB1 := Aside0.mk (below_step (below_alloc (Below.refl w.heap.size w) _) hb1); clear hb1 hS hCr)
                go_ret2
                exact ⟨rfl, HB1.out⟩
              · have hb1 : decide (wrap64 ((2 : Int) ^ rows.length) ≤ a2) = false := decide_eq_false (by rw [hw1]; exact b4)
                have b5 : l3.length ≠ rows.length := by
                  rcases hbad with h | h | h | h | h
                  · exact absurd h b1
                  · exact absurd h b2
                  · exact absurd h b3
                  · exact absurd h b4
                  · exact h
                have hb2 : ((l3.length : Int) == (rows.length : Int)) = false := beq_eq_false_iff_ne.2 (by omega)
                have hb3 : (l3.length == rows.length) = false := beq_eq_false_iff_ne.2 b5
                have hb4 : ((l3.length : Int) != (rows.length : Int)) = true := bne_iff_ne.2 (by omega)
                clear hw1 hbad b4
                go_enter Tryd.func28, Tryd.ntmps28
                go_wp2_with (go_at_call 17; (with_reducible refine (HRW.out _ (by repeat (first | exact Below.refl _ _ | apply below_alloc))).mono ?_); rintro e w1 ⟨v0, rfl, hS, hb1⟩; obtain ⟨Ar, cr, rfl, hcr, hCr⟩ := Kd.S_reads hS; have HB1 := Aside0.mk (below_step (below_alloc (Below.refl w.heap.size w) _) hb1); clear hb1 hS hCr)
                go_ret2
                exact ⟨rfl, HB1.out⟩
      · rw [if_neg hbad] at h2
        have b1 : 0 ≤ a1 := by omega
        have b2 : a1 ≤ 4096 := by omega
        have b3 : 0 ≤ a2 := by omega
        have b5 : l3.length = rows.length := by omega
        have b4 : ¬ (2 : Int) ^ rows.length ≤ a2 := fun h => hbad (.inr (.inr (.inr (.inl h))))
        have hb1 : decide (wrap64 ((2 : Int) ^ rows.length) ≤ a2) = false := decide_eq_false (by rw [hw1]; exact b4)
        clear hw1 hbad
        by_cases hbd : bounded l3 = true
        · rw [if_pos hbd] at h2
          obtain ⟨size0, hsz, h7⟩ := Option.bind_eq_some_iff.1 h2
          by_cases hsp : 0 ≤ size0 ∧ size0 ≤ 4096
          · rw [if_pos hsp] at h7
            obtain ⟨n, rfl⟩ := Int.eq_ofNat_of_zero_le b1
            obtain ⟨mask, rfl⟩ := Int.eq_ofNat_of_zero_le b3
            obtain ⟨size, rfl⟩ := Int.eq_ofNat_of_zero_le hsp.1
            simp only [Int.toNat_natCast] at h7
            have HSZ := Aside0.mk (fun W (hb : Below w.heap.size w W) => code_Size.calls k a0_0 A0_1 c0_1 l0_1 a0_2 (n : Int) (size : Int) W (hG.below hb) (Kd.C_below hr0_1 hb) hc0_1 hsz)
            have hmk : mask < 2 ^ 24 := by
              have h1 : 2 ^ rows.length ≤ 2 ^ 24 := Nat.pow_le_pow_right (by decide) h3
              have h2 : ((2 : Int) ^ rows.length) = ((2 ^ rows.length : Nat) : Int) := by simp
              rw [h2] at b4
              omega
            have hsz4 : size ≤ 4096 := by omega
            have HH := Aside0.mk h7
            have HP3 := Aside0.mk (show ∀ W, Below w.heap.size w W → Kd.string.C W A3 rows.length l3 from fun W hb => by rw [← b5]; exact Kd.C_below hr3 hb)
            have HGw := Aside0.mk hG
            have HCE := Aside0.mk (fun W (hb : Below w.heap.size w W) => Kd.C_below hr0_1 hb)
            have HBD := Aside0.mk hbd
            have H6 := Aside0.mk h6
            have HB5 := Aside0.mk b5
            have hc3' : rows.length ≤ c3 := by omega
            have hbn : ((rows.length : Int) == (rows.length : Int)) = true := beq_self_eq_true _
            have hbm : ((rows.length : Int) != (rows.length : Int)) = false := by simp
            rw [b5]
            clear h7 h2 hr3 hG hr0_1 hok hsp hsz b4 b1 b3 hbd h6 b5 hc3
            go_enter Tryd.func28, Tryd.ntmps28
            go_wp2_with (first | (go_at_call 17; (with_reducible refine (HRW.out _ (by repeat (first | exact Below.refl _ _ | apply below_alloc))).mono ?_); rintro e w1 ⟨v0, rfl, hS, hb1⟩; obtain ⟨Ar, cr, rfl, hcr, hCr⟩ := Kd.S_reads hS; have HCR := Aside0.mk hCr; have hbc : w1.heap[w.heap.size]? = some (.cells #[.int .i64 a0_0, .slice A0_1 l0_1.length c0_1, .int .i64 a0_2] 24 (0, 0)) := blk_below (blk_new w _) hb1; have HBC := Aside0.mk hbc; have HB1 := Aside0.mk (below_step (below_alloc (Below.refl w.heap.size w) _) hb1); have hcz0 : w1.cell? ⟨w.heap.size, 0, none⟩ = some (.int .i64 a0_0) := blk_cell hbc 0; have hcz1 : w1.cell? ⟨w.heap.size, 1, none⟩ = some (.slice A0_1 l0_1.length c0_1) := blk_cell hbc 1; have hcz2 : w1.cell? ⟨w.heap.size, 2, none⟩ = some (.int .i64 a0_2) := blk_cell hbc 2; have hlt1 : w.heap.size < w1.heap.size := blk_lt hbc; clear hbc hb1 hS hCr) | (go_at_call 23; (with_reducible refine (HSZ.out _ HB1.out).mono ?_); rintro e w2 ⟨rfl, hb2⟩; have HBC2 := Aside0.mk (blk_below HBC.out hb2); have HCR2 := Aside0.mk (Kd.C_below HCR.out hb2); have HB2 := Aside0.mk (below_step HB1.out hb2); clear hb2))
            clear hcz0 hcz1 hcz2
            go_loop [60] (fun v => ∃ j : Nat, j ≤ rows.length ∧ v = .int .i64 (j : Int) ∧ Aside0 (∀ i, i < j → (mask >>> i) % 2 = 1 → (rdOf ByteArray.empty l3 (i : Int)).size = size)) (fun v => rows.length - (intOf v).toNat)
            case atStart => exact ⟨0, Nat.zero_le _, rfl, ⟨fun i hi => absurd hi (Nat.not_lt_zero i)⟩⟩
            case round =>
              obtain ⟨j, hj, rfl, HA⟩ := hrel
              by_cases hlt : j < rows.length
              · obtain ⟨ad3, rfl, hx⟩ := at_string_nat (HP3.out _ HB2.out) j hlt
                have hB1 := bit_eq mask j hmk
                have hm2 : (mask >>> j) % 2 < 2 := Nat.mod_lt _ (by decide)
                generalize hpt : rdOf ByteArray.empty l3 (j : Int) = pt at hx
                generalize hbt : (mask >>> j) % 2 = bit at hB1 hm2
                have HPT := Aside0.mk hpt
                have HBT := Aside0.mk hbt
                clear hpt hbt
                by_cases hbit : bit = 1
                · subst hbit
                  by_cases hsw : pt.size = size
                  · subst hsw
                    have hz1 : ((pt.size : Int) != (pt.size : Int)) = false := by simp
                    go_wp2
                    go_round
                    case rel => exact ⟨j + 1, by omega, by go_num, ⟨fun i hi hb => by
                      rcases Nat.lt_or_eq_of_le (Nat.le_of_lt_succ hi) with hi | rfl
                      · exact HA.out i hi hb
                      · rw [HPT.out]⟩⟩
                    case measure => simp [intOf]; omega
                  · have hz1 : ((pt.size : Int) == (size : Int)) = false := beq_eq_false_iff_ne.2 (by omega)
                    have hz2 : (pt.size == size) = false := beq_eq_false_iff_ne.2 hsw
                    have hz3 : ((pt.size : Int) != (size : Int)) = true := bne_iff_ne.2 (by omega)
                    have hns : ¬ sizesOk mask size l3 = true := fun h => hsw (by rw [← HPT.out]; exact sizesOk_iff.1 h j (by rw [HB5.out]; exact hlt) HBT.out)
                    have h7 := HH.out
                    rw [if_neg hns] at h7
                    obtain ⟨rfl, rfl⟩ := Prod.mk.inj (Option.some.inj h7)
                    clear h7 hns HH
                    go_wp2
                    go_ret2
                    exact ⟨rfl, HB2.out⟩
                · obtain rfl : bit = 0 := by omega
                  go_wp2
                  go_round
                  case rel => exact ⟨j + 1, by omega, by go_num, ⟨fun i hi hb => by
                    rcases Nat.lt_or_eq_of_le (Nat.le_of_lt_succ hi) with hi | rfl
                    · exact HA.out i hi hb
                    · have := HBT.out; omega⟩⟩
                  case measure => simp [intOf]; omega
              · obtain rfl : j = rows.length := by omega
                have hso : sizesOk mask size l3 = true := sizesOk_iff.2 (by rw [HB5.out]; exact HA.out)
                have h7 := HH.out
                rw [if_pos hso] at h7
                have HWF := Aside0.mk (show ∀ k, k < rows.length → WfRow (rowWidth rows) 100000 (rd_L4 rows (k : Int), rdOf ByteArray.empty l3 (k : Int)) from fun k hk => ⟨(H6.out k hk).1, (H6.out k hk).2, bounded_rd HBD.out k⟩)
                have HCO := Aside0.mk (show Calls Tryd.prog 67 #[.slice Ar rows.length cr, .int .i64 (mask : Int), .slice A3 rows.length c3] w2 fun e w' => Below w2.heap.size w2 w' ∧ ((collectOk rows mask l3 = none ∧ e = .returned (.pointer none)) ∨ ∃ gs st, collectOk rows mask l3 = some st ∧ e = .returned (.pointer (some ⟨gs, 0, none⟩)) ∧ StairsAt gs w2.heap.size (rowWidth rows) w' st) from by
                  have hA : A3.isSome = true := by
                    obtain ⟨ad, e, _⟩ := at_string_nat (HP3.out _ HB2.out) 0 hpos
                    rw [e]; rfl
                  have h8 := code_collect.calls 100000 w2 Ar cr rows (mask : Int) A3 c3 l3 (HGw.out.below HB2.out) HCR2.out hcr h3 h4 h5 (by decide) (by rw [HB5.out]; exact HP3.out _ HB2.out) (by rw [HB5.out]; exact hc3') (.inr ⟨hA, Nat.le_of_eq HB5.out.symm⟩) HWF.out
                  rw [HB5.out] at h8
                  exact h8)
                clear HH hso
                cases hco : collectOk rows (mask : Int) l3 with
                | none =>
                  rw [hco] at h7 HCO
                  obtain ⟨rfl, rfl⟩ := Prod.mk.inj (Option.some.inj h7)
                  clear h7 hco
                  have hup := Tryd.underlying96
                  go_wp2_with (go_at_call 67; (with_reducible refine HCO.out.mono ?_); rintro e w3 ⟨hb3, hor⟩; have HB3 := Aside0.mk (below_step HB2.out hb3); clear hb3; rcases hor with ⟨_, rfl⟩ | ⟨gs, st, hn, _⟩; (rotate_left; exact absurd hn (by simp)))
                  go_ret2
                  exact ⟨rfl, HB3.out⟩
                | some st =>
                  have hcw := collectOk_wf HWF.out hco
                  rw [hco] at h7 HCO
                  clear hco
                  unfold decodeWith at h7
                  dsimp only at h7
                  by_cases hnf : n ≤ (fullOf rows st).length
                  · rw [if_pos hnf] at h7
                    obtain ⟨⟨again, e1⟩, hen, h8⟩ := Option.bind_eq_some_iff.1 h7
                    dsimp only at h8
                    by_cases hal : again.length = l3.length
                    · rw [if_pos hal] at h8
                      obtain ⟨hcw1, hcw2⟩ := hcw
                      have hD := solveRev_le (M := 100000) (width := rowWidth rows) (l := sortSt (rowWidth rows) st) (fun x hx => (hcw1 x (sortUpto_mem hx)).1.2.2)
                      have hDl := solveRev_length (rowWidth rows) (sortSt (rowWidth rows) st)
                      have hfu : fullOf rows st = joined (solveRev (rowWidth rows) (sortSt (rowWidth rows) st)) := rfl
                      have HSO := Aside0.mk (fun gs W (hb : Below w.heap.size w W) (hS : StairsRd gs (rowWidth rows) W st) => code_stairs_sorted.calls gs (rowWidth rows) 100000 W st (HGw.out.below hb) hS hcw1 (by omega) (by omega) (by decide))
                      generalize solveRev (rowWidth rows) (sortSt (rowWidth rows) st) = D at hD hDl hfu HSO
                      generalize hF : fullOf rows st = full at hnf hen h8 hfu
                      have HEN := Aside0.mk (fun W (hb : Below w.heap.size w W) => code_Encode.calls k a0_0 A0_1 c0_1 l0_1 a0_2 (strOfNums (full.take n)) again e1 W (HGw.out.below hb) (HCE.out W hb) hc0_1 hen)
                      have H8 := Aside0.mk h8
                      have HD := Aside0.mk hD
                      have HDL := Aside0.mk hDl
                      have HFU := Aside0.mk hfu
                      have HAL := Aside0.mk (hal.trans HB5.out)
                      have hup := Tryd.underlying96
                      have hDw : D.length ≤ 16 := by omega
                      clear h7 h8 hen hal hcw1 hcw2 hD hDl hfu hF
                      go_wp2_with (first | (go_at_call 67; (with_reducible refine HCO.out.mono ?_); rintro e w3 ⟨hb3, hor⟩; rcases hor with ⟨hn, _⟩ | ⟨gs, st2, hn, rfl, hS⟩; (exact absurd hn (by simp)); obtain rfl := Option.some.inj hn; have HBC3 := Aside0.mk (blk_below HBC2.out hb3); have HB3 := Aside0.mk (below_step HB2.out hb3); have HS := Aside0.mk hS.rd; clear hb3 hn hS) | (go_at_call 68; (with_reducible refine (HSO.out gs w3 HB3.out HS.out).mono ?_); rintro e w4 ⟨v4, rfl, hR4, hb4⟩; obtain ⟨A4, c4, rfl, hc4, hC4⟩ := Kd.R_reads hR4; have HC4 := Aside0.mk hC4; have HBC4 := Aside0.mk (blk_below HBC3.out hb4); have HB4 := Aside0.mk (below_step HB3.out hb4); clear hb4 hR4 hC4))
                      have hi5 : (Tryd.prog.info? 5).map (·.size) = some 1 := by
                        have := congrArg (Option.map (fun x : Option Value × Nat × Nat => x.2.1)) info5
                        rw [Option.map_map] at this
                        exact this
                      obtain ⟨i5, hi5a, _⟩ := Option.map_eq_some_iff.1 hi5
                      have HI5 := Aside0.mk hi5a
                      clear hi5 hi5a
                      go_loopw [16, 86] (fun v x W => ∃ m : Nat, m ≤ D.length ∧ x = .int .i64 (m : Int) ∧ Aside0 ((Kd.int .u8).R 5 W w4.heap.size (fun _ => True) v (joined (D.take m))) ∧ Aside0 (Below w4.heap.size w4 W)) (fun _ x _ => D.length - (intOf x).toNat)
                      case atStart => exact ⟨0, Nat.zero_le _, rfl, ⟨by rw [List.take_zero]; exact Kd.R_nil _ _ _ _ _⟩, ⟨Below.refl _ _⟩⟩
                      case round =>
                        obtain ⟨m, hm, rfl, HR, HB⟩ := hrel
                        by_cases hltm : m < D.length
                        · obtain ⟨ad4, rfl, hx4⟩ := at_string_nat (Kd.C_below HC4.out HB.out) m hltm
                          have HJ := Aside0.mk (show joined (D.take (m + 1)) = joined (D.take m) ++ bytesOf (rdOf ByteArray.empty D (m : Int)) by
                            rw [List.take_succ_eq_append_getElem hltm, joined_snoc]
                            simp [rdOf, List.getD_eq_getElem?_getD, List.getElem?_eq_getElem hltm])
                          have hsz := HD.out.rd m
                          have hjl := joined_length (M := 100000) (l := D.take m) (fun s hs => HD.out s (List.mem_of_mem_take hs))
                          have hjl2 : (D.take m).length * 100000 ≤ 16 * 100000 := Nat.mul_le_mul_right _ (by rw [List.length_take]; omega)
                          generalize rdOf ByteArray.empty D (m : Int) = s4 at hx4 HJ hsz
                          have HJL := Aside0.mk (show (joined (D.take m)).length + s4.size ≤ 140737488355328 by omega)
                          clear hjl hjl2
                          go_wp2_with (at_builtin; refine print_append_str (w0 := w4) w4.heap.size rfl (.tmp 90) (.tmp 91) 57 9 5 rfl Tryd.underlying57 Tryd.underlying9 info5 u16 (joined (D.take m)) s4 rfl rfl ?oO ?oB ?oS ?oL ?_; (case oO => exact Kd.own_of_R HR.out); (case oB => exact HB.out); (case oS => exact HB.out.size); (case oL => exact HJL.out); intro v5 w5 ho hb hg; have HO5 := Aside0.mk ho; have HB5' := Aside0.mk hb; clear ho hb hg)
                          go_roundw
                          case rel => exact ⟨m + 1, by omega, by go_num, ⟨by rw [HJ.out]; exact Kd.R_of_own HO5.out (fun _ _ => trivial)⟩, HB5'⟩
                          case measure => simp [intOf]; omega
                        · obtain rfl : m = D.length := by omega
                          have hR := HR.out
                          rw [List.take_length, ← HFU.out] at hR
                          obtain ⟨Af, cf, rfl, hcf, hCf⟩ := Kd.R_reads hR
                          have hcut := cut_to (P := Tryd.prog) 57 5 .i64 Tryd.underlying57 HI5.out Af full.length cf (n : Int) (by omega) (by omega) hcf
                          rw [Int.toNat_natCast] at hcut
                          have hC := Kd.C_take (m := n) hCf hnf
                          have hcv := Kd.C_string (P := Tryd.prog) (c := cf) Tryd.underlying57 Tryd.underlying5 Tryd.underlying9 hC
                          rw [List.length_take, Nat.min_eq_left hnf] at hcv
                          have HBx := Aside0.mk (below_step HB4.out HB.out)
                          have hbc := blk_below HBC4.out HB.out
                          have hcz0 : wr.cell? ⟨w.heap.size, 0, none⟩ = some (.int .i64 a0_0) := blk_cell hbc 0
                          have hcz1 : wr.cell? ⟨w.heap.size, 1, none⟩ = some (.slice A0_1 l0_1.length c0_1) := blk_cell hbc 1
                          have hcz2 : wr.cell? ⟨w.heap.size, 2, none⟩ = some (.int .i64 a0_2) := blk_cell hbc 2
                          clear hR hC
                          have hcv1 : (convert 57 9 (.slice Af n cf)).run Tryd.prog wr.drew = .ok (.string (strOfNums (full.take n))) wr.drew := by
                            have hC := Kd.C_below (Kd.C_take (m := n) hCf hnf) (below_drew (Below.refl _ _))
                            have hcv := Kd.C_string (P := Tryd.prog) (c := cf) Tryd.underlying57 Tryd.underlying5 Tryd.underlying9 hC
                            rwa [List.length_take, Nat.min_eq_left hnf] at hcv
                          have HCF := Aside0.mk hCf
                          have HBd := Aside0.mk (below_drew HBx.out)
                          have hbcd := blk_drew hbc
                          have hcy0 : wr.drew.cell? ⟨w.heap.size, 0, none⟩ = some (.int .i64 a0_0) := blk_cell hbcd 0
                          have hcy1 : wr.drew.cell? ⟨w.heap.size, 1, none⟩ = some (.slice A0_1 l0_1.length c0_1) := blk_cell hbcd 1
                          have hcy2 : wr.drew.cell? ⟨w.heap.size, 2, none⟩ = some (.int .i64 a0_2) := blk_cell hbcd 2
                          clear hbc hbcd hCf hcv
                          go_wp2
                          have CV6 := Aside0.mk (show ∀ W, Below wr.drew.heap.size wr.drew W → (convert 57 9 (.slice Af n cf)).run Tryd.prog W = .ok (.string (strOfNums (full.take n))) W from fun W hb => by
                            have hC := Kd.C_below (Kd.C_take (m := n) HCF.out hnf) (below_step (below_drew (Below.refl _ _)) hb)
                            have hcv := Kd.C_string (P := Tryd.prog) (c := cf) Tryd.underlying57 Tryd.underlying5 Tryd.underlying9 hC
                            rwa [List.length_take, Nat.min_eq_left hnf] at hcv)
                          refine start_ (n := 11) (S := fun w' => w'.cell? ⟨w.heap.size, 0, none⟩ = some (.int .i64 a0_0) ∧ w'.cell? ⟨w.heap.size, 1, none⟩ = some (.slice A0_1 l0_1.length c0_1) ∧ w'.cell? ⟨w.heap.size, 2, none⟩ = some (.int .i64 a0_2)) (ds := []) #[false, false, false, false, false, false, false, false, false, false, false] (by kernel_rfl) rfl rfl ⟨hcy0, hcy1, hcy2⟩ (fun hHeld => ?_)
                          generalize wr.drew = wd at *
                          refine pure_ (i := 1) (N := some 96) (v := ?_) (a' := ?_) #[false, true, false, false, false, false, false, false, false, false, false] rfl rfl (by kernel_rfl) (fun _ _ _ h => h) (Or.inl ⟨by rfl, ?_⟩) ?_ ?_
                          rotate_left
                          · intro w'
                            go_simp
                            with_reducible rfl
                          rotate_left
                          · simp only [Act.put, List.setIfInBounds_toArray, List.set_cons_zero, List.set_cons_succ, i64_w, i32_w]
                            rfl
                          refine pure_ (i := 2) (N := some 97) (v := ?_) (a' := ?_) #[false, true, true, false, false, false, false, false, false, false, false] rfl rfl (by kernel_rfl) (fun _ _ _ h => h) (Or.inl ⟨by rfl, ?_⟩) ?_ ?_
                          rotate_left
                          · intro w'
                            go_simp
                            with_reducible rfl
                          rotate_left
                          · simp only [Act.put, List.setIfInBounds_toArray, List.set_cons_zero, List.set_cons_succ, i64_w, i32_w]
                            rfl
                          refine pure_ (i := 3) (N := some 98) (v := ?_) (a' := ?_) #[false, true, true, true, false, false, false, false, false, false, false] rfl rfl (by kernel_rfl) (fun _ _ _ h => h) (Or.inl ⟨by rfl, ?_⟩) ?_ ?_
                          rotate_left
                          · intro w'
                            go_simp
                            with_reducible rfl
                          rotate_left
                          · simp only [Act.put, List.setIfInBounds_toArray, List.set_cons_zero, List.set_cons_succ, i64_w, i32_w]
                            rfl
                          refine take_ (i := 0) (N := some 95) (v := ?_) (a' := ?_) #[true, true, true, true, false, false, false, false, false, false, false] rfl rfl (by kernel_rfl) (fun _ _ _ h => h) (Or.inl ⟨by rfl, ?_⟩) hHeld ?_ ?_
                          rotate_left
                          · rintro w' ⟨s0, s1, s2⟩
                            go_simp
                            with_reducible rfl
                          rotate_left
                          · simp only [Act.put, List.setIfInBounds_toArray, List.set_cons_zero, List.set_cons_succ, i64_w, i32_w]
                            rfl
                          refine one_ (i := 4) (N := some 99) #[true, true, true, true, true, false, false, false, false, false, false] rfl rfl (by kernel_rfl) (by decide) (fun K hK => ?_)
                          refine value_ (w1 := ?_) (v := ?_) (by rfl) rfl ?_ ?_
                          rotate_left 2
                          · go_simp
                            constructor
                            · rfl
                            · rfl
                          refine hK.out _ _ ⟨hcy0, hcy1, hcy2⟩ (fun hHeld => ?_)
                          clear hK K
                          refine norm_ (a' := ?_) ?_ ?_
                          rotate_left
                          · show Act.put _ (some 99) _ = _
                            simp only [Act.put, List.setIfInBounds_toArray, List.set_cons_zero, List.set_cons_succ, i64_w, i32_w]
                            rfl
                          refine one_ (i := 5) (N := some 100) #[true, true, true, true, true, true, false, false, false, false, false] rfl rfl (by kernel_rfl) (by decide) (fun K hK => ?_)
                          refine goes_ Tryd.func18 (by kernel_rfl) rfl #[.agg #[.int .i64 a0_0, .slice A0_1 l0_1.length c0_1, .int .i64 a0_2], .string (strOfNums (full.take n))] (by rfl) rfl rfl (by simp only [List.map_toArray, List.map_cons, List.map_nil]; rfl) ?_
                          with_reducible refine (HEN.out _ HBd.out).mono ?_
                          rintro e w6 ⟨v6, rfl, hR6, hb6⟩
                          refine ⟨_, rfl, ?_⟩
                          obtain ⟨A6, c6, rfl, hc6, hC6⟩ := Kd.R_reads hR6
                          have HC6 := Aside0.mk hC6
                          have HB6 := Aside0.mk (below_step HBd.out hb6)
                          have HB6x := Aside0.mk hb6
                          have hcv6 : (convert 57 9 (.slice Af n cf)).run Tryd.prog w6 = .ok (.string (strOfNums (full.take n))) w6 := CV6.out w6 hb6
                          clear hR6 hb6 hC6
                          refine hK.out _ _ ⟨pw_cell_below HB6x.out hcy0, pw_cell_below HB6x.out hcy1, pw_cell_below HB6x.out hcy2⟩ (fun hHeld => ?_)
                          clear hK K
                          refine norm_ (a' := ?_) ?_ ?_
                          rotate_left
                          · show Act.put _ (some 100) _ = _
                            simp only [Act.put, List.setIfInBounds_toArray, List.set_cons_zero, List.set_cons_succ, i64_w, i32_w]
                            rfl
                          refine pure_ (i := 6) (N := some 94) (v := ?_) (a' := ?_) #[true, true, true, true, true, true, true, false, false, false, false] rfl rfl (by kernel_rfl) (fun _ _ _ h => h) (Or.inl ⟨by rfl, ?_⟩) ?_ ?_
                          rotate_left
                          · intro w'
                            go_simp
                            with_reducible rfl
                          rotate_left
                          · simp only [Act.put, List.setIfInBounds_toArray, List.set_cons_zero, List.set_cons_succ, i64_w, i32_w]
                            rfl
                          refine pure_ (i := 7) (N := some 101) (v := ?_) (a' := ?_) #[true, true, true, true, true, true, true, true, false, false, false] rfl rfl (by kernel_rfl) (fun _ _ _ h => h) (Or.inl ⟨by rfl, ?_⟩) ?_ ?_
                          rotate_left
                          · intro w'
                            go_simp
                            with_reducible rfl
                          rotate_left
                          · simp only [Act.put, List.setIfInBounds_toArray, List.set_cons_zero, List.set_cons_succ, i64_w, i32_w]
                            rfl
                          refine pure_ (i := 8) (N := some 102) (v := ?_) (a' := ?_) #[true, true, true, true, true, true, true, true, true, false, false] rfl rfl (by kernel_rfl) (fun _ _ _ h => h) (Or.inl ⟨by rfl, ?_⟩) ?_ ?_
                          rotate_left
                          · intro w'
                            go_simp
                            with_reducible rfl
                          rotate_left
                          · simp only [Act.put, List.setIfInBounds_toArray, List.set_cons_zero, List.set_cons_succ, i64_w, i32_w]
                            rfl
                          refine pure_ (i := 9) (N := some 19) (v := ?_) (a' := ?_) #[true, true, true, true, true, true, true, true, true, true, false] rfl rfl (by kernel_rfl) (fun _ _ _ h => h) (Or.inl ⟨by rfl, ?_⟩) ?_ ?_
                          rotate_left
                          · intro w'
                            go_simp
                            with_reducible rfl
                          rotate_left
                          · simp only [Act.put, List.setIfInBounds_toArray, List.set_cons_zero, List.set_cons_succ, i64_w, i32_w]
                            rfl
                          refine pure_ (i := 10) (N := some 20) (v := ?_) (a' := ?_) #[true, true, true, true, true, true, true, true, true, true, true] rfl rfl (by kernel_rfl) (fun _ _ _ h => h) (Or.inl ⟨by rfl, ?_⟩) ?_ ?_
                          rotate_left
                          · intro w'
                            go_simp
                            with_reducible rfl
                          rotate_left
                          · simp only [Act.put, List.setIfInBounds_toArray, List.set_cons_zero, List.set_cons_succ, i64_w, i32_w]
                            rfl
                          refine done_ (by kernel_rfl) ?_
                          go_wp2
                          obtain ⟨wo, rfl⟩ : ∃ wo : World, wo = w6 := ⟨_, rfl⟩
                          clear hcy0 hcy1 hcy2 hcz0 hcz1 hcz2 hcv1
                          go_loop [105] (fun v => ∃ j : Nat, j ≤ rows.length ∧ v = .int .i64 (j : Int) ∧ Aside0 (∀ i, i < j → (mask >>> i) % 2 = 1 → rdOf ByteArray.empty again (i : Int) = rdOf ByteArray.empty l3 (i : Int))) (fun v => rows.length - (intOf v).toNat)
                          case atStart => exact ⟨0, Nat.zero_le _, rfl, ⟨fun i hi => absurd hi (Nat.not_lt_zero i)⟩⟩
                          case round =>
                            obtain ⟨j, hj, rfl, HA⟩ := hrel
                            by_cases hlt : j < rows.length
                            · have hla : j < again.length := by rw [HAL.out]; exact hlt
                              obtain ⟨ad3, rfl, hx⟩ := at_string_nat (HP3.out _ HB6.out) j hlt
                              obtain ⟨ad6, rfl, hy⟩ := at_string_nat HC6.out j hla
                              have hB1 := bit_eq mask j hmk
                              have hm2 : (mask >>> j) % 2 < 2 := Nat.mod_lt _ (by decide)
                              generalize hpt : rdOf ByteArray.empty l3 (j : Int) = pt at hx
                              generalize hqt : rdOf ByteArray.empty again (j : Int) = qt at hy
                              generalize hbt : (mask >>> j) % 2 = bit at hB1 hm2
                              have HPT := Aside0.mk hpt
                              have HQT := Aside0.mk hqt
                              have HBT := Aside0.mk hbt
                              clear hpt hqt hbt
                              by_cases hbit : bit = 1
                              · subst hbit
                                by_cases hsw : qt = pt
                                · subst hsw
                                  have hz1 : (qt.toList == qt.toList) = true := beq_iff_eq.2 rfl
                                  have hz2 : (qt.toList != qt.toList) = false := by simp
                                  go_wp2
                                  go_round
                                  case rel => exact ⟨j + 1, by omega, by go_num, ⟨fun i hi hb => by
                                    rcases Nat.lt_or_eq_of_le (Nat.le_of_lt_succ hi) with hi | rfl
                                    · exact HA.out i hi hb
                                    · rw [HPT.out, HQT.out]⟩⟩
                                  case measure => simp [intOf]; omega
                                · have hz2 : (qt.toList == pt.toList) = false := beq_eq_false_iff_ne.2 (fun h => hsw (ba_inj.1 h))
                                  have hz3 : (qt.toList != pt.toList) = true := bne_iff_ne.2 (fun h => hsw (ba_inj.1 h))
                                  have hns : ¬ agree mask again l3 = true := fun h => hsw (by rw [← HPT.out, ← HQT.out]; exact agree_iff.1 h j (by rw [HB5.out]; exact hlt) HBT.out)
                                  have h8 := H8.out
                                  rw [if_neg hns] at h8
                                  obtain ⟨rfl, rfl⟩ := Prod.mk.inj (Option.some.inj h8)
                                  clear h8 hns H8
                                  go_wp2
                                  go_ret2
                                  exact ⟨rfl, HB6.out⟩
                              · obtain rfl : bit = 0 := by omega
                                go_wp2
                                go_round
                                case rel => exact ⟨j + 1, by omega, by go_num, ⟨fun i hi hb => by
                                  rcases Nat.lt_or_eq_of_le (Nat.le_of_lt_succ hi) with hi | rfl
                                  · exact HA.out i hi hb
                                  · have := HBT.out; omega⟩⟩
                                case measure => simp [intOf]; omega
                            · obtain rfl : j = rows.length := by omega
                              have hso : agree mask again l3 = true := agree_iff.2 (by rw [HB5.out]; exact HA.out)
                              have h8 := H8.out
                              rw [if_pos hso] at h8
                              obtain ⟨rfl, rfl⟩ := Prod.mk.inj (Option.some.inj h8)
                              clear h8 hso H8
                              go_wp2
                              go_ret2
                              exact ⟨rfl, HB6.out⟩
                    · rw [if_neg hal] at h8
                      cases h8
                  · rw [if_neg hnf] at h7
                    cases h7
          · rw [if_neg hsp] at h7
            cases h7
        · rw [if_neg hbd] at h2
          cases h2
    · rw [if_neg hok] at h2
      cases h2
  · rw [if_neg he0] at h2
    obtain ⟨rfl, rfl⟩ := Prod.mk.inj (Option.some.inj h2)
    have he1 : (e0 == 0) = false := beq_eq_false_iff_ne.2 he0
    clear h2 hG hr0_1
    go_enter Tryd.func28, Tryd.ntmps28
    go_wp2_with (go_at_call 17; (with_reducible refine (HRW.out _ (by repeat (first | exact Below.refl _ _ | apply below_alloc))).mono ?_); rintro e w1 ⟨v0, rfl, hS, hb1⟩; have HB1 := Aside0.mk hb1; clear hS hb1)
    go_ret2
    exact ⟨rfl, below_step (below_alloc (Below.refl _ _) _) HB1.out⟩


/-! ### bits_OnesCount64: function 100 -/
def bits_OnesCount64.f (a0 : Int) : Option (Int) := some (Go.bits .and .i64 (wrap64 (IntKind.u64.wrap ((IntKind.u64.wrap ((IntKind.u64.wrap ((Go.bits .and .u64 (IntKind.u64.wrap (((IntKind.u64.wrap ((Go.bits .and .u64 ((IntKind.u64.wrap ((Go.bits .and .u64 (a0 / 2) 6148914691236517205) + (Go.bits .and .u64 a0 6148914691236517205))) / 4) 3689348814741910323) + (Go.bits .and .u64 (IntKind.u64.wrap ((Go.bits .and .u64 (a0 / 2) 6148914691236517205) + (Go.bits .and .u64 a0 6148914691236517205))) 3689348814741910323))) / 16) + (IntKind.u64.wrap ((Go.bits .and .u64 ((IntKind.u64.wrap ((Go.bits .and .u64 (a0 / 2) 6148914691236517205) + (Go.bits .and .u64 a0 6148914691236517205))) / 4) 3689348814741910323) + (Go.bits .and .u64 (IntKind.u64.wrap ((Go.bits .and .u64 (a0 / 2) 6148914691236517205) + (Go.bits .and .u64 a0 6148914691236517205))) 3689348814741910323))))) 1085102592571150095) + ((Go.bits .and .u64 (IntKind.u64.wrap (((IntKind.u64.wrap ((Go.bits .and .u64 ((IntKind.u64.wrap ((Go.bits .and .u64 (a0 / 2) 6148914691236517205) + (Go.bits .and .u64 a0 6148914691236517205))) / 4) 3689348814741910323) + (Go.bits .and .u64 (IntKind.u64.wrap ((Go.bits .and .u64 (a0 / 2) 6148914691236517205) + (Go.bits .and .u64 a0 6148914691236517205))) 3689348814741910323))) / 16) + (IntKind.u64.wrap ((Go.bits .and .u64 ((IntKind.u64.wrap ((Go.bits .and .u64 (a0 / 2) 6148914691236517205) + (Go.bits .and .u64 a0 6148914691236517205))) / 4) 3689348814741910323) + (Go.bits .and .u64 (IntKind.u64.wrap ((Go.bits .and .u64 (a0 / 2) 6148914691236517205) + (Go.bits .and .u64 a0 6148914691236517205))) 3689348814741910323))))) 1085102592571150095) / 256))) + ((IntKind.u64.wrap ((Go.bits .and .u64 (IntKind.u64.wrap (((IntKind.u64.wrap ((Go.bits .and .u64 ((IntKind.u64.wrap ((Go.bits .and .u64 (a0 / 2) 6148914691236517205) + (Go.bits .and .u64 a0 6148914691236517205))) / 4) 3689348814741910323) + (Go.bits .and .u64 (IntKind.u64.wrap ((Go.bits .and .u64 (a0 / 2) 6148914691236517205) + (Go.bits .and .u64 a0 6148914691236517205))) 3689348814741910323))) / 16) + (IntKind.u64.wrap ((Go.bits .and .u64 ((IntKind.u64.wrap ((Go.bits .and .u64 (a0 / 2) 6148914691236517205) + (Go.bits .and .u64 a0 6148914691236517205))) / 4) 3689348814741910323) + (Go.bits .and .u64 (IntKind.u64.wrap ((Go.bits .and .u64 (a0 / 2) 6148914691236517205) + (Go.bits .and .u64 a0 6148914691236517205))) 3689348814741910323))))) 1085102592571150095) + ((Go.bits .and .u64 (IntKind.u64.wrap (((IntKind.u64.wrap ((Go.bits .and .u64 ((IntKind.u64.wrap ((Go.bits .and .u64 (a0 / 2) 6148914691236517205) + (Go.bits .and .u64 a0 6148914691236517205))) / 4) 3689348814741910323) + (Go.bits .and .u64 (IntKind.u64.wrap ((Go.bits .and .u64 (a0 / 2) 6148914691236517205) + (Go.bits .and .u64 a0 6148914691236517205))) 3689348814741910323))) / 16) + (IntKind.u64.wrap ((Go.bits .and .u64 ((IntKind.u64.wrap ((Go.bits .and .u64 (a0 / 2) 6148914691236517205) + (Go.bits .and .u64 a0 6148914691236517205))) / 4) 3689348814741910323) + (Go.bits .and .u64 (IntKind.u64.wrap ((Go.bits .and .u64 (a0 / 2) 6148914691236517205) + (Go.bits .and .u64 a0 6148914691236517205))) 3689348814741910323))))) 1085102592571150095) / 256))) / 65536))) + ((IntKind.u64.wrap ((IntKind.u64.wrap ((Go.bits .and .u64 (IntKind.u64.wrap (((IntKind.u64.wrap ((Go.bits .and .u64 ((IntKind.u64.wrap ((Go.bits .and .u64 (a0 / 2) 6148914691236517205) + (Go.bits .and .u64 a0 6148914691236517205))) / 4) 3689348814741910323) + (Go.bits .and .u64 (IntKind.u64.wrap ((Go.bits .and .u64 (a0 / 2) 6148914691236517205) + (Go.bits .and .u64 a0 6148914691236517205))) 3689348814741910323))) / 16) + (IntKind.u64.wrap ((Go.bits .and .u64 ((IntKind.u64.wrap ((Go.bits .and .u64 (a0 / 2) 6148914691236517205) + (Go.bits .and .u64 a0 6148914691236517205))) / 4) 3689348814741910323) + (Go.bits .and .u64 (IntKind.u64.wrap ((Go.bits .and .u64 (a0 / 2) 6148914691236517205) + (Go.bits .and .u64 a0 6148914691236517205))) 3689348814741910323))))) 1085102592571150095) + ((Go.bits .and .u64 (IntKind.u64.wrap (((IntKind.u64.wrap ((Go.bits .and .u64 ((IntKind.u64.wrap ((Go.bits .and .u64 (a0 / 2) 6148914691236517205) + (Go.bits .and .u64 a0 6148914691236517205))) / 4) 3689348814741910323) + (Go.bits .and .u64 (IntKind.u64.wrap ((Go.bits .and .u64 (a0 / 2) 6148914691236517205) + (Go.bits .and .u64 a0 6148914691236517205))) 3689348814741910323))) / 16) + (IntKind.u64.wrap ((Go.bits .and .u64 ((IntKind.u64.wrap ((Go.bits .and .u64 (a0 / 2) 6148914691236517205) + (Go.bits .and .u64 a0 6148914691236517205))) / 4) 3689348814741910323) + (Go.bits .and .u64 (IntKind.u64.wrap ((Go.bits .and .u64 (a0 / 2) 6148914691236517205) + (Go.bits .and .u64 a0 6148914691236517205))) 3689348814741910323))))) 1085102592571150095) / 256))) + ((IntKind.u64.wrap ((Go.bits .and .u64 (IntKind.u64.wrap (((IntKind.u64.wrap ((Go.bits .and .u64 ((IntKind.u64.wrap ((Go.bits .and .u64 (a0 / 2) 6148914691236517205) + (Go.bits .and .u64 a0 6148914691236517205))) / 4) 3689348814741910323) + (Go.bits .and .u64 (IntKind.u64.wrap ((Go.bits .and .u64 (a0 / 2) 6148914691236517205) + (Go.bits .and .u64 a0 6148914691236517205))) 3689348814741910323))) / 16) + (IntKind.u64.wrap ((Go.bits .and .u64 ((IntKind.u64.wrap ((Go.bits .and .u64 (a0 / 2) 6148914691236517205) + (Go.bits .and .u64 a0 6148914691236517205))) / 4) 3689348814741910323) + (Go.bits .and .u64 (IntKind.u64.wrap ((Go.bits .and .u64 (a0 / 2) 6148914691236517205) + (Go.bits .and .u64 a0 6148914691236517205))) 3689348814741910323))))) 1085102592571150095) + ((Go.bits .and .u64 (IntKind.u64.wrap (((IntKind.u64.wrap ((Go.bits .and .u64 ((IntKind.u64.wrap ((Go.bits .and .u64 (a0 / 2) 6148914691236517205) + (Go.bits .and .u64 a0 6148914691236517205))) / 4) 3689348814741910323) + (Go.bits .and .u64 (IntKind.u64.wrap ((Go.bits .and .u64 (a0 / 2) 6148914691236517205) + (Go.bits .and .u64 a0 6148914691236517205))) 3689348814741910323))) / 16) + (IntKind.u64.wrap ((Go.bits .and .u64 ((IntKind.u64.wrap ((Go.bits .and .u64 (a0 / 2) 6148914691236517205) + (Go.bits .and .u64 a0 6148914691236517205))) / 4) 3689348814741910323) + (Go.bits .and .u64 (IntKind.u64.wrap ((Go.bits .and .u64 (a0 / 2) 6148914691236517205) + (Go.bits .and .u64 a0 6148914691236517205))) 3689348814741910323))))) 1085102592571150095) / 256))) / 65536))) / 4294967296)))) 127)
set_option maxHeartbeats 8000000 in
set_option maxRecDepth 100000 in
theorem bits_OnesCount64.calls (a0 : Int) (r : Int) (w : World) (hG : HG w) (h : bits_OnesCount64.f a0 = some r) :
  Calls Tryd.prog 100 #[.int .u64 a0] w fun e w' => e = .returned (.int .i64 r) ∧ Drawn0 w w' := by
 have HGw := Aside0.mk hG
 clear hG
 have H : (some (Go.bits .and .i64 (wrap64 (IntKind.u64.wrap ((IntKind.u64.wrap ((IntKind.u64.wrap ((Go.bits .and .u64 (IntKind.u64.wrap (((IntKind.u64.wrap ((Go.bits .and .u64 ((IntKind.u64.wrap ((Go.bits .and .u64 (a0 / 2) 6148914691236517205) + (Go.bits .and .u64 a0 6148914691236517205))) / 4) 3689348814741910323) + (Go.bits .and .u64 (IntKind.u64.wrap ((Go.bits .and .u64 (a0 / 2) 6148914691236517205) + (Go.bits .and .u64 a0 6148914691236517205))) 3689348814741910323))) / 16) + (IntKind.u64.wrap ((Go.bits .and .u64 ((IntKind.u64.wrap ((Go.bits .and .u64 (a0 / 2) 6148914691236517205) + (Go.bits .and .u64 a0 6148914691236517205))) / 4) 3689348814741910323) + (Go.bits .and .u64 (IntKind.u64.wrap ((Go.bits .and .u64 (a0 / 2) 6148914691236517205) + (Go.bits .and .u64 a0 6148914691236517205))) 3689348814741910323))))) 1085102592571150095) + ((Go.bits .and .u64 (IntKind.u64.wrap (((IntKind.u64.wrap ((Go.bits .and .u64 ((IntKind.u64.wrap ((Go.bits .and .u64 (a0 / 2) 6148914691236517205) + (Go.bits .and .u64 a0 6148914691236517205))) / 4) 3689348814741910323) + (Go.bits .and .u64 (IntKind.u64.wrap ((Go.bits .and .u64 (a0 / 2) 6148914691236517205) + (Go.bits .and .u64 a0 6148914691236517205))) 3689348814741910323))) / 16) + (IntKind.u64.wrap ((Go.bits .and .u64 ((IntKind.u64.wrap ((Go.bits .and .u64 (a0 / 2) 6148914691236517205) + (Go.bits .and .u64 a0 6148914691236517205))) / 4) 3689348814741910323) + (Go.bits .and .u64 (IntKind.u64.wrap ((Go.bits .and .u64 (a0 / 2) 6148914691236517205) + (Go.bits .and .u64 a0 6148914691236517205))) 3689348814741910323))))) 1085102592571150095) / 256))) + ((IntKind.u64.wrap ((Go.bits .and .u64 (IntKind.u64.wrap (((IntKind.u64.wrap ((Go.bits .and .u64 ((IntKind.u64.wrap ((Go.bits .and .u64 (a0 / 2) 6148914691236517205) + (Go.bits .and .u64 a0 6148914691236517205))) / 4) 3689348814741910323) + (Go.bits .and .u64 (IntKind.u64.wrap ((Go.bits .and .u64 (a0 / 2) 6148914691236517205) + (Go.bits .and .u64 a0 6148914691236517205))) 3689348814741910323))) / 16) + (IntKind.u64.wrap ((Go.bits .and .u64 ((IntKind.u64.wrap ((Go.bits .and .u64 (a0 / 2) 6148914691236517205) + (Go.bits .and .u64 a0 6148914691236517205))) / 4) 3689348814741910323) + (Go.bits .and .u64 (IntKind.u64.wrap ((Go.bits .and .u64 (a0 / 2) 6148914691236517205) + (Go.bits .and .u64 a0 6148914691236517205))) 3689348814741910323))))) 1085102592571150095) + ((Go.bits .and .u64 (IntKind.u64.wrap (((IntKind.u64.wrap ((Go.bits .and .u64 ((IntKind.u64.wrap ((Go.bits .and .u64 (a0 / 2) 6148914691236517205) + (Go.bits .and .u64 a0 6148914691236517205))) / 4) 3689348814741910323) + (Go.bits .and .u64 (IntKind.u64.wrap ((Go.bits .and .u64 (a0 / 2) 6148914691236517205) + (Go.bits .and .u64 a0 6148914691236517205))) 3689348814741910323))) / 16) + (IntKind.u64.wrap ((Go.bits .and .u64 ((IntKind.u64.wrap ((Go.bits .and .u64 (a0 / 2) 6148914691236517205) + (Go.bits .and .u64 a0 6148914691236517205))) / 4) 3689348814741910323) + (Go.bits .and .u64 (IntKind.u64.wrap ((Go.bits .and .u64 (a0 / 2) 6148914691236517205) + (Go.bits .and .u64 a0 6148914691236517205))) 3689348814741910323))))) 1085102592571150095) / 256))) / 65536))) + ((IntKind.u64.wrap ((IntKind.u64.wrap ((Go.bits .and .u64 (IntKind.u64.wrap (((IntKind.u64.wrap ((Go.bits .and .u64 ((IntKind.u64.wrap ((Go.bits .and .u64 (a0 / 2) 6148914691236517205) + (Go.bits .and .u64 a0 6148914691236517205))) / 4) 3689348814741910323) + (Go.bits .and .u64 (IntKind.u64.wrap ((Go.bits .and .u64 (a0 / 2) 6148914691236517205) + (Go.bits .and .u64 a0 6148914691236517205))) 3689348814741910323))) / 16) + (IntKind.u64.wrap ((Go.bits .and .u64 ((IntKind.u64.wrap ((Go.bits .and .u64 (a0 / 2) 6148914691236517205) + (Go.bits .and .u64 a0 6148914691236517205))) / 4) 3689348814741910323) + (Go.bits .and .u64 (IntKind.u64.wrap ((Go.bits .and .u64 (a0 / 2) 6148914691236517205) + (Go.bits .and .u64 a0 6148914691236517205))) 3689348814741910323))))) 1085102592571150095) + ((Go.bits .and .u64 (IntKind.u64.wrap (((IntKind.u64.wrap ((Go.bits .and .u64 ((IntKind.u64.wrap ((Go.bits .and .u64 (a0 / 2) 6148914691236517205) + (Go.bits .and .u64 a0 6148914691236517205))) / 4) 3689348814741910323) + (Go.bits .and .u64 (IntKind.u64.wrap ((Go.bits .and .u64 (a0 / 2) 6148914691236517205) + (Go.bits .and .u64 a0 6148914691236517205))) 3689348814741910323))) / 16) + (IntKind.u64.wrap ((Go.bits .and .u64 ((IntKind.u64.wrap ((Go.bits .and .u64 (a0 / 2) 6148914691236517205) + (Go.bits .and .u64 a0 6148914691236517205))) / 4) 3689348814741910323) + (Go.bits .and .u64 (IntKind.u64.wrap ((Go.bits .and .u64 (a0 / 2) 6148914691236517205) + (Go.bits .and .u64 a0 6148914691236517205))) 3689348814741910323))))) 1085102592571150095) / 256))) + ((IntKind.u64.wrap ((Go.bits .and .u64 (IntKind.u64.wrap (((IntKind.u64.wrap ((Go.bits .and .u64 ((IntKind.u64.wrap ((Go.bits .and .u64 (a0 / 2) 6148914691236517205) + (Go.bits .and .u64 a0 6148914691236517205))) / 4) 3689348814741910323) + (Go.bits .and .u64 (IntKind.u64.wrap ((Go.bits .and .u64 (a0 / 2) 6148914691236517205) + (Go.bits .and .u64 a0 6148914691236517205))) 3689348814741910323))) / 16) + (IntKind.u64.wrap ((Go.bits .and .u64 ((IntKind.u64.wrap ((Go.bits .and .u64 (a0 / 2) 6148914691236517205) + (Go.bits .and .u64 a0 6148914691236517205))) / 4) 3689348814741910323) + (Go.bits .and .u64 (IntKind.u64.wrap ((Go.bits .and .u64 (a0 / 2) 6148914691236517205) + (Go.bits .and .u64 a0 6148914691236517205))) 3689348814741910323))))) 1085102592571150095) + ((Go.bits .and .u64 (IntKind.u64.wrap (((IntKind.u64.wrap ((Go.bits .and .u64 ((IntKind.u64.wrap ((Go.bits .and .u64 (a0 / 2) 6148914691236517205) + (Go.bits .and .u64 a0 6148914691236517205))) / 4) 3689348814741910323) + (Go.bits .and .u64 (IntKind.u64.wrap ((Go.bits .and .u64 (a0 / 2) 6148914691236517205) + (Go.bits .and .u64 a0 6148914691236517205))) 3689348814741910323))) / 16) + (IntKind.u64.wrap ((Go.bits .and .u64 ((IntKind.u64.wrap ((Go.bits .and .u64 (a0 / 2) 6148914691236517205) + (Go.bits .and .u64 a0 6148914691236517205))) / 4) 3689348814741910323) + (Go.bits .and .u64 (IntKind.u64.wrap ((Go.bits .and .u64 (a0 / 2) 6148914691236517205) + (Go.bits .and .u64 a0 6148914691236517205))) 3689348814741910323))))) 1085102592571150095) / 256))) / 65536))) / 4294967296)))) 127)) = some r := h
 clear h
 obtain rfl := Option.some.inj H
 go_enter Tryd.func100, Tryd.ntmps100
 go_wp2
 go_ret
 exact ⟨by first | rfl | (simp; done) | (simp [*]; done), by repeat (first | exact Drawn0.refl _ | apply Drawn0.step)⟩


/-! ### bits_OnesCount: function 79 -/
def bits_OnesCount.f (a0 : Int) : Option (Int) := (bits_OnesCount64.f a0).bind fun t264 => (some t264)
set_option maxHeartbeats 8000000 in
set_option maxRecDepth 100000 in
theorem bits_OnesCount.calls (a0 : Int) (r : Int) (w : World) (hG : HG w) (h : bits_OnesCount.f a0 = some r) :
  Calls Tryd.prog 79 #[.int .u64 a0] w fun e w' => e = .returned (.int .i64 r) ∧ Drawn0 w w' := by
 have HGw := Aside0.mk hG
 clear hG
 have H : ((bits_OnesCount64.f a0).bind fun t264 => (some t264)) = some r := h
 clear h
 replace H := Option.bind_eq_some_iff.mp H
 obtain ⟨t264, A20, H⟩ := H
 replace H : (some t264) = some r := H
 have A2 := Aside0.mk A20
 clear A20
 obtain rfl := Option.some.inj H
 go_enter Tryd.func79, Tryd.ntmps79
 go_wp2_with (first | ((with_reducible refine gate_callee (f := 100) rfl ?_); refine goesL_ (some 7) rfl rfl Tryd.func100 (by kernel_rfl) rfl #[.int .u64 a0] rfl (by (try simp only [List.map_toArray, List.map_cons, List.map_nil]); first | done | rfl | (simp only [List.length_drop, List.length_take]; rfl)) ?_; (with_reducible refine (bits_OnesCount64.calls a0 t264 _ ?side1 A2.out).mono ?_); (case side1 => first | exact HGw.out | (repeat (first | exact HGw.out | apply HG.drewN | apply HG.drew))); rintro e w' ⟨rfl, ⟨nd, rfl⟩⟩; refine ⟨_, rfl, ?_⟩))
 go_ret
 exact ⟨by first | rfl | (simp; done) | (simp [*]; done), by repeat (first | exact Drawn0.refl _ | apply Drawn0.step)⟩


/-! ### code_sets: function 72 -/
section
open Go.Shelf
attribute [local go_sem] Oper.semAt_some
/-- How many ones a number has. -/
def onesOf (m : Nat) : Int := (bits_OnesCount.f (m : Int)).getD 0
theorem ones64_some (a : Int) : ∃ r, bits_OnesCount64.f a = some r := ⟨_, by unfold bits_OnesCount64.f; exact rfl⟩
theorem ones_some (m : Nat) : bits_OnesCount.f (m : Int) = some (onesOf m) := by
 unfold onesOf bits_OnesCount.f
 obtain ⟨r, hr⟩ := ones64_some (m : Int)
 rw [hr]
 rfl
theorem ones_calls (m : Nat) (w : World) (hG : HG w) : Calls Tryd.prog 79 #[.int .u64 (m : Int)] w fun e w' => e = .returned (.int .i64 (onesOf m)) ∧ Drawn0 w w' :=
 bits_OnesCount.calls (m : Int) _ w hG (ones_some m)
def setsUpto (size : Int) (k : Nat) : List Nat := (List.range k).filter fun m => decide (onesOf m = size)
theorem setsUpto_succ (size : Int) (k : Nat) : setsUpto size (k + 1) = setsUpto size k ++ (if onesOf k = size then [k] else []) := by
 unfold setsUpto
 rw [List.range_succ, List.filter_append]
 congr 1
 by_cases h : onesOf k = size <;> simp [h]
theorem setsUpto_lt (size : Int) {k Z : Nat} (h : k < Z) : (setsUpto size k).length < Z := Nat.lt_of_le_of_lt (Nat.le_trans (List.length_filter_le _ _) (by simp)) h
theorem KeepsD_ (w : World) (m : Nat) : w.grownBy (w.drewN m) none := by
 have h := pw_below_drewN (Below.refl w.heap.size w) m
 exact ⟨h.os, h.tape, h.output, h.size, fun k hk _ => h.block k hk⟩
set_option maxRecDepth 100000 in
set_option maxHeartbeats 4000000 in
theorem sets1_in (n N : Nat) (size : Int) (hn : N ≤ 24) (h1n : 1 ≤ n) (l Bn Bs n₀ : Nat) (w0 : World) (hG0 : HG w0) (J Jx : List Nat → World → Prop) (BJ : Nat) (hJ : AbidesFrom BJ J)
  (hY : ∀ (pre : List Nat) (x : Nat) W, J pre W → pre.length < 2 ^ N → x < 2 ^ N → YieldAt Fence.wide (n - 1) Tryd.prog l #[.int .i64 (x : Int)] W fun e W' =>
   (e = .returned (.bool true) ∧ J (pre ++ [x]) W' ∧ Below n₀ W W') ∨ (e = .returned (.bool false) ∧ Jx (pre ++ [x]) W'))
  (W : World) (hW : Below w0.heap.size w0 W) (hn0 : n₀ = w0.heap.size) (hBn : W.cell? ⟨Bn, 0, none⟩ = some (.int .i64 (N : Int))) (hBs : W.cell? ⟨Bs, 0, none⟩ = some (.int .i64 size)) (hlt : Bs < n₀) (h0 : J [] W) :
  CallsIn Fence.wide n Tryd.prog 97 #[.func (.yield l) #[] #[], .pointer (some ⟨Bn, 0, none⟩), .pointer (some ⟨Bs, 0, none⟩)] W fun e W' => (∃ v, e = .returned v) ∧
   ((∃ ys, ys = setsUpto size (2 ^ N) ∧ J ys W') ∨ (∃ pre, (∃ k, k ≤ 2 ^ N ∧ pre = setsUpto size k) ∧ Jx pre W')) := by
 obtain ⟨Z, hZ⟩ : ∃ Z : Nat, Z = 2 ^ N := ⟨_, rfl⟩
 have hpl : Z ≤ 2 ^ 24 := by rw [hZ]; exact Nat.pow_le_pow_right (by decide) hn
 have hw1 : wrap64 ((2 : Int) ^ N) = (Z : Int) := by
  have h2 : ((2 : Int) ^ N) = ((2 ^ N : Nat) : Int) := by simp
  rw [h2, ← hZ]
  unfold wrap64; omega
 rw [← hZ] at hY
 have HY := Aside0.mk hY
 have HJ := Aside0.mk hJ
 rw [← hZ]
 have HZ := Aside0.mk hZ
 have HG0 := Aside0.mk hG0
 clear hY hJ hZ hG0
 refine callsIn_of_wp Tryd.func97 rfl trivial ?_ rfl
 simp only [Tryd.ntmps97, List.size_toArray, List.length_cons, List.length_nil, Nat.reduceAdd, Nat.reduceSub, Array.replicate_succ, Array.replicate_zero, List.push_toArray, List.append_toArray, List.nil_append, List.cons_append]
 gi_wp2
 rw [hw1]
 clear hw1
 gi_loopw [7] (fun i wr => ∃ k : Nat, k ≤ Z ∧ i = .int .i64 (k : Int) ∧ Aside0 (J (setsUpto size k) wr) ∧ Aside0 (Below n₀ W wr)) (fun i _ => Z - (intOf i).toNat)
 case atStart => exact ⟨0, Nat.zero_le _, rfl, ⟨h0⟩, ⟨Below.refl _ _⟩⟩
 case round =>
  obtain ⟨k, hk, rfl, HJs, HB⟩ := hrel
  have hcs : wr.cell? ⟨Bs, 0, none⟩ = some (.int .i64 size) := (HB.out.cell (p := ⟨Bs, 0, none⟩) hlt).trans hBs
  by_cases hltk : k < Z
  ·have hOC := ones_calls k
   have HOC := Aside0.mk hOC
   have HSU := Aside0.mk (setsUpto_succ size k)
   have hwk : IntKind.u64.wrap (k : Int) = (k : Int) := by rw [IntKind.wrap_u64]; omega
   clear hOC
   generalize hon : onesOf k = on at HOC HSU
   have HGr := Aside0.mk (show ∀ W', Below wr.heap.size wr W' → HG W' from fun W' hb => HG0.out.below (below_step (hW.trans (by rw [← hn0]; exact HB.out)) hb))
   have hmx : Tryd.prog.follows .mixedOrders = true := by kernel_rfl
   have HDB := Aside0.mk (fun m => (pw_below_drewN (Below.refl wr.heap.size wr) m).mono (show n₀ ≤ wr.heap.size by have := HB.out.size; have := hW.size; omega))
   have HDR := Aside0.mk (fun m => show J (setsUpto size k) (wr.drewN m) from HJ.out _ _ _ none HJs.out ((KeepsD_ wr m)) (fun r e => by cases e))
   by_cases heq : on = size
   ·subst heq
    have hne1 : (on == on) = true := beq_self_eq_true _
    have HYm := Aside0.mk (fun m => (HY.out (setsUpto on k) k (wr.drewN m) (HDR.out m) (setsUpto_lt on hltk) hltk).mono (R' := fun e W' => ∃ b : Bool, e = .returned (.bool b) ∧ (b = true → J (setsUpto on k ++ [k]) W' ∧ Below n₀ (wr.drewN m) W') ∧ (b = false → Jx (setsUpto on k ++ [k]) W')) (fun e W' h => by
     rcases h with ⟨rfl, h⟩ | ⟨rfl, h⟩
     ·exact ⟨true, rfl, fun _ => h, fun h2 => (by cases h2)⟩
     ·exact ⟨false, rfl, fun h2 => (by cases h2), fun _ => h⟩))
    gi_wp2
    first
    | (gi_region_with_o (first | (refine ⟨trivial, ?_⟩; gi_at_call 79; refine (callsIn_wide.2 (HOC.out _ ?g1)).mono ?_; (case g1 => exact HGr.out _ (by repeat (first | exact Below.refl _ _ | apply pw_below_drewN | apply below_drew))); rintro e w' ⟨rfl, ⟨nd, rfl⟩⟩; obtain ⟨fn, tmps, assign, body, hy, hR⟩ := HYm.out (1 + nd); have HR_ := Aside0.mk hR; clear hR) | (gi_at_call 79; refine (callsIn_wide.2 (HOC.out _ ?g1)).mono ?_; (case g1 => exact HGr.out _ (by repeat (first | exact Below.refl _ _ | apply pw_below_drewN | apply below_drew))); rintro e w' ⟨rfl, ⟨nd, rfl⟩⟩; obtain ⟨fn, tmps, assign, body, hy, hR⟩ := HYm.out (1 + nd); have HR_ := Aside0.mk hR; clear hR) | (refine HR_.out.mono ?_; rintro e W3 ⟨b, rfl, h1, h2⟩; have HT_ := Aside0.mk h1; have HF_ := Aside0.mk h2; clear h1 h2 hy)))
    | (gi_region_with_o? (first | (refine ⟨trivial, ?_⟩; gi_at_call 79; refine (callsIn_wide.2 (HOC.out _ ?g1)).mono ?_; (case g1 => exact HGr.out _ (by repeat (first | exact Below.refl _ _ | apply pw_below_drewN | apply below_drew))); rintro e w' ⟨rfl, ⟨nd, rfl⟩⟩; obtain ⟨fn, tmps, assign, body, hy, hR⟩ := HYm.out (1 + nd); have HR_ := Aside0.mk hR; clear hR) | (gi_at_call 79; refine (callsIn_wide.2 (HOC.out _ ?g1)).mono ?_; (case g1 => exact HGr.out _ (by repeat (first | exact Below.refl _ _ | apply pw_below_drewN | apply below_drew))); rintro e w' ⟨rfl, ⟨nd, rfl⟩⟩; obtain ⟨fn, tmps, assign, body, hy, hR⟩ := HYm.out (1 + nd); have HR_ := Aside0.mk hR; clear hR) | (trace_state; fail)))
    all_goals
     cases b
     ·have hjx := HF_.out rfl
      have HJX := Aside0.mk hjx
      clear hjx
      gi_wp2
      refine bodyPost_ret (results_none rfl _ _ _) rfl ?_
      exact ⟨⟨_, rfl⟩, .inr ⟨_, ⟨k + 1, by omega, by rw [HSU.out, if_pos trivial]⟩, HJX.out⟩⟩
     ·have HJ3 := Aside0.mk (HT_.out rfl).1
      have HB3 := Aside0.mk (HT_.out rfl).2
      gi_wp2
      go_roundw
      case rel => exact ⟨k + 1, by omega, by go_num, ⟨by rw [HSU.out, if_pos trivial]; exact HJ3.out⟩, ⟨HB.out.trans ((HDB.out _).trans HB3.out)⟩⟩
      case measure => simp [intOf]; omega
   ·have hne1 : (on == size) = false := beq_eq_false_iff_ne.2 heq
    gi_wp2
    first
    | (gi_region_with_o (first | (refine ⟨trivial, ?_⟩; gi_at_call 79; refine (callsIn_wide.2 (HOC.out _ ?g1)).mono ?_; (case g1 => exact HGr.out _ (by repeat (first | exact Below.refl _ _ | apply pw_below_drewN | apply below_drew))); rintro e w' ⟨rfl, ⟨nd, rfl⟩⟩) | (gi_at_call 79; refine (callsIn_wide.2 (HOC.out _ ?g1)).mono ?_; (case g1 => exact HGr.out _ (by repeat (first | exact Below.refl _ _ | apply pw_below_drewN | apply below_drew))); rintro e w' ⟨rfl, ⟨nd, rfl⟩⟩) | (refine ⟨fun _ h => (by cases h), ?_⟩)))
    | (gi_region_with_o? (first | (refine ⟨trivial, ?_⟩; gi_at_call 79; refine (callsIn_wide.2 (HOC.out _ ?g1)).mono ?_; (case g1 => exact HGr.out _ (by repeat (first | exact Below.refl _ _ | apply pw_below_drewN | apply below_drew))); rintro e w' ⟨rfl, ⟨nd, rfl⟩⟩) | (gi_at_call 79; refine (callsIn_wide.2 (HOC.out _ ?g1)).mono ?_; (case g1 => exact HGr.out _ (by repeat (first | exact Below.refl _ _ | apply pw_below_drewN | apply below_drew))); rintro e w' ⟨rfl, ⟨nd, rfl⟩⟩) | (trace_state; fail)))
    all_goals
     gi_wp2
     go_roundw
     case rel => exact ⟨k + 1, by omega, by go_num, ⟨by rw [HSU.out, if_neg heq, List.append_nil]; exact HDR.out _⟩, ⟨pw_below_drewN HB.out _⟩⟩
     case measure => simp [intOf]; omega
  ·obtain rfl : k = Z := by omega
   gi_wp2
   go_end0
   exact ⟨⟨_, rfl⟩, .inl ⟨_, rfl, HJs.out⟩⟩
abbrev Piece (N : Nat) := { x : Nat // x < 2 ^ N }
theorem sets1_stops (n N : Nat) (size : Int) (hn : N ≤ 24) (h1n : 1 ≤ n) (Bn Bs : Nat) (w0 : World) (hG0 : HG w0) (hBn : w0.cell? ⟨Bn, 0, none⟩ = some (.int .i64 (N : Int))) (hBs : w0.cell? ⟨Bs, 0, none⟩ = some (.int .i64 size)) :
  SeqStopsK Fence.wide n Tryd.prog 97 #[.pointer (some ⟨Bn, 0, none⟩), .pointer (some ⟨Bs, 0, none⟩)] (fun x : Piece N => #[Value.int .i64 (x.1 : Int)]) (Below w0.heap.size) (fun xs => xs.map Subtype.val = setsUpto size (2 ^ N)) (fun pre => ∃ k, k ≤ 2 ^ N ∧ pre.map Subtype.val = setsUpto size k) (2 ^ N) w0 := by
 intro l J Jx W hW hJ hJx hY h0
 have h2 := World.block_lt_of_cell? w0 _ hBs
 refine (sets1_in n N size hn h1n l Bn Bs w0.heap.size w0 hG0 (fun q W' => ∃ q' : List (Piece N), q'.map Subtype.val = q ∧ J q' W') (fun q W' => ∃ q' : List (Piece N), q'.map Subtype.val = q ∧ Jx q' W') W.heap.size ?_ ?_ W hW rfl (pw_cell_below hW hBn) (pw_cell_below hW hBs) h2 ⟨[], rfl, h0⟩).mono ?_
 ·rintro s A B row ⟨q', hq, hj⟩ hg hr
  exact ⟨q', hq, hJ q' A B row hj hg hr⟩
 ·rintro pre x W1 ⟨q', rfl, hj⟩ hl hx
  refine (hY q' ⟨x, hx⟩ W1 hj (by simpa using hl)).mono ?_
  rintro e W' (⟨rfl, h3, h4⟩ | ⟨rfl, h3⟩)
  ·exact .inl ⟨rfl, ⟨_, by simp, h3⟩, h4⟩
  ·exact .inr ⟨rfl, ⟨_, by simp, h3⟩⟩
 ·rintro e W' ⟨he, ⟨ys, rfl, q', hq, hj⟩ | ⟨pre, ⟨k, hk, rfl⟩, q', hq, hj⟩⟩
  ·exact ⟨he, .inl ⟨q', hq, hj⟩⟩
  ·exact ⟨he, .inr ⟨q', ⟨k, hk, hq⟩, hj⟩⟩
set_option maxRecDepth 100000 in
/-- sets: its closure, over two variables of its own. -/
theorem sets_calls (N : Nat) (size : Int) (w : World) :
  Calls Tryd.prog 72 #[.int .i64 (N : Int), .int .i64 size] w fun e w' => e = .returned (.func (.func 97) #[] #[.pointer (some ⟨w.heap.size, 0, none⟩), .pointer (some ⟨w.heap.size + 1, 0, none⟩)]) ∧ w' = (w.alloc (.cells #[.int .i64 (N : Int)] 3)).alloc (.cells #[.int .i64 size] 3) := by
 have hmf := run_mf Tryd.prog
 go_enter Tryd.func72, Tryd.ntmps72
 go_wp2
 go_ret
 exact ⟨rfl, rfl⟩
end


/-! ### code_Distance: function 32 -/
section
open Go.Shelf
attribute [local go_sem] Oper.semAt_some
theorem blk_keep_ {w : World} {g : Nat} {o : Obj} (h : w.heap[g]? = some o) (g2 : Nat) (hne : g ≠ g2) (j : Nat) (u : Value) : (w.setCell ⟨g2, j, none⟩ u).heap[g]? = some o := (Below.heap_setCell w ⟨g2, j, none⟩ u g hne).trans h
theorem blk_new1 (w : World) (o o' : Obj) : ((w.alloc o).alloc o').heap[w.heap.size + 1]? = some o' := by
 have := blk_new (w.alloc o) o'
 rwa [World.size_alloc] at this
theorem blk_new2 (w : World) (o o' o'' : Obj) : (((w.alloc o).alloc o').alloc o'').heap[w.heap.size + 1 + 1]? = some o'' := by
 have := blk_new1 (w.alloc o) o' o''
 rwa [World.size_alloc] at this
def markOf (D : Nat) : Deferred := { target := .collected D, args := #[] }
/-- The marks of loops over functions that have run, as a function leaves. -/
def Marks (B : Nat) (Ds : List Nat) (W : World) : Prop := Ds.Nodup ∧ ∀ D, D ∈ Ds → B ≤ D ∧ W.heap[D]? = some (.deferred (some []))
theorem leaves_marks {F : Fence} {n : Nat} {P : Program} {fn : Func} {tmps : Array Value} {R : Ending → World → Prop} (B : Nat) (G : World → Prop)
  (hG : ∀ W D, G W → B ≤ D → W.heap[D]? = some (.deferred (some [])) → G (W.putObj D (.deferred none))) (hfin : ∀ W, G W → LeavesInM F n P fn tmps R [] .returning W) :
  ∀ Ds W, Marks B Ds W → G W → LeavesInM F n P fn tmps R (Ds.map markOf) .returning W
 | [], W, _, h => hfin W h
 | D :: Ds, W, hm, h => by
  obtain ⟨hn, hd⟩ := hm
  obtain ⟨hB, hD⟩ := hd D (List.mem_cons_self)
  have hnd := List.nodup_cons.1 hn
  refine ⟨by simp, .inl ⟨D, _, rfl, run_takeDeferred hD, ?_⟩⟩
  refine leaves_marks B G hG hfin Ds _ ⟨hnd.2, fun D' h' => ?_⟩ (hG W D h hB hD)
  obtain ⟨h1, h2⟩ := hd D' (List.mem_cons_of_mem _ h')
  exact ⟨h1, (World.putObj_heap_other (fun (e : D' = D) => hnd.1 (e ▸ h'))).trans h2⟩
theorem Marks.keep {B N : Nat} {Ds : List Nat} {W W' : World} (h : Marks B Ds W) (hb : Below N W W') (hl : ∀ D, D ∈ Ds → D < N) : Marks B Ds W' := ⟨h.1, fun D hd => ⟨(h.2 D hd).1, (hb.block D (hl D hd)).trans (h.2 D hd).2⟩⟩
theorem Marks.lt {B : Nat} {Ds : List Nat} {W : World} (h : Marks B Ds W) : ∀ D, D ∈ Ds → D < W.heap.size := fun D hd => (Array.getElem?_eq_some_iff.1 (h.2 D hd).2).1
theorem Marks.set {B : Nat} {Ds : List Nat} {W : World} (h : Marks B Ds W) (g : Nat) (hg : g < B) (j : Nat) (u : Value) : Marks B Ds (W.setCell ⟨g, j, none⟩ u) := ⟨h.1, fun D hd => ⟨(h.2 D hd).1, blk_keep_ (h.2 D hd).2 g (by have := (h.2 D hd).1; omega) j u⟩⟩
/-- What lies at the end: the two results. -/
def DistEnd (Bd Be : Nat) (x y : Int) (w W : World) : Prop := W.cell? ⟨Bd, 0, none⟩ = some (.int .i64 x) ∧ W.cell? ⟨Be, 0, none⟩ = some (.int .i64 y) ∧ Below w.heap.size w W
theorem DistEnd.put {Bd Be : Nat} {x y : Int} {w : World} (B : Nat) (hB : w.heap.size ≤ B) (W : World) (D : Nat) (h : DistEnd Bd Be x y w W) (hD : B ≤ D) (hd : W.heap[D]? = some (.deferred (some []))) : DistEnd Bd Be x y w (W.putObj D (.deferred none)) := by
 obtain ⟨h1, h2, h3⟩ := h
 exact ⟨cell_kept h1 (grownBy_putObj' W D _) (fun r e => by cases e; exact ⟨_, hd, rfl⟩), cell_kept h2 (grownBy_putObj' W D _) (fun r e => by cases e; exact ⟨_, hd, rfl⟩), h3.trans (belowK_b (w := w) (Nat.le_refl _) W D _ _ (Nat.le_trans hB hD) hd rfl rfl)⟩
theorem enters97 : ∀ args W, (callFunc 97 args).run Tryd.prog W = .ok (.enter 97 args) W := enters_of Tryd.func97 (by kernel_rfl) rfl
def ptrBlock : Value → Nat
 | .pointer (some a) => a.block
 | _ => 0
def lostBy (rows : List (List Int)) (s : Nat) : Bool := (collectOk rows ((2 ^ rows.length - 1 - s : Nat) : Int) []).isNone
def distFrom (rows : List (List Int)) (size : Nat) : Nat → Nat
 | 0 => rows.length
 | d + 1 => if (setsUpto (size : Int) (2 ^ rows.length)).any (lostBy rows) = true then size else distFrom rows (size + 1) d
def distOf (rows : List (List Int)) : Nat := distFrom rows 1 (rows.length - 1)
def code_Distance.f (k : Nat) (a0_0 : Int) (l0_1 : List (List Int)) (a0_2 : Int) : Option (Int × Int) :=
 (code_Rows.f k a0_0 l0_1 a0_2).bind fun r => if r.2 = 0 then (if okRows r.1 = true ∧ 0 < r.1.length then some ((distOf r.1 : Nat), 0) else none) else some (0, r.2)
theorem keeps_below {W W' : World} (hb : Below W.heap.size W W') : KeepsOthers W W' := ⟨hb.size, fun k o hk _ => (hb.block k (Array.getElem?_eq_some_iff.1 hk).1).trans hk⟩
theorem dist_mask {n x : Nat} (hn : n ≤ 24) (hx : x < 2 ^ n) : IntKind.i64.wrap (IntKind.i64.wrap (IntKind.i64.wrap (2 ^ n) - 1) - (x : Int)) = ((2 ^ n - 1 - x : Nat) : Int) := by
 have hpl : 2 ^ n ≤ 2 ^ 24 := Nat.pow_le_pow_right (by decide) hn
 have h2 : ((2 : Int) ^ n) = ((2 ^ n : Nat) : Int) := by simp
 rw [h2]
 generalize 2 ^ n = z at *
 simp only [IntKind.wrap_i64]
 omega
/-- What Distance has between two rounds. -/
def DistInv (Bd Be Br N size Bz : Nat) (vr : Value) (w w1 W : World) : Prop :=
 W.heap[Bd]? = some (.cells #[.int .i64 0] 3 (0, 0)) ∧ W.heap[Be]? = some (.cells #[.int .i64 0] 27 (0, 0)) ∧ W.heap[Br]? = some (.cells #[vr] 29 (0, 0)) ∧ W.heap[Br + 1]? = some (.cells #[.int .i64 (N : Int)] 3 (0, 0)) ∧
  W.heap[Bz]? = some (.cells #[.int .i64 (size : Int)] 3 (0, 0)) ∧ w1.heap.size ≤ Bz ∧ Below w1.heap.size w1 W
set_option maxHeartbeats 4000000 in
set_option maxRecDepth 100000 in
theorem code_Distance.calls (k : Nat) (a0_0 : Int) (A0_1 : Option Addr) (c0_1 : Nat) (l0_1 : List (List Int)) (a0_2 : Int) (r1 r2 : Int) (w : World) (hG : HG w) (hr0_1 : Kd.C (Kd.slice 3 (Kd.int .i64)) w A0_1 l0_1.length l0_1) (hc0_1 : l0_1.length ≤ c0_1) (h : code_Distance.f k a0_0 l0_1 a0_2 = some (r1, r2)) :
  Calls Tryd.prog 32 #[.agg #[.int .i64 a0_0, .slice A0_1 l0_1.length c0_1, .int .i64 a0_2]] w fun e w' => e = .returned (.tuple #[.int .i64 r1, .int .i64 r2]) ∧ Below w.heap.size w w' := by
 obtain ⟨⟨rows, e0⟩, hrows, h2⟩ := Option.bind_eq_some_iff.1 h
 have HRW := Aside0.mk (fun W (hb : Below w.heap.size w W) => code_Rows.calls k a0_0 A0_1 c0_1 l0_1 a0_2 rows e0 W (hG.below hb) (Kd.C_below hr0_1 hb) hc0_1 hrows)
 have hu24 := Tryd.underlying24
 clear hrows h
 refine (callsIn_wide (n := 6)).1 ?_
 refine callsIn_of_wp_marks Tryd.func32 rfl trivial ?_ rfl
 simp only [Tryd.ntmps32, List.size_toArray, List.length_cons, List.length_nil, Nat.reduceAdd, Nat.reduceSub, Array.replicate_succ, Array.replicate_zero, List.push_toArray, List.append_toArray, List.nil_append, List.cons_append]
 by_cases he0 : e0 = 0
 ·subst he0
  rw [if_pos rfl] at h2
  dsimp only at h2
  by_cases hok : okRows rows = true ∧ 0 < rows.length
  ·rw [if_pos hok] at h2
   obtain ⟨hok, hpos⟩ := hok
   obtain ⟨h3, h4, h5, h6⟩ := okRows_iff hok
   obtain ⟨rfl, rfl⟩ := Prod.mk.inj (Option.some.inj h2)
   have HG := Aside0.mk hG
   have H6 := Aside0.mk h6
   clear h2 hG hr0_1 h6 hok
   gi_wp2_with (refine ⟨trivial, ?_⟩; gi_at_call 17; refine (callsIn_wide.2 (HRW.out _ (by repeat (first | exact Below.refl _ _ | apply below_alloc)))).mono ?_; rintro e w1 ⟨v0, rfl, hS, hb1⟩; obtain ⟨Ar, cr, rfl, hcr, hCr⟩ := Kd.S_reads hS; have HCR := Aside0.mk hCr; have HB1 := Aside0.mk hb1; have HD := Aside0.mk (blk_below (blk_alloc (blk_new1 w (.cells #[.int .i64 a0_0, .slice A0_1 l0_1.length c0_1, .int .i64 a0_2] 24) (.cells #[.int .i64 0] 3)) (.cells #[.int .i64 0] 27)) hb1); have HE := Aside0.mk (blk_below (blk_new2 w (.cells #[.int .i64 a0_0, .slice A0_1 l0_1.length c0_1, .int .i64 a0_2] 24) (.cells #[.int .i64 0] 3) (.cells #[.int .i64 0] 27)) hb1); clear hS hb1 hCr)
   have HI0 : Aside0 (DistInv (w.heap.size + 1) (w.heap.size + 1 + 1) w1.heap.size rows.length 1 (w1.heap.size + 1 + 1) (.slice Ar rows.length cr) w w1 (((w1.alloc (.cells #[.slice Ar rows.length cr] 29)).alloc (.cells #[.int .i64 (rows.length : Int)] 3)).alloc (.cells #[.int .i64 1] 3))) :=
    ⟨blk_alloc (blk_alloc (blk_alloc HD.out _) _) _, blk_alloc (blk_alloc (blk_alloc HE.out _) _) _, blk_alloc (blk_alloc (blk_new _ _) _) _, blk_alloc (blk_new1 _ _ _) _, blk_new2 _ _ _ _, by omega, below_alloc (below_alloc (below_alloc (Below.refl _ _) _) _) _⟩
   refine wpIn_loop (fun a W => ∃ (size Bz : Nat) (Ds : List Nat) (u19 u20 u21 u22 u23 u24 u25 u26 u37 : Value), a = { tmps := #[.agg #[.int .i64 a0_0, .slice A0_1 l0_1.length c0_1, .int .i64 a0_2], .pointer (some ⟨w.heap.size, 0, none⟩), .pointer (some ⟨w.heap.size + 1, 0, none⟩), .pointer (some ⟨w.heap.size + 1 + 1, 0, none⟩), .pointer (some ⟨w1.heap.size, 0, none⟩), .int .i64 0, .pointer (some ⟨w1.heap.size + 1, 0, none⟩), .pointer (some ⟨Bz, 0, none⟩), undef, .tuple #[.slice Ar rows.length cr, .int .i64 0], .agg #[.int .i64 a0_0, .slice A0_1 l0_1.length c0_1, .int .i64 a0_2], .tuple #[.slice Ar rows.length cr, .int .i64 0], .slice Ar rows.length cr, .int .i64 0, .int .i64 0, .bool false, undef, .slice Ar rows.length cr, .int .i64 (rows.length : Int), u19, u20, u21, u22, u23, u24, u25, u26, undef, undef, undef, undef, undef, undef, undef, undef, undef, undef, u37, undef], defers := Ds.map markOf } ∧ size ≤ rows.length ∧ 1 ≤ size ∧ Aside0 (distOf rows = distFrom rows size (rows.length - size)) ∧ Aside0 (DistInv (w.heap.size + 1) (w.heap.size + 1 + 1) w1.heap.size rows.length size Bz (.slice Ar rows.length cr) w w1 W) ∧ Aside0 (Marks w1.heap.size Ds W))
    (fun a W => rows.length - (intOf ((W.cell? ⟨ptrBlock (a.tmps.getD 7 undef), 0, none⟩).getD undef)).toNat)
    ⟨1, _, [], _, _, _, _, _, _, _, _, _, rfl, hpos, Nat.le_refl _, ⟨rfl⟩, HI0, ⟨⟨List.nodup_nil, fun D h => by cases h⟩⟩⟩ ?_
   rintro a wr ⟨size, Bz, Ds, u19, u20, u21, u22, u23, u24, u25, u26, u37, rfl, hs1, hs2, HDF, HI, HM⟩
   ·clear HI0
    obtain ⟨hD, hE, hR, hNn, hZ, hbz, hB⟩ := HI.out
    have hcr0 := blk_cell hR 0
    have hcn0 := blk_cell hNn 0
    have hcz0 := blk_cell hZ 0
    by_cases hlt : size < rows.length
    ·have HSE := Aside0.mk (sets_calls rows.length (size : Int) wr)
     clear hD hE hR hNn hZ hB
     gi_wp2_with (first | (refine ⟨trivial, ?_⟩; gi_at_call 72; refine (callsIn_wide.2 HSE.out).mono ?_; rintro e w2 ⟨rfl, hw2⟩) | (gi_at_call 72; refine (callsIn_wide.2 HSE.out).mono ?_; rintro e w2 ⟨rfl, hw2⟩))
     have HB1' := Aside0.mk (below_step (by repeat (first | exact Below.refl _ _ | apply below_alloc)) HB1.out : Below w.heap.size w w1)
     have hbn := blk_alloc (blk_new wr (.cells #[.int .i64 (rows.length : Int)] 3)) (.cells #[.int .i64 (size : Int)] 3)
     have hbs := blk_new1 wr (.cells #[.int .i64 (rows.length : Int)] 3) (.cells #[.int .i64 (size : Int)] 3)
     have hb12 := below_alloc (below_alloc (Below.refl wr.heap.size wr) (.cells #[.int .i64 (rows.length : Int)] 3)) (.cells #[.int .i64 (size : Int)] 3)
     obtain ⟨W2, hW2⟩ : ∃ W2, (wr.alloc (.cells #[.int .i64 (rows.length : Int)] 3)).alloc (.cells #[.int .i64 (size : Int)] 3) = W2 := ⟨_, rfl⟩
     rw [hW2] at hbn hbs hb12 ⊢
     obtain ⟨hD, hE, hR, hNn, hZ, hbz, hB⟩ := HI.out
     have HB2 := Aside0.mk (below_step hB hb12)
     have HM2 := Aside0.mk (HM.out.keep hb12 HM.out.lt)
     have HD2 := Aside0.mk (blk_below hD hb12)
     have HE2 := Aside0.mk (blk_below hE hb12)
     have HR2 := Aside0.mk (blk_below hR hb12)
     have HN2 := Aside0.mk (blk_below hNn hb12)
     have HZ2 := Aside0.mk (blk_below hZ hb12)
     have hG2 : XB.HG W2 := HG.out.below (below_step HB1'.out HB2.out)
     have HSQ := Aside0.mk (sets1_stops 5 rows.length (size : Int) h3 (by decide) wr.heap.size (wr.heap.size + 1) W2 hG2 (blk_cell hbn 0) (blk_cell hbs 0))
     have HG2 := Aside0.mk hG2
     have HBN := Aside0.mk hbn
     have HBS := Aside0.mk hbs
     clear hD hE hR hNn hZ hB hbn hbs hb12 hG2 hcr0 hcn0 hcz0 hW2
     refine wpIn_rangeFunc_ownF (F := Fence.wide) (n := 6) rfl (by decide) (gf := 97) (lb := #[.pointer (some ⟨wr.heap.size, 0, none⟩), .pointer (some ⟨wr.heap.size + 1, 0, none⟩)]) rfl trivial enters97 HSQ.out belowK_t (belowK_b (Nat.le_refl _)) (Below.refl _ _) (fun _ => rfl)
      (fun pre W => (∀ x, x ∈ pre → lostBy rows x.1 = false) ∧ Below W2.heap.size W2 W)
      (fun c pre W => c = .ret ∧ (∃ x, x ∈ pre ∧ lostBy rows x.1 = true) ∧ DistEnd (w.heap.size + 1) (w.heap.size + 1 + 1) (size : Int) 0 w W ∧ Marks w1.heap.size Ds W)
      (fun s A B row hs hg hr => ⟨hs.1, hs.2.grown hg hs.2.size (fun k e => (hr k e).1)⟩)
      ?hIx ⟨fun x hx => by (cases hx), Below.refl _ _⟩ (fun x => { tmps := #[.agg #[.int .i64 a0_0, .slice A0_1 l0_1.length c0_1, .int .i64 a0_2], .pointer (some ⟨w.heap.size, 0, none⟩), .pointer (some ⟨w.heap.size + 1, 0, none⟩), .pointer (some ⟨w.heap.size + 1 + 1, 0, none⟩), .pointer (some ⟨w1.heap.size, 0, none⟩), .int .i64 0, .pointer (some ⟨w1.heap.size + 1, 0, none⟩), .pointer (some ⟨Bz, 0, none⟩), .int .i64 (x.1 : Int), .tuple #[.slice Ar rows.length cr, .int .i64 0], .agg #[.int .i64 a0_0, .slice A0_1 l0_1.length c0_1, .int .i64 a0_2], .tuple #[.slice Ar rows.length cr, .int .i64 0], .slice Ar rows.length cr, .int .i64 0, .int .i64 0, .bool false, undef, .slice Ar rows.length cr, .int .i64 (rows.length : Int), .int .i64 (size : Int), .int .i64 (rows.length : Int), .bool true, u22, u23, .int .i64 (rows.length : Int), .int .i64 (size : Int), .func (.func 97) #[] #[.pointer (some ⟨wr.heap.size, 0, none⟩), .pointer (some ⟨wr.heap.size + 1, 0, none⟩)], .int .i64 (x.1 : Int), undef, undef, undef, undef, undef, undef, undef, undef, undef, u37, undef], defers := [] }) ?assign ?body ?done ?stop
     case hIx =>
      rintro c s A B row ⟨h1, h2, ⟨h3, h4, h5⟩, h6⟩ hg hr
      have hle : w.heap.size ≤ W2.heap.size := (below_step HB1'.out HB2.out).size
      refine ⟨h1, h2, ⟨cell_kept h3 hg (fun r e => (hr r e).2), cell_kept h4 hg (fun r e => (hr r e).2), h5.grown hg h5.size (fun k e => Nat.le_trans hle (hr k e).1)⟩, h6.1, fun D hd => ⟨(h6.2 D hd).1, (hg.block D (h6.lt D hd) (fun e => ?_)).trans (h6.2 D hd).2⟩⟩
      have := HM2.out.lt D hd
      have := (hr D e.symm).1
      omega
     case assign =>
      intro l x W K hK
      gi_wp2
      exact hK
     case body =>
      rintro l pre x W ⟨hp, hBW⟩ hlen
      have hmx : Tryd.prog.follows .mixedOrders = true := by kernel_rfl
      have hcr0 := blk_cell (blk_below HR2.out hBW) 0
      have hcn0 := blk_cell (blk_below HN2.out hBW) 0
      have hcz0 := blk_cell (blk_below HZ2.out hBW) 0
      have hBW0 := Aside0.mk (below_step (below_step HB1'.out HB2.out) hBW : Below w.heap.size w W)
      have hBW1 := Aside0.mk (below_step HB2.out hBW : Below w1.heap.size w1 W)
      have HCO := Aside0.mk (show ∀ (mask : Int) W', Below W.heap.size W W' → Calls Tryd.prog 67 #[.slice Ar rows.length cr, .int .i64 mask, .slice none 0 0] W' fun e w' => Below W'.heap.size W' w' ∧ ∃ b : Bool, (b = (collectOk rows mask []).isNone) ∧ ∃ pv, e = .returned (.pointer pv) ∧ (pv.isNone = b) from by
       intro mask W' hb
       refine (code_collect.calls 0 W' Ar cr rows mask none 0 [] (HG.out.below (below_step hBW0.out hb)) (Kd.C_below HCR.out (below_step hBW1.out hb)) hcr h3 h4 h5 (by decide) ⟨rfl, by decide, fun h_ => absurd h_ (by decide)⟩ (Nat.le_refl _) (.inl ⟨rfl, rfl, rfl⟩) (fun k hk => ⟨(H6.out k hk).1, (H6.out k hk).2, by simp [rdOf]⟩)).mono ?_
       rintro e w' ⟨hb', ⟨h1, rfl⟩ | ⟨gs, st, h1, rfl, _⟩⟩
       ·exact ⟨hb', true, by rw [h1]; rfl, none, rfl, rfl⟩
       ·exact ⟨hb', false, by rw [h1]; rfl, some ⟨gs, 0, none⟩, rfl, rfl⟩)
      have hup := Tryd.underlying96
      gi_wp2
      first
      | (gi_region_with_o (first | (refine ⟨trivial, ?_⟩; gi_at_call 67; refine (CallsIn.inRound l (callsIn_wide.2 (HCO.out _ _ (by repeat (first | exact Below.refl _ _ | apply pw_below_drewN | apply below_drew))))).mono ?_; rintro e w5 ⟨hb5, bb, hbb, pv, rfl, hpv⟩; have HB5 := Aside0.mk hb5; have HBB := Aside0.mk hbb; clear hb5 hbb) | (gi_at_call 67; refine (CallsIn.inRound l (callsIn_wide.2 (HCO.out _ _ (by repeat (first | exact Below.refl _ _ | apply pw_below_drewN | apply below_drew))))).mono ?_; rintro e w5 ⟨hb5, bb, hbb, pv, rfl, hpv⟩; have HB5 := Aside0.mk hb5; have HBB := Aside0.mk hbb; clear hb5 hbb)))
      | (gi_region_with_o? (first | (refine ⟨trivial, ?_⟩; gi_at_call 67; refine (CallsIn.inRound l (callsIn_wide.2 (HCO.out _ _ (by repeat (first | exact Below.refl _ _ | apply pw_below_drewN | apply below_drew))))).mono ?_; rintro e w5 ⟨hb5, bb, hbb, pv, rfl, hpv⟩; have HB5 := Aside0.mk hb5; have HBB := Aside0.mk hbb; clear hb5 hbb) | (gi_at_call 67; refine (CallsIn.inRound l (callsIn_wide.2 (HCO.out _ _ (by repeat (first | exact Below.refl _ _ | apply pw_below_drewN | apply below_drew))))).mono ?_; rintro e w5 ⟨hb5, bb, hbb, pv, rfl, hpv⟩; have HB5 := Aside0.mk hb5; have HBB := Aside0.mk hbb; clear hb5 hbb)))
      all_goals
       have hb5 : Below W.heap.size W w5 := below_step (by repeat (first | exact Below.refl _ _ | apply pw_below_drewN | apply below_drew)) HB5.out
       have hbb := HBB.out
       rw [dist_mask h3 x.2] at hbb
       have HLB := Aside0.mk (show bb = lostBy rows x.1 from hbb)
       have HB5W := Aside0.mk hb5
       have HPV := Aside0.mk hpv
       have hd5 := blk_below (blk_below HD2.out hBW) hb5
       have he5 := blk_below (blk_below HE2.out hBW) hb5
       have hz5 := blk_below (blk_below HZ2.out hBW) hb5
       have hd50 := blk_cell hd5 0
       have hd51 := blk_frozen hd5 0
       have he50 := blk_cell he5 0
       have he51 := blk_frozen he5 0
       have hz50 := blk_cell hz5 0
       have HD5 := Aside0.mk hd5
       have HE5 := Aside0.mk he5
       clear HB5 HBB hbb hb5 HCO hpv hcr0 hcn0 hcz0 hd5 he5 hz5 hup
       cases bb with
       | false =>
        clear hd50 hd51 he50 he51 hz50
        gi_wp2
        exact ⟨keeps_below HB5W.out, HB5W.out.mono hBW.size, fun y hy => by
         rcases List.mem_append.1 hy with hy | hy
         ·exact hp y hy
         ·obtain rfl := List.mem_singleton.1 hy
          exact HLB.out.symm, below_step hBW HB5W.out⟩
       | true =>
        gi_wp2
        have hl1 := blk_lt HD.out
        have hl2 := blk_lt HE.out
        have hle := HB1'.out.size
        have hr1 := blk_cell (blk_keep_ (g := w.heap.size + 1) (blk_set HD5.out 0 (.int .i64 (size : Int))) (w.heap.size + 1 + 1) (by omega) 0 (.int .i64 0)) 0
        have hr2 := blk_cell (blk_set (blk_keep_ (g := w.heap.size + 1 + 1) HE5.out (w.heap.size + 1) (by omega) 0 (.int .i64 (size : Int))) 0 (.int .i64 0)) 0
        have hmk : Marks w1.heap.size Ds w5 := (HM2.out.keep hBW HM2.out.lt).keep HB5W.out (fun D hd => Nat.lt_of_lt_of_le (HM2.out.lt D hd) hBW.size)
        exact ⟨(keeps_below HB5W.out).trans ((KeepsOthers.setCell _ _ _).trans (KeepsOthers.setCell _ _ _)), rfl, ⟨x, by simp, HLB.out.symm⟩, ⟨hr1, hr2, below_set (below_set (below_step hBW0.out HB5W.out) (by omega)) (by omega)⟩, (hmk.set _ hl1 0 _).set _ hl2 0 _⟩
     case done =>
      rintro D xs W hDl hS ⟨hall, hBW⟩ hK
      have hz := blk_below HZ2.out hBW
      have hz0 := blk_cell hz 0
      have hz1 := blk_frozen hz 0
      gi_wp2
      have hw12 : w1.heap.size ≤ W2.heap.size := HB2.out.size
      have hnot : D ∉ Ds := fun h => by have := HM2.out.lt D h; omega
      have hzr := blk_cell HI.out.2.2.2.2.1 0
      have hcast : ((size : Int) + 1) = ((size + 1 : Nat) : Int) := by simp
      have hzn := blk_cell (blk_new W (.cells #[.int .i64 ((size : Int) + 1)] 3)) 0
      have hdo : distOf rows = distFrom rows (size + 1) (rows.length - (size + 1)) := by
       have hd := HDF.out
       obtain ⟨d, hd2⟩ : ∃ d, rows.length - size = d + 1 := ⟨rows.length - size - 1, by omega⟩
       rw [hd2] at hd
       unfold distFrom at hd
       rw [if_neg] at hd
       ·rw [hd]; congr 1; omega
       ·rw [List.any_eq_true]
        rintro ⟨y, hy, hly⟩
        rw [← hS] at hy
        obtain ⟨x, hx, rfl⟩ := List.mem_map.1 hy
        rw [hall x hx] at hly
        cases hly
      refine ⟨⟨size + 1, W.heap.size, D :: Ds, _, _, _, _, _, _, _, _, _, rfl, by omega, by omega, ⟨hdo⟩, ⟨blk_alloc (blk_below HD2.out hBW) _, blk_alloc (blk_below HE2.out hBW) _, blk_alloc (blk_below HR2.out hBW) _, blk_alloc (blk_below HN2.out hBW) _, by rw [hcast]; exact blk_new _ _, by have := hBW.size; omega, below_alloc (below_step HB2.out hBW) _⟩, ⟨List.nodup_cons.2 ⟨hnot, HM2.out.1⟩, fun D' h' => ?_⟩⟩, ?_⟩
      ·rcases List.mem_cons.1 h' with rfl | h'
       ·exact ⟨by omega, blk_alloc hK _⟩
       ·exact ⟨(HM2.out.2 D' h').1, blk_alloc (blk_below (HM2.out.2 D' h').2 hBW) _⟩
      ·show rows.length - (intOf (((W.alloc (.cells #[.int .i64 ((size : Int) + 1)] 3)).cell? ⟨W.heap.size, 0, none⟩).getD undef)).toNat < rows.length - (intOf ((wr.cell? ⟨Bz, 0, none⟩).getD undef)).toNat
       rw [hzr, hzn]
       simp [intOf]
       omega
     case stop =>
      rintro D c pre W hDl hSp ⟨rfl, ⟨x, hx, hlx⟩, hend, hmk⟩ hK
      have hdo : distOf rows = size := by
       obtain ⟨kk, hkk, hpre⟩ := hSp
       have hd := HDF.out
       obtain ⟨d, hd2⟩ : ∃ d, rows.length - size = d + 1 := ⟨rows.length - size - 1, by omega⟩
       rw [hd2] at hd
       unfold distFrom at hd
       rw [if_pos] at hd
       ·exact hd
       ·rw [List.any_eq_true]
        refine ⟨x.1, ?_, hlx⟩
        have hm : x.1 ∈ setsUpto (size : Int) kk := by rw [← hpre]; exact List.mem_map_of_mem hx
        rw [setsUpto, List.mem_filter, List.mem_range] at hm ⊢
        exact ⟨by omega, hm.2⟩
      have HDO := Aside0.mk hdo
      gi_wp2
      have hw12 : w1.heap.size ≤ W2.heap.size := HB2.out.size
      have hnot : D ∉ Ds := fun h => by have := HM2.out.lt D h; omega
      refine leaves_marks w1.heap.size (DistEnd (w.heap.size + 1) (w.heap.size + 1 + 1) (size : Int) 0 w) (fun W D h h1 h2 => h.put w1.heap.size HB1'.out.size W D h1 h2) (fun W h => ?_) (D :: Ds) _ ⟨List.nodup_cons.2 ⟨hnot, hmk.1⟩, fun D' h' => ?_⟩ hend
      ·obtain ⟨c1, c2, c3⟩ := h
       exact ⟨.tuple #[.int .i64 (size : Int), .int .i64 0], by simp [results, Tryd.f32, go_sem, c1, c2], by rw [HDO.out], c3⟩
      ·rcases List.mem_cons.1 h' with rfl | h'
       ·exact ⟨by omega, hK⟩
       ·exact hmk.2 D' h'
    ·obtain ⟨N, hN⟩ : ∃ N : Nat, N = rows.length := ⟨_, rfl⟩
     have hsz : size = N := by omega
     have hdo : distOf rows = N := by
      have := HDF.out
      rw [show rows.length - size = 0 by omega] at this
      exact this.trans hN.symm
     have HDO := Aside0.mk hdo
     rw [← hN] at hcn0
     subst hsz
     have hd0 := blk_cell hD 0
     have hd1 := blk_frozen hD 0
     have he0 := blk_cell hE 0
     have he1 := blk_frozen hE 0
     have HDk := Aside0.mk hD
     have HEk := Aside0.mk hE
     have HBk := Aside0.mk hB
     clear HDF hD hE hR hNn hZ hB HI hN hdo
     gi_wp2
     have hr1 := blk_cell (blk_keep_ (g := w.heap.size + 1) (blk_set HDk.out 0 (.int .i64 (size : Int))) (w.heap.size + 1 + 1) (by omega) 0 (.int .i64 0)) 0
     have hr2 := blk_cell (blk_set (blk_keep_ (g := w.heap.size + 1 + 1) HEk.out (w.heap.size + 1) (by omega) 0 (.int .i64 (size : Int))) 0 (.int .i64 0)) 0
     have hl1 := blk_lt HD.out
     have hl2 := blk_lt HE.out
     refine leaves_marks w1.heap.size (DistEnd (w.heap.size + 1) (w.heap.size + 1 + 1) (size : Int) 0 w) (fun W D h h1 h2 => h.put w1.heap.size (by omega) W D h1 h2) (fun W h => ?_) Ds _ ((HM.out.set _ hl1 0 _).set _ hl2 0 _) ⟨hr1, hr2, below_set (below_set (below_step (below_step (by repeat (first | exact Below.refl _ _ | apply below_alloc)) HB1.out) HBk.out) (by omega)) (by omega)⟩
     obtain ⟨c1, c2, c3⟩ := h
     exact ⟨.tuple #[.int .i64 (size : Int), .int .i64 0], by simp [results, Tryd.f32, go_sem, c1, c2], by rw [HDO.out], c3⟩
  ·rw [if_neg hok] at h2
   cases h2
 ·rw [if_neg he0] at h2
  obtain ⟨rfl, rfl⟩ := Prod.mk.inj (Option.some.inj h2)
  have he1 : (e0 == 0) = false := beq_eq_false_iff_ne.2 he0
  clear h2 hG hr0_1
  gi_wp2_with (first | (gi_at_call 17; refine (callsIn_wide.2 (HRW.out _ (by repeat (first | exact Below.refl _ _ | apply below_alloc)))).mono ?_; rintro e w1 ⟨v0, rfl, hS, hb1⟩; obtain ⟨Ar, cr, rfl⟩ := Kd.S_slice hS; have HB1 := Aside0.mk hb1; have HD := Aside0.mk (blk_below (blk_alloc (blk_new1 w (.cells #[.int .i64 a0_0, .slice A0_1 l0_1.length c0_1, .int .i64 a0_2] 24) (.cells #[.int .i64 0] 3)) (.cells #[.int .i64 0] 27)) hb1); have HE := Aside0.mk (blk_below (blk_new2 w (.cells #[.int .i64 a0_0, .slice A0_1 l0_1.length c0_1, .int .i64 a0_2] 24) (.cells #[.int .i64 0] 3) (.cells #[.int .i64 0] 27)) hb1); have hd0 := blk_cell (blk_alloc HD.out (.cells #[.slice Ar rows.length cr] 29)) 0; have hd1 := blk_frozen (blk_alloc HD.out (.cells #[.slice Ar rows.length cr] 29)) 0; have hee0 := blk_cell (blk_alloc HE.out (.cells #[.slice Ar rows.length cr] 29)) 0; have hee1 := blk_frozen (blk_alloc HE.out (.cells #[.slice Ar rows.length cr] 29)) 0; clear hS hb1) | (refine ⟨trivial, ?_⟩; gi_at_call 17; refine (callsIn_wide.2 (HRW.out _ (by repeat (first | exact Below.refl _ _ | apply below_alloc)))).mono ?_; rintro e w1 ⟨v0, rfl, hS, hb1⟩; obtain ⟨Ar, cr, rfl⟩ := Kd.S_slice hS; have HB1 := Aside0.mk hb1; have HD := Aside0.mk (blk_below (blk_alloc (blk_new1 w (.cells #[.int .i64 a0_0, .slice A0_1 l0_1.length c0_1, .int .i64 a0_2] 24) (.cells #[.int .i64 0] 3)) (.cells #[.int .i64 0] 27)) hb1); have HE := Aside0.mk (blk_below (blk_new2 w (.cells #[.int .i64 a0_0, .slice A0_1 l0_1.length c0_1, .int .i64 a0_2] 24) (.cells #[.int .i64 0] 3) (.cells #[.int .i64 0] 27)) hb1); have hd0 := blk_cell (blk_alloc HD.out (.cells #[.slice Ar rows.length cr] 29)) 0; have hd1 := blk_frozen (blk_alloc HD.out (.cells #[.slice Ar rows.length cr] 29)) 0; have hee0 := blk_cell (blk_alloc HE.out (.cells #[.slice Ar rows.length cr] 29)) 0; have hee1 := blk_frozen (blk_alloc HE.out (.cells #[.slice Ar rows.length cr] 29)) 0; clear hS hb1))
  have hr1 := blk_cell (blk_keep_ (g := w.heap.size + 1) (blk_set (blk_alloc HD.out (.cells #[.slice Ar rows.length cr] 29)) 0 (.int .i64 0)) (w.heap.size + 1 + 1) (by omega) 0 (.int .i64 e0)) 0
  have hr2 := blk_cell (blk_set (blk_keep_ (g := w.heap.size + 1 + 1) (blk_alloc HE.out (.cells #[.slice Ar rows.length cr] 29)) (w.heap.size + 1) (by omega) 0 (.int .i64 0)) 0 (.int .i64 e0)) 0
  refine ⟨_, by simp [results, Tryd.f32, go_sem, hr1, hr2], rfl, ?_⟩
  exact below_set (below_set (below_alloc (below_step (by repeat (first | exact Below.refl _ _ | apply below_alloc)) HB1.out) _) (by omega)) (by omega)
end


/-! ### quietuslaw07_sanity: function 15 -/
/-! a code in its variable -/
def CodeAt (g : Nat) (A : Option Addr) (c : Nat) (d : Int) (l : List (List Int)) (m : Int) (W : World) : Prop :=
 W.heap[g]? = some (.cells #[.int .i64 d, .slice A l.length c, .int .i64 m] 24 (0, 0)) ∧ l.length ≤ c ∧ Kd.C (Kd.slice 3 (Kd.int .i64)) W A l.length l ∧ HG W
theorem CodeAt.below {g : Nat} {A : Option Addr} {c : Nat} {d : Int} {l : List (List Int)} {m : Int} {W W' : World} (h : CodeAt g A c d l m W) (hb : Below W.heap.size W W') : CodeAt g A c d l m W' :=
 ⟨blk_below h.1 hb, h.2.1, Kd.C_below h.2.2.1 hb, h.2.2.2.below hb⟩
section
variable {g : Nat} {A : Option Addr} {c : Nat} {d : Int} {l : List (List Int)} {m : Int} {W : World}
theorem CodeAt.hg (h : CodeAt g A c d l m W) : HG W := h.2.2.2
theorem CodeAt.c0 (h : CodeAt g A c d l m W) : W.cell? ⟨g, 0, none⟩ = some (.int .i64 d) := blk_cell h.1 0
theorem CodeAt.c1 (h : CodeAt g A c d l m W) : W.cell? ⟨g, 1, none⟩ = some (.slice A l.length c) := blk_cell h.1 1
theorem CodeAt.c2 (h : CodeAt g A c d l m W) : W.cell? ⟨g, 2, none⟩ = some (.int .i64 m) := blk_cell h.1 2
theorem CodeAt.rows {k : Nat} {r1 : List (List Int)} {r2 : Int} (h : CodeAt g A c d l m W) (hr : code_Rows.f k d l m = some (r1, r2)) :
  Calls Tryd.prog 17 #[.agg #[.int .i64 d, .slice A l.length c, .int .i64 m]] W fun e w' => ∃ v0_ : Value, e = .returned (.tuple #[v0_, .int .i64 r2]) ∧ Kd.S (Kd.slice 5 (Kd.int .u8)) 57 w' W.heap.size (fun _ => True) v0_ r1 ∧ Below W.heap.size W w' :=
 code_Rows.calls k d A c l m r1 r2 W h.2.2.2 h.2.2.1 h.2.1 hr
theorem CodeAt.encode {k : Nat} {s : ByteArray} {r1 : List ByteArray} {r2 : Int} (h : CodeAt g A c d l m W) (hr : code_Encode.f k d l m s = some (r1, r2)) :
  Calls Tryd.prog 18 #[.agg #[.int .i64 d, .slice A l.length c, .int .i64 m], .string s] W fun e w' => ∃ v0_ : Value, e = .returned (.tuple #[v0_, .int .i64 r2]) ∧ Kd.R Kd.string 9 w' W.heap.size (fun _ => True) v0_ r1 ∧ Below W.heap.size W w' :=
 code_Encode.calls k d A c l m s r1 r2 W h.2.2.2 h.2.2.1 h.2.1 hr
theorem CodeAt.check {k : Nat} {r : Int} (h : CodeAt g A c d l m W) (hr : code_Check.f k d l m = some r) :
  Calls Tryd.prog 20 #[.agg #[.int .i64 d, .slice A l.length c, .int .i64 m]] W fun e w' => e = .returned (.int .i64 r) ∧ Below W.heap.size W w' :=
 code_Check.calls k d A c l m r W h.2.2.2 h.2.2.1 h.2.1 hr
theorem CodeAt.pieces {k : Nat} {r : Int} (h : CodeAt g A c d l m W) (hr : code_Pieces.f k d l m = some r) :
  Calls Tryd.prog 21 #[.agg #[.int .i64 d, .slice A l.length c, .int .i64 m]] W fun e w' => e = .returned (.int .i64 r) ∧ Below W.heap.size W w' :=
 code_Pieces.calls k d A c l m r W h.2.2.2 h.2.2.1 h.2.1 hr
theorem CodeAt.size {k : Nat} {n r : Int} (h : CodeAt g A c d l m W) (hr : code_Size.f k d l m n = some r) :
  Calls Tryd.prog 23 #[.agg #[.int .i64 d, .slice A l.length c, .int .i64 m], .int .i64 n] W fun e w' => e = .returned (.int .i64 r) ∧ Below W.heap.size W w' :=
 code_Size.calls k d A c l m n r W h.2.2.2 h.2.2.1 h.2.1 hr
theorem CodeAt.recoverable {k : Nat} {n : Int} {r : Bool} (h : CodeAt g A c d l m W) (hr : code_Recoverable.f k d l m n = some r) :
  Calls Tryd.prog 30 #[.agg #[.int .i64 d, .slice A l.length c, .int .i64 m], .int .i64 n] W fun e w' => e = .returned (.bool r) ∧ Below W.heap.size W w' :=
 code_Recoverable.calls k d A c l m n r W h.2.2.2 h.2.2.1 h.2.1 hr
theorem CodeAt.distance {k : Nat} {r1 r2 : Int} (h : CodeAt g A c d l m W) (hr : code_Distance.f k d l m = some (r1, r2)) :
  Calls Tryd.prog 32 #[.agg #[.int .i64 d, .slice A l.length c, .int .i64 m]] W fun e w' => e = .returned (.tuple #[.int .i64 r1, .int .i64 r2]) ∧ Below W.heap.size W w' :=
 code_Distance.calls k d A c l m r1 r2 W h.2.2.2 h.2.2.1 h.2.1 hr
theorem CodeAt.decode {k : Nat} {n mask : Int} {Ap : Option Addr} {cp np : Nat} {p : List ByteArray} {r1 : ByteArray} {r2 : Int} (h : CodeAt g A c d l m W) (hn : p.length = np) (hp : Kd.C Kd.string W Ap np p) (hcp : np ≤ cp) (hr : code_Decode.f k d l m n mask p = some (r1, r2)) :
  Calls Tryd.prog 28 #[.agg #[.int .i64 d, .slice A l.length c, .int .i64 m], .int .i64 n, .int .i64 mask, .slice Ap np cp] W fun e w' => e = .returned (.tuple #[.string r1, .int .i64 r2]) ∧ Below W.heap.size W w' := by
 subst hn
 exact code_Decode.calls k d A c l m n mask Ap cp p r1 r2 W h.2.2.2 h.2.2.1 h.2.1 hp hcp hr
end
/-! the document's example -/
def exL : List (List Int) := [[0, 1], [2, 3]]
def exRows : List (List Int) := [[1, 0, 0, 0], [0, 1, 0, 0], [0, 0, 1, 0], [0, 0, 0, 1], [1, 1, 0, 0], [0, 0, 1, 1], [1, 2, 4, 8]]
def exB : ByteArray := ⟨#[1, 2, 3, 4, 5, 6, 7]⟩
def exParts : List ByteArray := [⟨#[1, 2]⟩, ⟨#[3, 4]⟩, ⟨#[5, 6]⟩, ⟨#[7, 0]⟩, ⟨#[2, 6]⟩, ⟨#[2, 6]⟩, ⟨#[43, 18]⟩]
def exBad : List ByteArray := [⟨#[1, 2]⟩, ⟨#[3, 4]⟩, ⟨#[5, 6]⟩, ⟨#[7, 0]⟩, ⟨#[2, 6]⟩, ⟨#[2, 7]⟩, ⟨#[43, 18]⟩]
theorem ex_check : code_Check.f 40 4 exL 1 = some 0 := by decide +kernel
theorem ex_rows : code_Rows.f 40 4 exL 1 = some (exRows, 0) := by decide +kernel
theorem ex_encode : code_Encode.f 40 4 exL 1 (⟨#[1, 2, 3, 4, 5, 6, 7]⟩ : ByteArray) = some (exParts, 0) := by decide +kernel
theorem ex_pieces : code_Pieces.f 40 4 exL 1 = some 7 := by decide +kernel
theorem ex_size : code_Size.f 40 4 exL 1 7 = some 2 := by decide +kernel
theorem ex_can1 : code_Recoverable.f 40 4 exL 1 124 = some true := by decide +kernel
theorem ex_can2 : code_Recoverable.f 40 4 exL 1 120 = some true := by decide +kernel
theorem ex_can3 : code_Recoverable.f 40 4 exL 1 60 = some false := by decide +kernel
theorem ex_dist : code_Distance.f 40 4 exL 1 = some (3, 0) := by decide +kernel
theorem ex_dec1 : code_Decode.f 40 4 exL 1 7 30 exParts = some (⟨#[1, 2, 3, 4, 5, 6, 7]⟩, 0) := by decide +kernel
theorem ex_dec2 : code_Decode.f 40 4 exL 1 7 60 exParts = some (⟨#[]⟩, 17) := by decide +kernel
theorem ex_dec3 : code_Decode.f 40 4 exL 1 7 127 exBad = some (⟨#[]⟩, 14) := by decide +kernel
theorem ex_row {w : World} {gr : Nat} (h : Kd.C (Kd.slice 5 (Kd.int .u8)) w (some ⟨gr, 0, none⟩) 7 exRows) (i : Nat) (hi : i < 7) (x : List Int) (s : ByteArray) (hx : rd_L4 exRows (i : Int) = x) (n : Nat) (hn : x.length = n) (hs : strOfNums x = s) :
  ∃ A0 c0, w.cell? ⟨gr, i, none⟩ = some (.slice A0 n c0) ∧ (convert 57 9 (.slice A0 n c0)).run Tryd.prog w = .ok (.string s) w := by
 obtain ⟨ad', A0, c0, e, h1, _, h2⟩ := at_L4 h (i : Int) (by omega) (by omega)
 obtain rfl : ⟨gr, 0, none⟩ = ad' := by injection e
 rw [hx, hn, Int.toNat_natCast] at h1
 rw [show (⟨gr, 0, none⟩ : Addr).add i = ⟨gr, i, none⟩ from add_plain _ _] at h1
 rw [hx, hn] at h2
 rw [← hs]
 exact ⟨A0, c0, h1, Kd.C_string Tryd.underlying57 Tryd.underlying5 Tryd.underlying9 h2⟩
theorem ex_part {w : World} {gp : Nat} {p : List ByteArray} (h : Kd.C Kd.string w (some ⟨gp, 0, none⟩) 7 p) (i : Nat) (hi : i < 7) (s : ByteArray) (hs : rdOf ByteArray.empty p (i : Int) = s) : w.cell? ⟨gp, i, none⟩ = some (.string s) := by
 obtain ⟨ad', e, h1⟩ := at_string_nat h i hi
 obtain rfl : ⟨gp, 0, none⟩ = ad' := by injection e
 rw [show (⟨gp, 0, none⟩ : Addr).add i = ⟨gp, i, none⟩ from add_plain _ _] at h1
 rw [h1, hs]
set_option maxHeartbeats 4000000 in
set_option maxRecDepth 100000 in
theorem quietuslaw07_sanity.yes (w : World) (hG : HG w) :
  Calls Tryd.prog 15 #[] w fun e w' => e = .returned (.bool true) ∧ Below w.heap.size w w' := by
 have HGw := Aside0.mk hG
 have hu24 := Tryd.underlying24
 have hex : quietuslaw07_example.f = some (4, exL, 1) := rfl
 have HEX := Aside0.mk hex
 have HRows := Aside0.mk ex_rows
 have HEnc := Aside0.mk ex_encode
 have HChk := Aside0.mk ex_check
 have HPie := Aside0.mk ex_pieces
 have HSiz := Aside0.mk ex_size
 have HR1 := Aside0.mk ex_can1
 have HR2 := Aside0.mk ex_can2
 have HR3 := Aside0.mk ex_can3
 have HDi := Aside0.mk ex_dist
 have HD1 := Aside0.mk ex_dec1
 have HD2 := Aside0.mk ex_dec2
 have HD3 := Aside0.mk ex_dec3
 generalize exL = L at HEX HRows HEnc HChk HPie HSiz HR1 HR2 HR3 HDi HD1 HD2 HD3
 clear hG hex
 go_enter Tryd.func15, Tryd.ntmps15
 go_upto_region 4 with (first
  | (go_at_call 56; (with_reducible refine (quietuslaw07_example.calls 4 L 1 _ HGw.out HEX.out).mono ?_); rintro e w5 ⟨v0, rfl, hN, hb5⟩; obtain ⟨A, c, rfl, hc, hC⟩ := Kd.N_reads hN; have HK0 := Aside0.mk (show CodeAt w5.heap.size A c 4 L 1 (w5.alloc (.cells #[.int .i64 4, .slice A L.length c, .int .i64 1] 24)) from ⟨blk_new _ _, hc, Kd.C_alloc hC _, (HGw.out.below hb5).alloc _⟩); have HB0 := Aside0.mk (below_alloc hb5 (.cells #[.int .i64 4, .slice A L.length c, .int .i64 1] 24)); clear hN hC hc hb5)
  | (go_at_call 17; (with_reducible refine (HK0.out.rows HRows.out).mono ?_); rintro e w6 ⟨v1, rfl, hS, hb⟩; obtain ⟨gr, cr, rfl, _, _, _⟩ := Kd.S_form hS (by decide); have hCr := (Kd.S_reads' hS).2.2; have HK1 := Aside0.mk (HK0.out.below hb); have HB1 := Aside0.mk (below_step HB0.out hb); have HCR1 := Aside0.mk (show Kd.C (Kd.slice 5 (Kd.int .u8)) w6 (some ⟨gr, 0, none⟩) 7 exRows from hCr); rw [show exRows.length = 7 from rfl]; clear hS hb hCr; generalize w5.heap.size = gc at *; have hz0 := HK1.out.c0; have hz1 := HK1.out.c1; have hz2 := HK1.out.c2)
  | (go_at_call 18; (with_reducible refine (HK1.out.encode HEnc.out).mono ?_); rintro e w7 ⟨v2, rfl, hR, hb⟩; have HK2 := Aside0.mk (HK1.out.below hb); have HB2 := Aside0.mk (below_step HB1.out hb); have HCR2 := Aside0.mk (Kd.C_below HCR1.out hb); obtain ⟨gp, cp, rfl, hgp, _, _⟩ := Kd.R_form hR (by decide); have HP2 := Aside0.mk (show Kd.R Kd.string 9 w7 w6.heap.size (fun _ => True) (.slice (some ⟨gp, 0, none⟩) 7 cp) exParts from hR); rw [show exParts.length = 7 from rfl]; have HGP := Aside0.mk hgp; have HBE := Aside0.mk hb; clear hR hb hgp hz0 hz1 hz2; have hz0 := HK2.out.c0; have hz1 := HK2.out.c1; have hz2 := HK2.out.c2))
 go_upto_region 6 with (first | (go_at_call 20; (with_reducible refine (HK2.out.check HChk.out).mono ?_); rintro e w8 ⟨rfl, hb⟩; have HKn := Aside0.mk (HK2.out.below hb); have HBn := Aside0.mk (below_step HB2.out hb); have HEn := Aside0.mk (below_step HBE.out hb); have HCn := Aside0.mk (Kd.C_below HCR2.out hb); have HPn := Aside0.mk (Kd.R_below HP2.out hb); clear HK2 HB2 HBE HCR2 HP2 hz0 hz1 hz2 hb; have HK2 := HKn; have HB2 := HBn; have HBE := HEn; have HCR2 := HCn; have HP2 := HPn; clear HKn HBn HEn HCn HPn; have hz0 := HK2.out.c0; have hz1 := HK2.out.c1; have hz2 := HK2.out.c2) | (go_at_call 21; (with_reducible refine (HK2.out.pieces HPie.out).mono ?_); rintro e w8 ⟨rfl, hb⟩; have HKn := Aside0.mk (HK2.out.below hb); have HBn := Aside0.mk (below_step HB2.out hb); have HEn := Aside0.mk (below_step HBE.out hb); have HCn := Aside0.mk (Kd.C_below HCR2.out hb); have HPn := Aside0.mk (Kd.R_below HP2.out hb); clear HK2 HB2 HBE HCR2 HP2 hz0 hz1 hz2 hb; have HK2 := HKn; have HB2 := HBn; have HBE := HEn; have HCR2 := HCn; have HP2 := HPn; clear HKn HBn HEn HCn HPn; have hz0 := HK2.out.c0; have hz1 := HK2.out.c1; have hz2 := HK2.out.c2) | (go_at_call 23; (with_reducible refine (HK2.out.size HSiz.out).mono ?_); rintro e w8 ⟨rfl, hb⟩; have HKn := Aside0.mk (HK2.out.below hb); have HBn := Aside0.mk (below_step HB2.out hb); have HEn := Aside0.mk (below_step HBE.out hb); have HCn := Aside0.mk (Kd.C_below HCR2.out hb); have HPn := Aside0.mk (Kd.R_below HP2.out hb); clear HK2 HB2 HBE HCR2 HP2 hz0 hz1 hz2 hb; have HK2 := HKn; have HB2 := HBn; have HBE := HEn; have HCR2 := HCn; have HP2 := HPn; clear HKn HBn HEn HCn HPn; have hz0 := HK2.out.c0; have hz1 := HK2.out.c1; have hz2 := HK2.out.c2))
 obtain ⟨hcp_, hCp⟩ := (Kd.R_reads' HP2.out).2
 have HCP := Aside0.mk (show Kd.C Kd.string _ (some ⟨gp, 0, none⟩) 7 exParts from hCp)
 obtain ⟨B4, b4, hr4, hs4⟩ := ex_row HCR2.out 4 (by omega) _ ⟨#[1, 1, 0, 0]⟩ rfl 4 rfl rfl
 obtain ⟨B5, b5, hr5, hs5⟩ := ex_row HCR2.out 5 (by omega) _ ⟨#[0, 0, 1, 1]⟩ rfl 4 rfl rfl
 obtain ⟨B6, b6, hr6, hs6⟩ := ex_row HCR2.out 6 (by omega) _ ⟨#[1, 2, 4, 8]⟩ rfl 4 rfl rfl
 have hp3 := ex_part HCP.out 3 (by omega) ⟨#[7, 0]⟩ rfl
 have hp4 := ex_part HCP.out 4 (by omega) ⟨#[2, 6]⟩ rfl
 have hp5 := ex_part HCP.out 5 (by omega) ⟨#[2, 6]⟩ rfl
 have hp6 := ex_part HCP.out 6 (by omega) ⟨#[43, 18]⟩ rfl
 clear hCp
 go_upto_region 7 with (fail)
 clear hr4 hr5 hr6 hs4 hs5 hs6 hp3 hp4 hp5 hp6 HCR2
 have HN7 := Aside0.mk (show exParts.length = 7 from rfl)
 have HM7 := Aside0.mk (show exBad.length = 7 from rfl)
 go_upto_region 11 with (first | (go_at_call 30; (with_reducible refine (HK2.out.recoverable HR1.out).mono ?_); rintro e w8 ⟨rfl, hb⟩; have HKn := Aside0.mk (HK2.out.below hb); have HBn := Aside0.mk (below_step HB2.out hb); have HEn := Aside0.mk (below_step HBE.out hb); have HPn := Aside0.mk (Kd.R_below HP2.out hb); have HCn := Aside0.mk (Kd.C_below HCP.out hb); clear HK2 HB2 HBE HP2 HCP hz0 hz1 hz2 hb; have HK2 := HKn; have HB2 := HBn; have HBE := HEn; have HP2 := HPn; have HCP := HCn; clear HKn HBn HEn HPn HCn; have hz0 := HK2.out.c0; have hz1 := HK2.out.c1; have hz2 := HK2.out.c2) | (go_at_call 30; (with_reducible refine (HK2.out.recoverable HR2.out).mono ?_); rintro e w8 ⟨rfl, hb⟩; have HKn := Aside0.mk (HK2.out.below hb); have HBn := Aside0.mk (below_step HB2.out hb); have HEn := Aside0.mk (below_step HBE.out hb); have HPn := Aside0.mk (Kd.R_below HP2.out hb); have HCn := Aside0.mk (Kd.C_below HCP.out hb); clear HK2 HB2 HBE HP2 HCP hz0 hz1 hz2 hb; have HK2 := HKn; have HB2 := HBn; have HBE := HEn; have HP2 := HPn; have HCP := HCn; clear HKn HBn HEn HPn HCn; have hz0 := HK2.out.c0; have hz1 := HK2.out.c1; have hz2 := HK2.out.c2) | (go_at_call 30; (with_reducible refine (HK2.out.recoverable HR3.out).mono ?_); rintro e w8 ⟨rfl, hb⟩; have HKn := Aside0.mk (HK2.out.below hb); have HBn := Aside0.mk (below_step HB2.out hb); have HEn := Aside0.mk (below_step HBE.out hb); have HPn := Aside0.mk (Kd.R_below HP2.out hb); have HCn := Aside0.mk (Kd.C_below HCP.out hb); clear HK2 HB2 HBE HP2 HCP hz0 hz1 hz2 hb; have HK2 := HKn; have HB2 := HBn; have HBE := HEn; have HP2 := HPn; have HCP := HCn; clear HKn HBn HEn HPn HCn; have hz0 := HK2.out.c0; have hz1 := HK2.out.c1; have hz2 := HK2.out.c2) | (go_at_call 32; (with_reducible refine (HK2.out.distance HDi.out).mono ?_); rintro e w8 ⟨rfl, hb⟩; have HKn := Aside0.mk (HK2.out.below hb); have HBn := Aside0.mk (below_step HB2.out hb); have HEn := Aside0.mk (below_step HBE.out hb); have HPn := Aside0.mk (Kd.R_below HP2.out hb); have HCn := Aside0.mk (Kd.C_below HCP.out hb); clear HK2 HB2 HBE HP2 HCP hz0 hz1 hz2 hb; have HK2 := HKn; have HB2 := HBn; have HBE := HEn; have HP2 := HPn; have HCP := HCn; clear HKn HBn HEn HPn HCn; have hz0 := HK2.out.c0; have hz1 := HK2.out.c1; have hz2 := HK2.out.c2) | (go_at_call 28; (with_reducible refine (HK2.out.decode HN7.out HCP.out hcp_ HD1.out).mono ?_); rintro e w8 ⟨rfl, hb⟩; have HKn := Aside0.mk (HK2.out.below hb); have HBn := Aside0.mk (below_step HB2.out hb); have HEn := Aside0.mk (below_step HBE.out hb); have HPn := Aside0.mk (Kd.R_below HP2.out hb); have HCn := Aside0.mk (Kd.C_below HCP.out hb); clear HK2 HB2 HBE HP2 HCP hz0 hz1 hz2 hb; have HK2 := HKn; have HB2 := HBn; have HBE := HEn; have HP2 := HPn; have HCP := HCn; clear HKn HBn HEn HPn HCn; have hz0 := HK2.out.c0; have hz1 := HK2.out.c1; have hz2 := HK2.out.c2) | (go_at_call 28; (with_reducible refine (HK2.out.decode HN7.out HCP.out hcp_ HD2.out).mono ?_); rintro e w8 ⟨rfl, hb⟩; have HKn := Aside0.mk (HK2.out.below hb); have HBn := Aside0.mk (below_step HB2.out hb); have HEn := Aside0.mk (below_step HBE.out hb); have HPn := Aside0.mk (Kd.R_below HP2.out hb); have HCn := Aside0.mk (Kd.C_below HCP.out hb); clear HK2 HB2 HBE HP2 HCP hz0 hz1 hz2 hb; have HK2 := HKn; have HB2 := HBn; have HBE := HEn; have HP2 := HPn; have HCP := HCn; clear HKn HBn HEn HPn HCn; have hz0 := HK2.out.c0; have hz1 := HK2.out.c1; have hz2 := HK2.out.c2))
 obtain ⟨hom, hfz⟩ := Kd.R_celln (ByteArray.empty) HP2.out (5 : Int) (by omega) (by decide)
 rw [show (5 : Int).toNat = 5 from rfl] at hom hfz
 have HPUT := Aside0.mk (Kd.R_putn HP2.out (5 : Int) ⟨#[2, 7]⟩)
 have hEw := below_set (j := 5) (v := .string ⟨#[2, 7]⟩) HBE.out HGP.out
 have HKw := Aside0.mk (HK1.out.below hEw)
 have HCw := Aside0.mk (show Kd.C Kd.string (World.setCell _ ⟨gp, 5, none⟩ (.string ⟨#[2, 7]⟩)) (some ⟨gp, 0, none⟩) 7 exBad from (Kd.R_reads' HPUT.out).2.2)
 have HBw := Aside0.mk (below_step HB1.out hEw)
 go_upto_region 12 with (fail)
 clear hz0 hz1 hz2 hom hfz hEw
 have hz0 := HKw.out.c0
 have hz1 := HKw.out.c1
 have hz2 := HKw.out.c2
 go_wp2_with (go_at_call 28; (with_reducible refine (HKw.out.decode HM7.out HCw.out hcp_ HD3.out).mono ?_); rintro e w8 ⟨rfl, hb⟩; have HBz := Aside0.mk (below_step HBw.out hb); clear hb)
 go_ret
 exact ⟨rfl, HBz.out⟩


/-! ### quietuslaw07_CodeEncodesAsSpecified: function 3 -/
section
variable {g : Nat} {A : Option Addr} {c : Nat} {d : Int} {l : List (List Int)} {m : Int} {W : World}
theorem CodeAt.few {k : Nat} {n : Int} {r : Bool} (h : CodeAt g A c d l m W) (hr : quietusref07_Few.f k d l m n = some r) :
  Calls Tryd.prog 14 #[.agg #[.int .i64 d, .slice A l.length c, .int .i64 m], .int .i64 n] W fun e w' => e = .returned (.bool r) ∧ Below W.heap.size W w' :=
 quietusref07_Few.calls k d A c l m n r W h.2.2.2 h.2.2.1 h.2.1 hr
theorem CodeAt.rcheck {k : Nat} {r : Int} (h : CodeAt g A c d l m W) (hr : quietusref07_Check.f k d l m = some r) :
  Calls Tryd.prog 16 #[.agg #[.int .i64 d, .slice A l.length c, .int .i64 m]] W fun e w' => e = .returned (.int .i64 r) ∧ Below W.heap.size W w' :=
 quietusref07_Check.calls k d A c l m r W h.2.2.2 h.2.2.1 h.2.1 hr
theorem CodeAt.rpieces {k : Nat} {r : Int} (h : CodeAt g A c d l m W) (hr : quietusref07_Pieces.f k d l m = some r) :
  Calls Tryd.prog 22 #[.agg #[.int .i64 d, .slice A l.length c, .int .i64 m]] W fun e w' => e = .returned (.int .i64 r) ∧ Below W.heap.size W w' :=
 quietusref07_Pieces.calls k d A c l m r W h.2.2.2 h.2.2.1 h.2.1 hr
theorem CodeAt.rsize {k : Nat} {n r : Int} (h : CodeAt g A c d l m W) (hr : quietusref07_Size.f k d l m n = some r) :
  Calls Tryd.prog 24 #[.agg #[.int .i64 d, .slice A l.length c, .int .i64 m], .int .i64 n] W fun e w' => e = .returned (.int .i64 r) ∧ Below W.heap.size W w' :=
 quietusref07_Size.calls k d A c l m n r W h.2.2.2 h.2.2.1 h.2.1 hr
theorem CodeAt.rrows {k : Nat} {r : List (List Int)} (h : CodeAt g A c d l m W) (hr : quietusref07_Rows.f k d l m = some r) :
  Calls Tryd.prog 27 #[.agg #[.int .i64 d, .slice A l.length c, .int .i64 m]] W fun e w' => ∃ v0_ : Value, e = .returned (v0_) ∧ Kd.S (Kd.slice 5 (Kd.int .u8)) 57 w' W.heap.size (fun _ => True) v0_ r ∧ Below W.heap.size W w' :=
 quietusref07_Rows.calls k d A c l m r W h.2.2.2 h.2.2.1 h.2.1 hr
theorem CodeAt.rencode {k : Nat} {s : ByteArray} {r1 : List ByteArray} {r2 : Int} (h : CodeAt g A c d l m W) (hr : quietusref07_Encode.f k d l m s = some (r1, r2)) :
  Calls Tryd.prog 19 #[.agg #[.int .i64 d, .slice A l.length c, .int .i64 m], .string s] W fun e w' => ∃ v0_ : Value, e = .returned (.agg #[v0_, .int .i64 r2]) ∧ Kd.R Kd.string 9 w' W.heap.size (fun _ => True) v0_ r1 ∧ Below W.heap.size W w' :=
 quietusref07_Encode.calls k d A c l m s r1 r2 W h.2.2.2 h.2.2.1 h.2.1 hr
end
set_option maxHeartbeats 4000000 in
set_option maxRecDepth 100000 in
/-- The law where it only looks at the example. -/
theorem law07_enc.aside (k : Nat) (d : Int) (A : Option Addr) (c : Nat) (l : List (List Int)) (m : Int) (s : ByteArray) (n : Int) (few : Bool) (w : World) (hG : HG w) (hC : Kd.C (Kd.slice 3 (Kd.int .i64)) w A l.length l) (hc : l.length ≤ c)
  (hfew : quietusref07_Few.f k d l m 20 = some few) (hout : few = false ∨ (200 < s.size ∧ s.size ≤ 4096) ∨ 4106 < s.size) :
  Calls Tryd.prog 3 #[.agg #[.int .i64 d, .slice A l.length c, .int .i64 m], .string s, .int .i64 n] w fun e w' => e = .returned (.bool true) ∧ Below w.heap.size w w' := by
 have HK := Aside0.mk (show CodeAt w.heap.size A c d l m (w.alloc (.cells #[.int .i64 d, .slice A l.length c, .int .i64 m] 24)) from ⟨blk_new _ _, hc, Kd.C_alloc hC _, hG.alloc _⟩)
 have HF := Aside0.mk hfew
 have hu24 := Tryd.underlying24
 have HGw := Aside0.mk hG
 clear hG hC hfew
 cases few with
 | false =>
  clear hout
  go_enter Tryd.func3, Tryd.ntmps3
  go_wp2_with (first | (go_at_call 14; (with_reducible refine (HK.out.few HF.out).mono ?_); rintro e w1 ⟨rfl, hb⟩; have HB := Aside0.mk (below_step (below_alloc (Below.refl w.heap.size w) _) hb); clear hb) | (go_at_call 15; (with_reducible refine (quietuslaw07_sanity.yes _ (HGw.out.below HB.out)).mono ?_); rintro e w2 ⟨rfl, hb⟩; have HB2 := Aside0.mk (below_step HB.out hb); clear hb))
  go_ret
  exact ⟨rfl, HB2.out⟩
 | true =>
  have hout : (200 < s.size ∧ s.size ≤ 4096) ∨ 4106 < s.size := by rcases hout with h | h; cases h; exact h
  obtain ⟨z, hz⟩ : ∃ z : Nat, z = s.size := ⟨_, rfl⟩
  rw [← hz] at hout
  have b1 : decide ((200 : Int) < (z : Int)) = true := decide_eq_true (by omega)
  rcases hout with h | h
  ·have b2 : decide ((z : Int) ≤ 4096) = true := decide_eq_true (by omega)
   subst hz
   clear h
   go_enter Tryd.func3, Tryd.ntmps3
   go_wp2_with (first | (go_at_call 14; (with_reducible refine (HK.out.few HF.out).mono ?_); rintro e w1 ⟨rfl, hb⟩; have HB := Aside0.mk (below_step (below_alloc (Below.refl w.heap.size w) _) hb); clear hb) | (go_at_call 15; (with_reducible refine (quietuslaw07_sanity.yes _ (HGw.out.below HB.out)).mono ?_); rintro e w2 ⟨rfl, hb⟩; have HB2 := Aside0.mk (below_step HB.out hb); clear hb))
   go_ret
   exact ⟨rfl, HB2.out⟩
  ·have b2 : decide ((z : Int) ≤ 4096) = false := decide_eq_false (by omega)
   have b3 : decide ((4106 : Int) < (z : Int)) = true := decide_eq_true (by omega)
   subst hz
   clear h
   go_enter Tryd.func3, Tryd.ntmps3
   go_wp2_with (first | (go_at_call 14; (with_reducible refine (HK.out.few HF.out).mono ?_); rintro e w1 ⟨rfl, hb⟩; have HB := Aside0.mk (below_step (below_alloc (Below.refl w.heap.size w) _) hb); clear hb) | (go_at_call 15; (with_reducible refine (quietuslaw07_sanity.yes _ (HGw.out.below HB.out)).mono ?_); rintro e w2 ⟨rfl, hb⟩; have HB2 := Aside0.mk (below_step HB.out hb); clear hb))
   go_ret
   exact ⟨rfl, HB2.out⟩
theorem CodeAt.keep {g : Nat} {A : Option Addr} {c : Nat} {d : Int} {l : List (List Int)} {m : Int} {w W W' : World} (h : CodeAt g A c d l m W) (hb : Below W.heap.size W W') : Aside0 (CodeAt g A c d l m W') := ⟨h.below hb⟩
set_option maxHeartbeats 8000000 in
set_option maxRecDepth 100000 in
/-- The law where it compares. -/
theorem law07_enc.main (k : Nat) (d : Int) (A : Option Addr) (c : Nat) (l : List (List Int)) (m : Int) (s : ByteArray) (n : Int) (e p z q : Int) (rows : List (List Int)) (L : List ByteArray) (w : World) (hG : HG w) (hC : Kd.C (Kd.slice 3 (Kd.int .i64)) w A l.length l) (hc : l.length ≤ c)
  (hfew : quietusref07_Few.f k d l m 20 = some true) (hin : s.size ≤ 200 ∨ (4096 < s.size ∧ s.size ≤ 4106))
  (h1 : quietusref07_Check.f k d l m = some e) (h2 : code_Check.f k d l m = some e) (h3 : code_Rows.f k d l m = some (rows, e)) (h4 : code_Encode.f k d l m s = some (L, q)) (h5 : quietusref07_Encode.f k d l m s = some (L, q))
  (h6 : code_Pieces.f k d l m = some p) (h7 : quietusref07_Pieces.f k d l m = some p) (h8 : code_Size.f k d l m n = some z) (h9 : quietusref07_Size.f k d l m n = some z)
  (h10 : quietusref07_SameTexts.f k L L = some true) (h11 : quietusref07_Rows.f k d l m = some rows) (h12 : quietusref07_SameRows.f k rows rows = some true) :
  Calls Tryd.prog 3 #[.agg #[.int .i64 d, .slice A l.length c, .int .i64 m], .string s, .int .i64 n] w fun e w' => e = .returned (.bool true) ∧ Below w.heap.size w w' := by
 have HK := Aside0.mk (show CodeAt w.heap.size A c d l m (w.alloc (.cells #[.int .i64 d, .slice A l.length c, .int .i64 m] 24)) from ⟨blk_new _ _, hc, Kd.C_alloc hC _, hG.alloc _⟩)
 have HF := Aside0.mk hfew
 have H1 := Aside0.mk h1
 have H2 := Aside0.mk h2
 have H3 := Aside0.mk h3
 have H4 := Aside0.mk h4
 have H5 := Aside0.mk h5
 have H6 := Aside0.mk h6
 have H7 := Aside0.mk h7
 have H8 := Aside0.mk h8
 have H9 := Aside0.mk h9
 have H10 := Aside0.mk h10
 have H11 := Aside0.mk h11
 have H12 := Aside0.mk h12
 have hu24 := Tryd.underlying24
 have hu36 := Tryd.underlying36
 have HB := Aside0.mk (below_alloc (Below.refl w.heap.size w) (.cells #[.int .i64 d, .slice A l.length c, .int .i64 m] 24))
 have HGw := Aside0.mk hG
 clear hG hC hfew h1 h2 h3 h4 h5 h6 h7 h8 h9 h10 h11 h12
 have HIN := Aside0.mk hin
 clear hin
 obtain ⟨x, hx⟩ : ∃ x : Nat, x = s.size := ⟨_, rfl⟩
 have b0 : decide ((200 : Int) < (x : Int)) = true → decide ((x : Int) ≤ 4096) = false := fun h => by have h := of_decide_eq_true h; have := HIN.out; exact decide_eq_false (by omega)
 have b3 : decide ((4106 : Int) < (x : Int)) = false := decide_eq_false (by have := HIN.out; omega)
 by_cases hbig : decide ((200 : Int) < (x : Int)) = true
 all_goals
  first
  | have b2 := b0 hbig
  | rw [Bool.not_eq_true] at hbig
  subst hx
  clear b0 hc
  go_enter Tryd.func3, Tryd.ntmps3
  go_upto_region 8 with (first
   | (go_at_call 14; (with_reducible refine (HK.out.few HF.out).mono ?_); rintro e w1 ⟨rfl, hb⟩; have hz0 := True.intro; have hz1 := True.intro; have hz2 := True.intro; have HKn := Aside0.mk (HK.out.below hb); have HBn := Aside0.mk (below_step HB.out hb); clear HK HB hz0 hz1 hz2 hb; have HK := HKn; have HB := HBn; clear HKn HBn; have hz0 := HK.out.c0; have hz1 := HK.out.c1; have hz2 := HK.out.c2)
   | (go_at_call 16; (with_reducible refine (HK.out.rcheck H1.out).mono ?_); rintro e w2 ⟨rfl, hb⟩; have HKn := Aside0.mk (HK.out.below hb); have HBn := Aside0.mk (below_step HB.out hb); clear HK HB hz0 hz1 hz2 hb; have HK := HKn; have HB := HBn; clear HKn HBn; have hz0 := HK.out.c0; have hz1 := HK.out.c1; have hz2 := HK.out.c2)
   | (go_at_call 17; (with_reducible refine (HK.out.rows H3.out).mono ?_); rintro e w3 ⟨v1, rfl, hS, hb⟩; have HKn := Aside0.mk (HK.out.below hb); have HBn := Aside0.mk (below_step HB.out hb); clear HK HB hz0 hz1 hz2 hb; have HK := HKn; have HB := HBn; clear HKn HBn; have hz0 := HK.out.c0; have hz1 := HK.out.c1; have hz2 := HK.out.c2; obtain ⟨Ar, cr, rfl, hcr, hCr⟩ := Kd.S_reads hS; have HCR := Aside0.mk hCr; have HNR := Aside0.mk hcr; clear hS hCr hcr)
   | (go_at_call 18; (with_reducible refine (HK.out.encode H4.out).mono ?_); rintro e w4 ⟨v2, rfl, hS, hb⟩; have HKn := Aside0.mk (HK.out.below hb); have HBn := Aside0.mk (below_step HB.out hb); have HCRn := Aside0.mk (Kd.C_below HCR.out hb); clear HK HB HCR hz0 hz1 hz2 hb; have HK := HKn; have HB := HBn; have HCR := HCRn; clear HKn HBn HCRn; have hz0 := HK.out.c0; have hz1 := HK.out.c1; have hz2 := HK.out.c2; obtain ⟨Al, cl, rfl, hcr, hCr⟩ := Kd.R_reads hS; have HCL := Aside0.mk hCr; have HNL := Aside0.mk hcr; clear hS hCr hcr)
   | (go_at_call 19; (with_reducible refine (HK.out.rencode H5.out).mono ?_); rintro e w5 ⟨v3, rfl, hS, hb⟩; have HKn := Aside0.mk (HK.out.below hb); have HBn := Aside0.mk (below_step HB.out hb); have HCRn := Aside0.mk (Kd.C_below HCR.out hb); have HCLn := Aside0.mk (Kd.C_below HCL.out hb); clear HK HB HCR HCL hz0 hz1 hz2 hb; have HK := HKn; have HB := HBn; have HCR := HCRn; have HCL := HCLn; clear HKn HBn HCRn HCLn; have hz0 := HK.out.c0; have hz1 := HK.out.c1; have hz2 := HK.out.c2; obtain ⟨Am, cm, rfl, hcr, hCr⟩ := Kd.R_reads hS; have HCM := Aside0.mk hCr; have HNM := Aside0.mk hcr; clear hS hCr hcr))
  have hb := below_drew (below_alloc (Below.refl w5.heap.size w5) (.cells #[.slice Am L.length cm, .int .i64 q] 36))
  have HLS := Aside0.mk (blk_drew (blk_new w5 (.cells #[.slice Am L.length cm, .int .i64 q] 36)))
  have hy0 := True.intro
  have hy1 := True.intro
  have HKn := Aside0.mk (HK.out.below hb)
  have HBn := Aside0.mk (below_step HB.out hb)
  have HCRn := Aside0.mk (Kd.C_below HCR.out hb)
  have HCLn := Aside0.mk (Kd.C_below HCL.out hb)
  have HCMn := Aside0.mk (Kd.C_below HCM.out hb)
  have HLSn := HLS
  clear HK HB HCR HCL HCM HLS hz0 hz1 hz2 hy0 hy1 hb
  have HK := HKn
  have HB := HBn
  have HCR := HCRn
  have HCL := HCLn
  have HCM := HCMn
  have HLS := HLSn
  clear HKn HBn HCRn HCLn HCMn HLSn
  have hz0 := HK.out.c0
  have hz1 := HK.out.c1
  have hz2 := HK.out.c2
  have hy0 := blk_cell HLS.out 0
  have hy1 := blk_cell HLS.out 1
  refine start_ (n := 38) (S := fun w' => w'.cell? ⟨w.heap.size, 0, none⟩ = some (.int .i64 d) ∧ w'.cell? ⟨w.heap.size, 1, none⟩ = some (.slice A l.length c) ∧ w'.cell? ⟨w.heap.size, 2, none⟩ = some (.int .i64 m) ∧ w'.cell? ⟨w5.heap.size, 0, none⟩ = some (.slice Am L.length cm) ∧ w'.cell? ⟨w5.heap.size, 1, none⟩ = some (.int .i64 q)) (ds := []) #[false, false, false, false, false, false, false, false, false, false, false, false, false, false, false, false, false, false, false, false, false, false, false, false, false, false, false, false, false, false, false, false, false, false, false, false, false, false] (by kernel_rfl) rfl rfl ⟨hz0, hz1, hz2, hy0, hy1⟩ (fun hHeld => ?_)
  generalize (w5.alloc (.cells #[.slice Am L.length cm, .int .i64 q] 36)).drew = wd at *
  refine pure_ (i := 2) (N := some 52) (v := ?_) (a' := ?_) #[false, false, true, false, false, false, false, false, false, false, false, false, false, false, false, false, false, false, false, false, false, false, false, false, false, false, false, false, false, false, false, false, false, false, false, false, false, false] rfl rfl (by kernel_rfl) (fun _ _ _ h => h) (Or.inl ⟨by rfl, ?_⟩) ?_ ?_
  rotate_left
  ·intro w'
   go_simp
   with_reducible rfl
  rotate_left
  ·simp only [Act.put, List.setIfInBounds_toArray, List.set_cons_zero, List.set_cons_succ, i64_w, i32_w]
   rfl
  refine take_ (i := 0) (N := some 50) (v := ?_) (a' := ?_) #[true, false, true, false, false, false, false, false, false, false, false, false, false, false, false, false, false, false, false, false, false, false, false, false, false, false, false, false, false, false, false, false, false, false, false, false, false, false] rfl rfl (by kernel_rfl) (fun _ _ _ h => h) (Or.inl ⟨by rfl, ?_⟩) hHeld ?_ ?_
  rotate_left
  ·rintro w' ⟨s0, s1, s2, s3, s4⟩
   go_simp
   with_reducible rfl
  rotate_left
  ·simp only [Act.put, List.setIfInBounds_toArray, List.set_cons_zero, List.set_cons_succ, i64_w, i32_w]
   rfl
  refine one_ (i := 1) (N := some 51) #[true, true, true, false, false, false, false, false, false, false, false, false, false, false, false, false, false, false, false, false, false, false, false, false, false, false, false, false, false, false, false, false, false, false, false, false, false, false] rfl rfl (by kernel_rfl) (by decide) (fun K hK => ?_)
  refine goes_ Tryd.func20 (by kernel_rfl) rfl #[.agg #[.int .i64 d, .slice A l.length c, .int .i64 m]] (by rfl) rfl rfl (by simp only [List.map_toArray, List.map_cons, List.map_nil]; rfl) ?_
  with_reducible refine (HK.out.check H2.out).mono ?_
  rintro e w6 ⟨rfl, hb⟩
  refine ⟨_, rfl, ?_⟩
  have HKn := Aside0.mk (HK.out.below hb)
  have HBn := Aside0.mk (below_step HB.out hb)
  have HCRn := Aside0.mk (Kd.C_below HCR.out hb)
  have HCLn := Aside0.mk (Kd.C_below HCL.out hb)
  have HCMn := Aside0.mk (Kd.C_below HCM.out hb)
  have HLSn := Aside0.mk (blk_below HLS.out hb)
  clear HK HB HCR HCL HCM HLS hz0 hz1 hz2 hy0 hy1 hb
  have HK := HKn
  have HB := HBn
  have HCR := HCRn
  have HCL := HCLn
  have HCM := HCMn
  have HLS := HLSn
  clear HKn HBn HCRn HCLn HCMn HLSn
  have hz0 := HK.out.c0
  have hz1 := HK.out.c1
  have hz2 := HK.out.c2
  have hy0 := blk_cell HLS.out 0
  have hy1 := blk_cell HLS.out 1
  refine hK.out _ _ ⟨hz0, hz1, hz2, hy0, hy1⟩ (fun hHeld => ?_)
  clear hK K
  refine norm_ (a' := ?_) ?_ ?_
  rotate_left
  ·show Act.put _ (some 51) _ = _
   simp only [Act.put, List.setIfInBounds_toArray, List.set_cons_zero, List.set_cons_succ, i64_w, i32_w]
   rfl
  refine pure_ (i := 3) (N := some 53) (v := ?_) (a' := ?_) #[true, true, true, true, false, false, false, false, false, false, false, false, false, false, false, false, false, false, false, false, false, false, false, false, false, false, false, false, false, false, false, false, false, false, false, false, false, false] rfl rfl (by kernel_rfl) (fun _ _ _ h => h) (Or.inl ⟨by rfl, ?_⟩) ?_ ?_
  rotate_left
  ·intro w'
   go_simp
   with_reducible rfl
  rotate_left
  ·simp only [Act.put, List.setIfInBounds_toArray, List.set_cons_zero, List.set_cons_succ, i64_w, i32_w]
   rfl
  refine pure_ (i := 4) (N := some 54) (v := ?_) (a' := ?_) #[true, true, true, true, true, false, false, false, false, false, false, false, false, false, false, false, false, false, false, false, false, false, false, false, false, false, false, false, false, false, false, false, false, false, false, false, false, false] rfl rfl (by kernel_rfl) (fun _ _ _ h => h) (Or.inl ⟨by rfl, ?_⟩) ?_ ?_
  rotate_left
  ·intro w'
   go_simp
   with_reducible rfl
  rotate_left
  ·simp only [Act.put, List.setIfInBounds_toArray, List.set_cons_zero, List.set_cons_succ, i64_w, i32_w]
   rfl
  refine pure_ (i := 5) (N := some 55) (v := ?_) (a' := ?_) #[true, true, true, true, true, true, false, false, false, false, false, false, false, false, false, false, false, false, false, false, false, false, false, false, false, false, false, false, false, false, false, false, false, false, false, false, false, false] rfl rfl (by kernel_rfl) (fun _ _ _ h => h) (Or.inl ⟨by rfl, ?_⟩) ?_ ?_
  rotate_left
  ·intro w'
   go_simp
   with_reducible rfl
  rotate_left
  ·simp only [Act.put, List.setIfInBounds_toArray, List.set_cons_zero, List.set_cons_succ, i64_w, i32_w]
   rfl
  refine pure_ (i := 6) (N := some 56) (v := ?_) (a' := ?_) #[true, true, true, true, true, true, true, false, false, false, false, false, false, false, false, false, false, false, false, false, false, false, false, false, false, false, false, false, false, false, false, false, false, false, false, false, false, false] rfl rfl (by kernel_rfl) (fun _ _ _ h => h) (Or.inl ⟨by rfl, ?_⟩) ?_ ?_
  rotate_left
  ·intro w'
   go_simp
   with_reducible rfl
  rotate_left
  ·simp only [Act.put, List.setIfInBounds_toArray, List.set_cons_zero, List.set_cons_succ, i64_w, i32_w]
   rfl
  refine pure_ (i := 7) (N := some 57) (v := ?_) (a' := ?_) #[true, true, true, true, true, true, true, true, false, false, false, false, false, false, false, false, false, false, false, false, false, false, false, false, false, false, false, false, false, false, false, false, false, false, false, false, false, false] rfl rfl (by kernel_rfl) (fun _ _ _ h => h) (Or.inl ⟨by rfl, ?_⟩) ?_ ?_
  rotate_left
  ·intro w'
   go_simp
   with_reducible rfl
  rotate_left
  ·simp only [Act.put, List.setIfInBounds_toArray, List.set_cons_zero, List.set_cons_succ, i64_w, i32_w]
   rfl
  refine pure_ (i := 8) (N := some 58) (v := ?_) (a' := ?_) #[true, true, true, true, true, true, true, true, true, false, false, false, false, false, false, false, false, false, false, false, false, false, false, false, false, false, false, false, false, false, false, false, false, false, false, false, false, false] rfl rfl (by kernel_rfl) (fun _ _ _ h => h) (Or.inl ⟨by rfl, ?_⟩) ?_ ?_
  rotate_left
  ·intro w'
   go_simp
   with_reducible rfl
  rotate_left
  ·simp only [Act.put, List.setIfInBounds_toArray, List.set_cons_zero, List.set_cons_succ, i64_w, i32_w]
   rfl
  refine pure_ (i := 9) (N := some 59) (v := ?_) (a' := ?_) #[true, true, true, true, true, true, true, true, true, true, false, false, false, false, false, false, false, false, false, false, false, false, false, false, false, false, false, false, false, false, false, false, false, false, false, false, false, false] rfl rfl (by kernel_rfl) (fun _ _ _ h => h) (Or.inl ⟨by rfl, ?_⟩) ?_ ?_
  rotate_left
  ·intro w'
   go_simp
   with_reducible rfl
  rotate_left
  ·simp only [Act.put, List.setIfInBounds_toArray, List.set_cons_zero, List.set_cons_succ, i64_w, i32_w]
   rfl
  refine take_ (i := 10) (N := some 60) (v := ?_) (a' := ?_) #[true, true, true, true, true, true, true, true, true, true, true, false, false, false, false, false, false, false, false, false, false, false, false, false, false, false, false, false, false, false, false, false, false, false, false, false, false, false] rfl rfl (by kernel_rfl) (fun _ _ _ h => h) (Or.inl ⟨by rfl, ?_⟩) hHeld ?_ ?_
  rotate_left
  ·rintro w' ⟨s0, s1, s2, s3, s4⟩
   go_simp
   with_reducible rfl
  rotate_left
  ·simp only [Act.put, List.setIfInBounds_toArray, List.set_cons_zero, List.set_cons_succ, i64_w, i32_w]
   rfl
  refine take_ (i := 12) (N := some 62) (v := ?_) (a' := ?_) #[true, true, true, true, true, true, true, true, true, true, true, false, true, false, false, false, false, false, false, false, false, false, false, false, false, false, false, false, false, false, false, false, false, false, false, false, false, false] rfl rfl (by kernel_rfl) (fun _ _ _ h => h) (Or.inl ⟨by rfl, ?_⟩) hHeld ?_ ?_
  rotate_left
  ·rintro w' ⟨s0, s1, s2, s3, s4⟩
   go_simp
   with_reducible rfl
  rotate_left
  ·simp only [Act.put, List.setIfInBounds_toArray, List.set_cons_zero, List.set_cons_succ, i64_w, i32_w]
   rfl
  refine one_ (i := 11) (N := some 61) #[true, true, true, true, true, true, true, true, true, true, true, true, true, false, false, false, false, false, false, false, false, false, false, false, false, false, false, false, false, false, false, false, false, false, false, false, false, false] rfl rfl (by kernel_rfl) (by decide) (fun K hK => ?_)
  refine goes_ Tryd.func21 (by kernel_rfl) rfl #[.agg #[.int .i64 d, .slice A l.length c, .int .i64 m]] (by rfl) rfl rfl (by simp only [List.map_toArray, List.map_cons, List.map_nil]; rfl) ?_
  with_reducible refine (HK.out.pieces H6.out).mono ?_
  rintro e w7 ⟨rfl, hb⟩
  refine ⟨_, rfl, ?_⟩
  have HKn := Aside0.mk (HK.out.below hb)
  have HBn := Aside0.mk (below_step HB.out hb)
  have HCRn := Aside0.mk (Kd.C_below HCR.out hb)
  have HCLn := Aside0.mk (Kd.C_below HCL.out hb)
  have HCMn := Aside0.mk (Kd.C_below HCM.out hb)
  have HLSn := Aside0.mk (blk_below HLS.out hb)
  clear HK HB HCR HCL HCM HLS hz0 hz1 hz2 hy0 hy1 hb
  have HK := HKn
  have HB := HBn
  have HCR := HCRn
  have HCL := HCLn
  have HCM := HCMn
  have HLS := HLSn
  clear HKn HBn HCRn HCLn HCMn HLSn
  have hz0 := HK.out.c0
  have hz1 := HK.out.c1
  have hz2 := HK.out.c2
  have hy0 := blk_cell HLS.out 0
  have hy1 := blk_cell HLS.out 1
  refine hK.out _ _ ⟨hz0, hz1, hz2, hy0, hy1⟩ (fun hHeld => ?_)
  clear hK K
  refine norm_ (a' := ?_) ?_ ?_
  rotate_left
  ·show Act.put _ (some 61) _ = _
   simp only [Act.put, List.setIfInBounds_toArray, List.set_cons_zero, List.set_cons_succ, i64_w, i32_w]
   rfl
  refine one_ (i := 13) (N := some 63) #[true, true, true, true, true, true, true, true, true, true, true, true, true, true, false, false, false, false, false, false, false, false, false, false, false, false, false, false, false, false, false, false, false, false, false, false, false, false] rfl rfl (by kernel_rfl) (by decide) (fun K hK => ?_)
  refine goes_ Tryd.func22 (by kernel_rfl) rfl #[.agg #[.int .i64 d, .slice A l.length c, .int .i64 m]] (by rfl) rfl rfl (by simp only [List.map_toArray, List.map_cons, List.map_nil]; rfl) ?_
  with_reducible refine (HK.out.rpieces H7.out).mono ?_
  rintro e w8 ⟨rfl, hb⟩
  refine ⟨_, rfl, ?_⟩
  have HKn := Aside0.mk (HK.out.below hb)
  have HBn := Aside0.mk (below_step HB.out hb)
  have HCRn := Aside0.mk (Kd.C_below HCR.out hb)
  have HCLn := Aside0.mk (Kd.C_below HCL.out hb)
  have HCMn := Aside0.mk (Kd.C_below HCM.out hb)
  have HLSn := Aside0.mk (blk_below HLS.out hb)
  clear HK HB HCR HCL HCM HLS hz0 hz1 hz2 hy0 hy1 hb
  have HK := HKn
  have HB := HBn
  have HCR := HCRn
  have HCL := HCLn
  have HCM := HCMn
  have HLS := HLSn
  clear HKn HBn HCRn HCLn HCMn HLSn
  have hz0 := HK.out.c0
  have hz1 := HK.out.c1
  have hz2 := HK.out.c2
  have hy0 := blk_cell HLS.out 0
  have hy1 := blk_cell HLS.out 1
  refine hK.out _ _ ⟨hz0, hz1, hz2, hy0, hy1⟩ (fun hHeld => ?_)
  clear hK K
  refine norm_ (a' := ?_) ?_ ?_
  rotate_left
  ·show Act.put _ (some 63) _ = _
   simp only [Act.put, List.setIfInBounds_toArray, List.set_cons_zero, List.set_cons_succ, i64_w, i32_w]
   rfl
  refine pure_ (i := 14) (N := some 64) (v := ?_) (a' := ?_) #[true, true, true, true, true, true, true, true, true, true, true, true, true, true, true, false, false, false, false, false, false, false, false, false, false, false, false, false, false, false, false, false, false, false, false, false, false, false] rfl rfl (by kernel_rfl) (fun _ _ _ h => h) (Or.inl ⟨by rfl, ?_⟩) ?_ ?_
  rotate_left
  ·intro w'
   go_simp
   with_reducible rfl
  rotate_left
  ·simp only [Act.put, List.setIfInBounds_toArray, List.set_cons_zero, List.set_cons_succ, i64_w, i32_w]
   rfl
  refine pure_ (i := 15) (N := some 65) (v := ?_) (a' := ?_) #[true, true, true, true, true, true, true, true, true, true, true, true, true, true, true, true, false, false, false, false, false, false, false, false, false, false, false, false, false, false, false, false, false, false, false, false, false, false] rfl rfl (by kernel_rfl) (fun _ _ _ h => h) (Or.inl ⟨by rfl, ?_⟩) ?_ ?_
  rotate_left
  ·intro w'
   go_simp
   with_reducible rfl
  rotate_left
  ·simp only [Act.put, List.setIfInBounds_toArray, List.set_cons_zero, List.set_cons_succ, i64_w, i32_w]
   rfl
  refine pure_ (i := 16) (N := some 66) (v := ?_) (a' := ?_) #[true, true, true, true, true, true, true, true, true, true, true, true, true, true, true, true, true, false, false, false, false, false, false, false, false, false, false, false, false, false, false, false, false, false, false, false, false, false] rfl rfl (by kernel_rfl) (fun _ _ _ h => h) (Or.inl ⟨by rfl, ?_⟩) ?_ ?_
  rotate_left
  ·intro w'
   go_simp
   with_reducible rfl
  rotate_left
  ·simp only [Act.put, List.setIfInBounds_toArray, List.set_cons_zero, List.set_cons_succ, i64_w, i32_w]
   rfl
  refine pure_ (i := 18) (N := some 68) (v := ?_) (a' := ?_) #[true, true, true, true, true, true, true, true, true, true, true, true, true, true, true, true, true, false, true, false, false, false, false, false, false, false, false, false, false, false, false, false, false, false, false, false, false, false] rfl rfl (by kernel_rfl) (fun _ _ _ h => h) (Or.inl ⟨by rfl, ?_⟩) ?_ ?_
  rotate_left
  ·intro w'
   go_simp
   with_reducible rfl
  rotate_left
  ·simp only [Act.put, List.setIfInBounds_toArray, List.set_cons_zero, List.set_cons_succ, i64_w, i32_w]
   rfl
  refine pure_ (i := 21) (N := some 71) (v := ?_) (a' := ?_) #[true, true, true, true, true, true, true, true, true, true, true, true, true, true, true, true, true, false, true, false, false, true, false, false, false, false, false, false, false, false, false, false, false, false, false, false, false, false] rfl rfl (by kernel_rfl) (fun _ _ _ h => h) (Or.inl ⟨by rfl, ?_⟩) ?_ ?_
  rotate_left
  ·intro w'
   go_simp
   with_reducible rfl
  rotate_left
  ·simp only [Act.put, List.setIfInBounds_toArray, List.set_cons_zero, List.set_cons_succ, i64_w, i32_w]
   rfl
  refine take_ (i := 17) (N := some 67) (v := ?_) (a' := ?_) #[true, true, true, true, true, true, true, true, true, true, true, true, true, true, true, true, true, true, true, false, false, true, false, false, false, false, false, false, false, false, false, false, false, false, false, false, false, false] rfl rfl (by kernel_rfl) (fun _ _ _ h => h) (Or.inl ⟨by rfl, ?_⟩) hHeld ?_ ?_
  rotate_left
  ·rintro w' ⟨s0, s1, s2, s3, s4⟩
   go_simp
   with_reducible rfl
  rotate_left
  ·simp only [Act.put, List.setIfInBounds_toArray, List.set_cons_zero, List.set_cons_succ, i64_w, i32_w]
   rfl
  refine take_ (i := 20) (N := some 70) (v := ?_) (a' := ?_) #[true, true, true, true, true, true, true, true, true, true, true, true, true, true, true, true, true, true, true, false, true, true, false, false, false, false, false, false, false, false, false, false, false, false, false, false, false, false] rfl rfl (by kernel_rfl) (fun _ _ _ h => h) (Or.inl ⟨by rfl, ?_⟩) hHeld ?_ ?_
  rotate_left
  ·rintro w' ⟨s0, s1, s2, s3, s4⟩
   go_simp
   with_reducible rfl
  rotate_left
  ·simp only [Act.put, List.setIfInBounds_toArray, List.set_cons_zero, List.set_cons_succ, i64_w, i32_w]
   rfl
  refine one_ (i := 19) (N := some 69) #[true, true, true, true, true, true, true, true, true, true, true, true, true, true, true, true, true, true, true, true, true, true, false, false, false, false, false, false, false, false, false, false, false, false, false, false, false, false] rfl rfl (by kernel_rfl) (by decide) (fun K hK => ?_)
  refine goes_ Tryd.func23 (by kernel_rfl) rfl #[.agg #[.int .i64 d, .slice A l.length c, .int .i64 m], .int .i64 n] (by rfl) rfl rfl (by simp only [List.map_toArray, List.map_cons, List.map_nil]; rfl) ?_
  with_reducible refine (HK.out.size H8.out).mono ?_
  rintro e w9 ⟨rfl, hb⟩
  refine ⟨_, rfl, ?_⟩
  have HKn := Aside0.mk (HK.out.below hb)
  have HBn := Aside0.mk (below_step HB.out hb)
  have HCRn := Aside0.mk (Kd.C_below HCR.out hb)
  have HCLn := Aside0.mk (Kd.C_below HCL.out hb)
  have HCMn := Aside0.mk (Kd.C_below HCM.out hb)
  have HLSn := Aside0.mk (blk_below HLS.out hb)
  clear HK HB HCR HCL HCM HLS hz0 hz1 hz2 hy0 hy1 hb
  have HK := HKn
  have HB := HBn
  have HCR := HCRn
  have HCL := HCLn
  have HCM := HCMn
  have HLS := HLSn
  clear HKn HBn HCRn HCLn HCMn HLSn
  have hz0 := HK.out.c0
  have hz1 := HK.out.c1
  have hz2 := HK.out.c2
  have hy0 := blk_cell HLS.out 0
  have hy1 := blk_cell HLS.out 1
  refine hK.out _ _ ⟨hz0, hz1, hz2, hy0, hy1⟩ (fun hHeld => ?_)
  clear hK K
  refine norm_ (a' := ?_) ?_ ?_
  rotate_left
  ·show Act.put _ (some 69) _ = _
   simp only [Act.put, List.setIfInBounds_toArray, List.set_cons_zero, List.set_cons_succ, i64_w, i32_w]
   rfl
  refine one_ (i := 22) (N := some 72) #[true, true, true, true, true, true, true, true, true, true, true, true, true, true, true, true, true, true, true, true, true, true, true, false, false, false, false, false, false, false, false, false, false, false, false, false, false, false] rfl rfl (by kernel_rfl) (by decide) (fun K hK => ?_)
  refine goes_ Tryd.func24 (by kernel_rfl) rfl #[.agg #[.int .i64 d, .slice A l.length c, .int .i64 m], .int .i64 n] (by rfl) rfl rfl (by simp only [List.map_toArray, List.map_cons, List.map_nil]; rfl) ?_
  with_reducible refine (HK.out.rsize H9.out).mono ?_
  rintro e w10 ⟨rfl, hb⟩
  refine ⟨_, rfl, ?_⟩
  have HKn := Aside0.mk (HK.out.below hb)
  have HBn := Aside0.mk (below_step HB.out hb)
  have HCRn := Aside0.mk (Kd.C_below HCR.out hb)
  have HCLn := Aside0.mk (Kd.C_below HCL.out hb)
  have HCMn := Aside0.mk (Kd.C_below HCM.out hb)
  have HLSn := Aside0.mk (blk_below HLS.out hb)
  clear HK HB HCR HCL HCM HLS hz0 hz1 hz2 hy0 hy1 hb
  have HK := HKn
  have HB := HBn
  have HCR := HCRn
  have HCL := HCLn
  have HCM := HCMn
  have HLS := HLSn
  clear HKn HBn HCRn HCLn HCMn HLSn
  have hz0 := HK.out.c0
  have hz1 := HK.out.c1
  have hz2 := HK.out.c2
  have hy0 := blk_cell HLS.out 0
  have hy1 := blk_cell HLS.out 1
  refine hK.out _ _ ⟨hz0, hz1, hz2, hy0, hy1⟩ (fun hHeld => ?_)
  clear hK K
  refine norm_ (a' := ?_) ?_ ?_
  rotate_left
  ·show Act.put _ (some 72) _ = _
   simp only [Act.put, List.setIfInBounds_toArray, List.set_cons_zero, List.set_cons_succ, i64_w, i32_w]
   rfl
  refine pure_ (i := 23) (N := some 73) (v := ?_) (a' := ?_) #[true, true, true, true, true, true, true, true, true, true, true, true, true, true, true, true, true, true, true, true, true, true, true, true, false, false, false, false, false, false, false, false, false, false, false, false, false, false] rfl rfl (by kernel_rfl) (fun _ _ _ h => h) (Or.inl ⟨by rfl, ?_⟩) ?_ ?_
  rotate_left
  ·intro w'
   go_simp
   with_reducible rfl
  rotate_left
  ·simp only [Act.put, List.setIfInBounds_toArray, List.set_cons_zero, List.set_cons_succ, i64_w, i32_w]
   rfl
  refine pure_ (i := 24) (N := some 74) (v := ?_) (a' := ?_) #[true, true, true, true, true, true, true, true, true, true, true, true, true, true, true, true, true, true, true, true, true, true, true, true, true, false, false, false, false, false, false, false, false, false, false, false, false, false] rfl rfl (by kernel_rfl) (fun _ _ _ h => h) (Or.inl ⟨by rfl, ?_⟩) ?_ ?_
  rotate_left
  ·intro w'
   go_simp
   with_reducible rfl
  rotate_left
  ·simp only [Act.put, List.setIfInBounds_toArray, List.set_cons_zero, List.set_cons_succ, i64_w, i32_w]
   rfl
  refine pure_ (i := 25) (N := some 75) (v := ?_) (a' := ?_) #[true, true, true, true, true, true, true, true, true, true, true, true, true, true, true, true, true, true, true, true, true, true, true, true, true, true, false, false, false, false, false, false, false, false, false, false, false, false] rfl rfl (by kernel_rfl) (fun _ _ _ h => h) (Or.inl ⟨by rfl, ?_⟩) ?_ ?_
  rotate_left
  ·intro w'
   go_simp
   with_reducible rfl
  rotate_left
  ·simp only [Act.put, List.setIfInBounds_toArray, List.set_cons_zero, List.set_cons_succ, i64_w, i32_w]
   rfl
  refine pure_ (i := 26) (N := some 76) (v := ?_) (a' := ?_) #[true, true, true, true, true, true, true, true, true, true, true, true, true, true, true, true, true, true, true, true, true, true, true, true, true, true, true, false, false, false, false, false, false, false, false, false, false, false] rfl rfl (by kernel_rfl) (fun _ _ _ h => h) (Or.inl ⟨by rfl, ?_⟩) ?_ ?_
  rotate_left
  ·intro w'
   go_simp
   with_reducible rfl
  rotate_left
  ·simp only [Act.put, List.setIfInBounds_toArray, List.set_cons_zero, List.set_cons_succ, i64_w, i32_w]
   rfl
  refine pure_ (i := 27) (N := some 77) (v := ?_) (a' := ?_) #[true, true, true, true, true, true, true, true, true, true, true, true, true, true, true, true, true, true, true, true, true, true, true, true, true, true, true, true, false, false, false, false, false, false, false, false, false, false] rfl rfl (by kernel_rfl) (fun _ _ _ h => h) (Or.inl ⟨by rfl, ?_⟩) ?_ ?_
  rotate_left
  ·intro w'
   go_simp
   with_reducible rfl
  rotate_left
  ·simp only [Act.put, List.setIfInBounds_toArray, List.set_cons_zero, List.set_cons_succ, i64_w, i32_w]
   rfl
  refine take_ (i := 28) (N := some 78) (v := ?_) (a' := ?_) #[true, true, true, true, true, true, true, true, true, true, true, true, true, true, true, true, true, true, true, true, true, true, true, true, true, true, true, true, true, false, false, false, false, false, false, false, false, false] rfl rfl (by kernel_rfl) (fun _ _ _ h => h) (Or.inl ⟨by rfl, ?_⟩) hHeld ?_ ?_
  rotate_left
  ·rintro w' ⟨s0, s1, s2, s3, s4⟩
   go_simp
   with_reducible rfl
  rotate_left
  ·simp only [Act.put, List.setIfInBounds_toArray, List.set_cons_zero, List.set_cons_succ, i64_w, i32_w]
   rfl
  refine pure_ (i := 29) (N := some 79) (v := ?_) (a' := ?_) #[true, true, true, true, true, true, true, true, true, true, true, true, true, true, true, true, true, true, true, true, true, true, true, true, true, true, true, true, true, true, false, false, false, false, false, false, false, false] rfl rfl (by kernel_rfl) (fun _ _ _ h => h) (Or.inl ⟨by rfl, ?_⟩) ?_ ?_
  rotate_left
  ·intro w'
   go_simp
   with_reducible rfl
  rotate_left
  ·simp only [Act.put, List.setIfInBounds_toArray, List.set_cons_zero, List.set_cons_succ, i64_w, i32_w]
   rfl
  refine pure_ (i := 30) (N := some 80) (v := ?_) (a' := ?_) #[true, true, true, true, true, true, true, true, true, true, true, true, true, true, true, true, true, true, true, true, true, true, true, true, true, true, true, true, true, true, true, false, false, false, false, false, false, false] rfl rfl (by kernel_rfl) (fun _ _ _ h => h) (Or.inl ⟨by rfl, ?_⟩) ?_ ?_
  rotate_left
  ·intro w'
   go_simp
   with_reducible rfl
  rotate_left
  ·simp only [Act.put, List.setIfInBounds_toArray, List.set_cons_zero, List.set_cons_succ, i64_w, i32_w]
   rfl
  refine pure_ (i := 31) (N := some 81) (v := ?_) (a' := ?_) #[true, true, true, true, true, true, true, true, true, true, true, true, true, true, true, true, true, true, true, true, true, true, true, true, true, true, true, true, true, true, true, true, false, false, false, false, false, false] rfl rfl (by kernel_rfl) (fun _ _ _ h => h) (Or.inl ⟨by rfl, ?_⟩) ?_ ?_
  rotate_left
  ·intro w'
   go_simp
   with_reducible rfl
  rotate_left
  ·simp only [Act.put, List.setIfInBounds_toArray, List.set_cons_zero, List.set_cons_succ, i64_w, i32_w]
   rfl
  refine pure_ (i := 32) (N := some 82) (v := ?_) (a' := ?_) #[true, true, true, true, true, true, true, true, true, true, true, true, true, true, true, true, true, true, true, true, true, true, true, true, true, true, true, true, true, true, true, true, true, false, false, false, false, false] rfl rfl (by kernel_rfl) (fun _ _ _ h => h) (Or.inl ⟨by rfl, ?_⟩) ?_ ?_
  rotate_left
  ·intro w'
   go_simp
   with_reducible rfl
  rotate_left
  ·simp only [Act.put, List.setIfInBounds_toArray, List.set_cons_zero, List.set_cons_succ, i64_w, i32_w]
   rfl
  refine pure_ (i := 33) (N := some 83) (v := ?_) (a' := ?_) #[true, true, true, true, true, true, true, true, true, true, true, true, true, true, true, true, true, true, true, true, true, true, true, true, true, true, true, true, true, true, true, true, true, true, false, false, false, false] rfl rfl (by kernel_rfl) (fun _ _ _ h => h) (Or.inl ⟨by rfl, ?_⟩) ?_ ?_
  rotate_left
  ·intro w'
   go_simp
   with_reducible rfl
  rotate_left
  ·simp only [Act.put, List.setIfInBounds_toArray, List.set_cons_zero, List.set_cons_succ, i64_w, i32_w]
   rfl
  refine take_ (i := 34) (N := some 84) (v := ?_) (a' := ?_) #[true, true, true, true, true, true, true, true, true, true, true, true, true, true, true, true, true, true, true, true, true, true, true, true, true, true, true, true, true, true, true, true, true, true, true, false, false, false] rfl rfl (by kernel_rfl) (fun _ _ _ h => h) (Or.inl ⟨by rfl, ?_⟩) hHeld ?_ ?_
  rotate_left
  ·rintro w' ⟨s0, s1, s2, s3, s4⟩
   go_simp
   with_reducible rfl
  rotate_left
  ·simp only [Act.put, List.setIfInBounds_toArray, List.set_cons_zero, List.set_cons_succ, i64_w, i32_w]
   rfl
  refine one_ (i := 35) (N := some 85) #[true, true, true, true, true, true, true, true, true, true, true, true, true, true, true, true, true, true, true, true, true, true, true, true, true, true, true, true, true, true, true, true, true, true, true, true, false, false] rfl rfl (by kernel_rfl) (by decide) (fun K hK => ?_)
  refine goes_ Tryd.func25 (by kernel_rfl) rfl #[.slice Al L.length cl, .slice Am L.length cm] (by rfl) rfl rfl (by simp only [List.map_toArray, List.map_cons, List.map_nil]; rfl) ?_
  with_reducible refine (quietusref07_SameTexts.calls k Al cl L Am cm L true _ HK.out.hg HCL.out HNL.out HCM.out HNM.out H10.out).mono ?_
  rintro e w11 ⟨rfl, hd⟩
  refine ⟨_, rfl, ?_⟩
  have hb := hd.below
  clear hd
  have HKn := Aside0.mk (HK.out.below hb)
  have HBn := Aside0.mk (below_step HB.out hb)
  have HCRn := Aside0.mk (Kd.C_below HCR.out hb)
  have HCLn := Aside0.mk (Kd.C_below HCL.out hb)
  have HCMn := Aside0.mk (Kd.C_below HCM.out hb)
  have HLSn := Aside0.mk (blk_below HLS.out hb)
  clear HK HB HCR HCL HCM HLS hz0 hz1 hz2 hy0 hy1 hb
  have HK := HKn
  have HB := HBn
  have HCR := HCRn
  have HCL := HCLn
  have HCM := HCMn
  have HLS := HLSn
  clear HKn HBn HCRn HCLn HCMn HLSn
  have hz0 := HK.out.c0
  have hz1 := HK.out.c1
  have hz2 := HK.out.c2
  have hy0 := blk_cell HLS.out 0
  have hy1 := blk_cell HLS.out 1
  refine hK.out _ _ ⟨hz0, hz1, hz2, hy0, hy1⟩ (fun hHeld => ?_)
  clear hK K
  refine norm_ (a' := ?_) ?_ ?_
  rotate_left
  ·show Act.put _ (some 85) _ = _
   simp only [Act.put, List.setIfInBounds_toArray, List.set_cons_zero, List.set_cons_succ, i64_w, i32_w]
   rfl
  refine pure_ (i := 36) (N := some 86) (v := ?_) (a' := ?_) #[true, true, true, true, true, true, true, true, true, true, true, true, true, true, true, true, true, true, true, true, true, true, true, true, true, true, true, true, true, true, true, true, true, true, true, true, true, false] rfl rfl (by kernel_rfl) (fun _ _ _ h => h) (Or.inl ⟨by rfl, ?_⟩) ?_ ?_
  rotate_left
  ·intro w'
   go_simp
   with_reducible rfl
  rotate_left
  ·simp only [Act.put, List.setIfInBounds_toArray, List.set_cons_zero, List.set_cons_succ, i64_w, i32_w]
   rfl
  refine pure_ (i := 37) (N := some 87) (v := ?_) (a' := ?_) #[true, true, true, true, true, true, true, true, true, true, true, true, true, true, true, true, true, true, true, true, true, true, true, true, true, true, true, true, true, true, true, true, true, true, true, true, true, true] rfl rfl (by kernel_rfl) (fun _ _ _ h => h) (Or.inl ⟨by rfl, ?_⟩) ?_ ?_
  rotate_left
  ·intro w'
   go_simp
   with_reducible rfl
  rotate_left
  ·simp only [Act.put, List.setIfInBounds_toArray, List.set_cons_zero, List.set_cons_succ, i64_w, i32_w]
   rfl
  refine done_ (by kernel_rfl) ?_
  go_wp2_with (first
   | (go_at_call 15; (with_reducible refine (quietuslaw07_sanity.yes _ HK.out.hg).mono ?_); rintro e w12 ⟨rfl, hb⟩; have HKn := Aside0.mk (HK.out.below hb); have HBn := Aside0.mk (below_step HB.out hb); have HCRn := Aside0.mk (Kd.C_below HCR.out hb); have HCLn := Aside0.mk (Kd.C_below HCL.out hb); have HCMn := Aside0.mk (Kd.C_below HCM.out hb); have HLSn := Aside0.mk (blk_below HLS.out hb); clear HK HB HCR HCL HCM HLS hz0 hz1 hz2 hy0 hy1 hb; have HK := HKn; have HB := HBn; have HCR := HCRn; have HCL := HCLn; have HCM := HCMn; have HLS := HLSn; clear HKn HBn HCRn HCLn HCMn HLSn; have hz0 := HK.out.c0; have hz1 := HK.out.c1; have hz2 := HK.out.c2; have hy0 := blk_cell HLS.out 0; have hy1 := blk_cell HLS.out 1)
   | (go_at_call 27; (with_reducible refine (HK.out.rrows H11.out).mono ?_); rintro e w13 ⟨v4, rfl, hS, hb⟩; have HKn := Aside0.mk (HK.out.below hb); have HBn := Aside0.mk (below_step HB.out hb); have HCRn := Aside0.mk (Kd.C_below HCR.out hb); have HCLn := Aside0.mk (Kd.C_below HCL.out hb); have HCMn := Aside0.mk (Kd.C_below HCM.out hb); have HLSn := Aside0.mk (blk_below HLS.out hb); clear HK HB HCR HCL HCM HLS hz0 hz1 hz2 hy0 hy1 hb; have HK := HKn; have HB := HBn; have HCR := HCRn; have HCL := HCLn; have HCM := HCMn; have HLS := HLSn; clear HKn HBn HCRn HCLn HCMn HLSn; have hz0 := HK.out.c0; have hz1 := HK.out.c1; have hz2 := HK.out.c2; have hy0 := blk_cell HLS.out 0; have hy1 := blk_cell HLS.out 1; obtain ⟨As, cs, rfl, hcs, hCs⟩ := Kd.S_reads hS; have HCS := Aside0.mk hCs; have HNS := Aside0.mk hcs; clear hS hCs hcs)
   | (go_at_call 26; (with_reducible refine (quietusref07_SameRows.calls k Ar cr rows As cs rows true _ HK.out.hg HCR.out HNR.out HCS.out HNS.out H12.out).mono ?_); rintro e w14 ⟨rfl, hd⟩; have HBz := Aside0.mk (below_step HB.out hd.below); clear hd))
  go_ret
  exact ⟨rfl, HBz.out⟩
end Go.Proofs.YtkadfidmfnpohaaDoor.XB

namespace Go.Proofs.YtkadfidmfnpohaaDoor.XB
open Go.RowKit Go.Proofs.YtkadfidmfnpohaaDoorW.PrintWords Go.Proofs.YtkadfidmfnpohaaDoorW.PrintLast Go.Proofs.YtkadfidmfnpohaaDoorW.PrintMore
attribute [local go_sem] max2_int min2_int max_two min_two max_three min_three max_four min_four
set_option linter.unusedVariables false
set_option linter.unusedSimpArgs false
def anyFrom (p : Nat → Bool) : Nat → Nat → Bool
 | _, 0 => false
 | j, n + 1 => p j || anyFrom p (j + 1) n
theorem anyFrom_iff (p : Nat → Bool) : ∀ n j, anyFrom p j n = true ↔ ∃ t, j ≤ t ∧ t < j + n ∧ p t = true := by
 intro n
 induction n with
 | zero =>
  intro j
  simp only [anyFrom]
  constructor
  ·intro h; cases h
  ·rintro ⟨t, h1, h2, _⟩; omega
 | succ n ih =>
  intro j
  simp only [anyFrom, Bool.or_eq_true, ih]
  constructor
  ·rintro (h | ⟨t, h1, h2, h3⟩)
   ·exact ⟨j, Nat.le_refl _, by omega, h⟩
   ·exact ⟨t, by omega, by omega, h3⟩
  ·rintro ⟨t, h1, h2, h3⟩
   by_cases e : t = j
   ·subst e; exact .inl h3
   ·exact .inr ⟨t, by omega, by omega, h3⟩
theorem anyFrom_false {p : Nat → Bool} {j n : Nat} (h : anyFrom p j n = false) : ∀ t, j ≤ t → t < j + n → p t = false := by
 intro t h1 h2
 cases hp : p t
 ·rfl
 ·rw [(anyFrom_iff p n j).2 ⟨t, h1, h2, hp⟩] at h; cases h
theorem wrap_nat {n : Nat} (h : n < 9223372036854775808) : wrap64 (n : Int) = (n : Int) := by unfold wrap64; omega
theorem wrap_succ {n : Nat} (h : n < 4611686018427387905) : wrap64 ((n : Int) + 1) = ((n + 1 : Nat) : Int) := by unfold wrap64; omega
theorem wrap_pred {n : Nat} (h0 : 0 < n) (h : n < 4611686018427387905) : wrap64 ((n : Int) - 1) = ((n - 1 : Nat) : Int) := by unfold wrap64; omega
theorem ev_eq {α : Type} {g : Nat → Option α} {a b : α} (h : Ev g a) (e : a = b) : Ev g b := e ▸ h
/-! Has -/
theorem has_from (l : List Int) (x : Int) (hl : l.length ≤ 4611686018427387904) : ∀ (j i : Nat), i + j = l.length → Ev (fun k => quietusref07_Has.l0 k l x (i : Int)) (decide (x ∈ l.drop i)) := by
 intro j
 induction j with
 | zero =>
  intro i hi
  refine Ev.step (f := fun _ => some (decide (x ∈ l.drop i))) (fun k => ?_) (Ev.now _)
  simp only [quietusref07_Has.l0]
  rw [if_neg (by omega), List.drop_of_length_le (by omega)]
  simp
 | succ j ih =>
  intro i hi
  have hlt : i < l.length := by omega
  have hd : l.drop i = l[i] :: l.drop (i + 1) := List.drop_eq_getElem_cons hlt
  by_cases e : l[i] = x
  ·refine Ev.step (f := fun _ => some (decide (x ∈ l.drop i))) (fun k => ?_) (Ev.now _)
   simp only [quietusref07_Has.l0]
   rw [if_pos (by omega), if_pos (by omega), rdi hlt, if_pos e, hd]
   simp [e]
  ·refine Ev.step (f := fun k => quietusref07_Has.l0 k l x ((i + 1 : Nat) : Int)) (fun k => ?_) (ev_eq (ih (i + 1) (by omega)) ?_)
   ·simp only [quietusref07_Has.l0]
    rw [if_pos (by omega), if_pos (by omega), rdi hlt, if_neg e, wrap_succ (by omega)]
   ·rw [hd]
    exact decide_eq_decide.2 ⟨fun h => List.mem_cons_of_mem _ h, fun h => (List.mem_cons.1 h).resolve_left (fun h' => e h'.symm)⟩
theorem has_ev (l : List Int) (x : Int) (hl : l.length ≤ 4611686018427387904) : Ev (fun k => quietusref07_Has.f k l x) (decide (x ∈ l)) := has_from l x hl l.length 0 (Nat.zero_add _)
/-! what Check says -/
def badEl (d : Int) (l : List (List Int)) (gi j : Nat) : Bool :=
 (decide (rd (rd_L1 l gi) j < 0) || (decide (d ≤ rd (rd_L1 l gi) j) || (decide (0 < j) && decide (rd (rd_L1 l gi) j ≤ rd (rd_L1 l gi) ((j - 1 : Nat) : Int))))) || anyFrom (fun h => decide (rd (rd_L1 l gi) j ∈ rd_L1 l (h : Nat))) 0 gi
def grpErr (d : Int) (l : List (List Int)) (gi : Nat) : Int := if (rd_L1 l gi).length = 0 then 8 else if anyFrom (badEl d l gi) 0 (rd_L1 l gi).length = true then 1 else 0
def chkFrom (d : Int) (l : List (List Int)) : Nat → Nat → Int
 | _, 0 => 0
 | i, n + 1 => if grpErr d l i = 0 then chkFrom d l (i + 1) n else grpErr d l i
def chk (d : Int) (l : List (List Int)) (m : Int) : Int := if d < 1 ∨ 16 < d ∨ m < 0 ∨ 4 < m then 3 else if 24 < d + l.length + m then 2 else chkFrom d l 0 l.length
/-! the reference's Check -/
def Small (l : List (List Int)) : Prop := l.length ≤ 4611686018427387000 ∧ ∀ i : Nat, (rd_L1 l i).length ≤ 4611686018427387904
theorem rgrp_l1 (d : Int) (l : List (List Int)) (m : Int) (hs : Small l) (gi j : Nat) (x : Int) (hg : gi < l.length) (hj : j < 4611686018427387904) (R : Int) (hR : Ev (fun k => quietusref07_group.l0 k (gi : Int) ((j + 1 : Nat) : Int) d l m) R) :
  ∀ n h, h + n = gi → Ev (fun k => quietusref07_group.l1 k (gi : Int) (j : Int) x (h : Int) d l m) (if anyFrom (fun h => decide (x ∈ rd_L1 l (h : Nat))) h n = true then 1 else R) := by
 intro n
 induction n with
 | zero =>
  intro h hh
  refine Ev.step (f := fun k => quietusref07_group.l0 k (gi : Int) ((j + 1 : Nat) : Int) d l m) (fun k => ?_) (by simpa [anyFrom] using hR)
  simp only [quietusref07_group.l1]
  rw [if_neg (by omega), wrap_succ (by omega)]
 | succ n ih =>
  intro h hh
  have hb := has_ev (rd_L1 l (h : Nat)) x (hs.2 h)
  have hsl := hs.1
  refine Ev.step (f := fun k => (quietusref07_Has.f k (rd_L1 l (h : Nat)) x).bind fun t => if t = true then some 1 else quietusref07_group.l1 k (gi : Int) (j : Int) x ((h + 1 : Nat) : Int) d l m) (fun k => ?_) (Ev.bind hb ?_)
  ·simp only [quietusref07_group.l1]
   rw [if_pos (by omega), if_pos (by omega), if_pos (by omega), wrap_succ (by omega)]
  ·by_cases e : x ∈ rd_L1 l (h : Nat)
   ·simp only [anyFrom, e, decide_true, Bool.true_or, if_true]
    exact Ev.now _
   ·simp only [anyFrom, e, decide_false, Bool.false_or]
    exact ih (h + 1) (by omega)
theorem rgrp_l0 (d : Int) (l : List (List Int)) (m : Int) (hs : Small l) (gi : Nat) (hg : gi < l.length) :
  ∀ n j, j + n = (rd_L1 l gi).length → Ev (fun k => quietusref07_group.l0 k (gi : Int) (j : Int) d l m) (if anyFrom (badEl d l gi) j n = true then 1 else 0) := by
 intro n
 have hgl := hs.2 gi
 induction n with
 | zero =>
  intro j hj
  refine Ev.step (f := fun _ => some 0) (fun k => ?_) (by simpa [anyFrom] using Ev.now (0 : Int))
  simp only [quietusref07_group.l0]
  rw [if_pos (by omega), if_pos (by omega), if_neg (by omega)]
 | succ n ih =>
  intro j hj
  obtain ⟨b, hb⟩ : ∃ b, b = (decide (rd (rd_L1 l gi) j < 0) || (decide (d ≤ rd (rd_L1 l gi) j) || (decide (0 < j) && decide (rd (rd_L1 l gi) j ≤ rd (rd_L1 l gi) ((j - 1 : Nat) : Int))))) := ⟨_, rfl⟩
  refine Ev.step (f := fun k => quietusref07_group.j1 k (gi : Int) (j : Int) (rd (rd_L1 l gi) j) b d l m) (fun k => ?_) ?_
  ·simp only [quietusref07_group.l0]
   rw [if_pos (by omega), if_pos (by omega), if_pos (by omega), if_pos (by omega)]
   by_cases c1 : rd (rd_L1 l gi) j < 0
   ·rw [if_pos c1, hb]; simp [c1]
   rw [if_neg c1]
   by_cases c2 : d ≤ rd (rd_L1 l gi) j
   ·rw [if_pos c2, hb]; simp [c2]
   rw [if_neg c2]
   by_cases c3 : 0 < j
   ·rw [if_pos (by omega), wrap_pred c3 (by omega), if_pos (by omega), if_pos (by omega), hb]; simp [c1, c2, c3]
   ·rw [if_neg (by omega), hb]; simp [c1, c2, c3]
  ·refine Ev.step (f := fun k => if b = true then some 1 else quietusref07_group.l1 k (gi : Int) (j : Int) (rd (rd_L1 l gi) j) ((0 : Nat) : Int) d l m) (fun k => by simp only [quietusref07_group.j1]; rfl) ?_
   simp only [anyFrom, badEl, ← hb]
   cases b with
   | true => simp only [Bool.true_or, if_true]; exact Ev.now _
   | false =>
    simp only [Bool.false_or, Bool.false_eq_true, if_false]
    refine ev_eq (rgrp_l1 d l m hs gi j _ hg (by omega) _ (ih (j + 1) (by omega)) gi 0 (Nat.zero_add _)) ?_
    by_cases e : anyFrom (fun h => decide (rd (rd_L1 l gi) j ∈ rd_L1 l (h : Nat))) 0 gi = true
    ·rw [if_pos e, e]; simp
    ·rw [if_neg e, Bool.eq_false_iff.2 e, Bool.false_or]
theorem rgrp_ev (d : Int) (l : List (List Int)) (m : Int) (hs : Small l) (gi : Nat) (hg : gi < l.length) : Ev (fun k => quietusref07_group.f k d l m (gi : Int)) (grpErr d l gi) := by
 unfold grpErr
 by_cases h0 : (rd_L1 l gi).length = 0
 ·rw [if_pos h0]
  refine Ev.congr (f := fun _ => some 8) (fun k => ?_) (Ev.now _)
  unfold quietusref07_group.f
  rw [if_pos (by omega), if_pos (by omega), if_pos (by omega)]
 ·rw [if_neg h0]
  refine Ev.congr (f := fun k => quietusref07_group.l0 k (gi : Int) ((0 : Nat) : Int) d l m) (fun k => ?_) (rgrp_l0 d l m hs gi hg _ 0 (Nat.zero_add _))
  unfold quietusref07_group.f
  rw [if_pos (by omega), if_pos (by omega), if_neg (by omega)]
  rfl
theorem rchk_l0 (d : Int) (l : List (List Int)) (m : Int) (hs : Small l) : ∀ n i, i + n = l.length → Ev (fun k => quietusref07_Check.l0 k (i : Int) d l m) (chkFrom d l i n) := by
 intro n
 have hsl := hs.1
 induction n with
 | zero =>
  intro i hi
  refine Ev.step (f := fun _ => some 0) (fun k => ?_) (Ev.now _)
  simp only [quietusref07_Check.l0]
  rw [if_neg (by omega)]
 | succ n ih =>
  intro i hi
  refine Ev.step (f := fun k => (quietusref07_group.f k d l m (i : Int)).bind fun t => if t = 0 then quietusref07_Check.l0 k ((i + 1 : Nat) : Int) d l m else some t) (fun k => ?_) (Ev.bind (rgrp_ev d l m hs i (by omega)) ?_)
  ·simp only [quietusref07_Check.l0]
   rw [if_pos (by omega), wrap_succ (by omega)]
  ·simp only [chkFrom]
   by_cases e : grpErr d l i = 0
   ·simp only [e, if_true]
    exact ih (i + 1) (by omega)
   ·simp only [e, if_false]
    exact Ev.now _
/-- Groups and numbers as they come: no sum wraps round that matters. -/
theorem rchk_ev (d : Int) (l : List (List Int)) (m : Int) (hs : Small l) : Ev (fun k => quietusref07_Check.f k d l m) (chk d l m) := by
 have hsl := hs.1
 obtain ⟨b, hb⟩ : ∃ b, b = (decide (d < 1) || (decide (16 < d) || (decide (m < 0) || decide (4 < m)))) := ⟨_, rfl⟩
 refine Ev.congr (f := fun k => quietusref07_Check.j0 k b d l m) (fun k => ?_) ?_
 ·unfold quietusref07_Check.f
  by_cases c1 : d < 1
  ·rw [if_pos c1, hb]; simp [c1]
  rw [if_neg c1]
  by_cases c2 : 16 < d
  ·rw [if_pos c2, hb]; simp [c2]
  rw [if_neg c2]
  by_cases c3 : m < 0
  ·rw [if_pos c3, hb]; simp [c3]
  rw [if_neg c3, hb]
  simp [c1, c2, c3]
 ·refine Ev.step (f := fun k => if b = true then some 3 else if 24 < wrap64 (wrap64 (d + (l.length : Int)) + m) then some 2 else quietusref07_Check.l0 k ((0 : Nat) : Int) d l m) (fun k => by simp only [quietusref07_Check.j0]; rfl) ?_
  unfold chk
  cases b with
  | true =>
   have : d < 1 ∨ 16 < d ∨ m < 0 ∨ 4 < m := by simpa using hb.symm
   rw [if_pos this]
   exact Ev.now _
  | false =>
   have h' : ¬ (d < 1 ∨ 16 < d ∨ m < 0 ∨ 4 < m) := by
    intro h
    have : (decide (d < 1) || (decide (16 < d) || (decide (m < 0) || decide (4 < m)))) = true := by simpa using h
    rw [← hb] at this; cases this
   rw [if_neg h']
   have hw : wrap64 (wrap64 (d + (l.length : Int)) + m) = d + l.length + m := by unfold wrap64; omega
   rw [hw]
   by_cases e : 24 < d + (l.length : Int) + m
   ·simp only [e, if_true]
    exact Ev.now _
   ·simp only [e, if_false]
    exact rchk_l0 d l m hs _ 0 (Nat.zero_add _)

def orAll (g : List Int) (s : Nat) : Nat := g.foldl (fun s i => s ||| 2 ^ i.toNat) s
theorem orAll_snoc (g : List Int) (x : Int) (s : Nat) : orAll (g ++ [x]) s = orAll g s ||| 2 ^ x.toNat := by simp [orAll]
theorem orAll_lt {g : List Int} (h : ∀ x ∈ g, 0 ≤ x ∧ x < 16) : ∀ {s : Nat}, s < 2 ^ 16 → orAll g s < 2 ^ 16 := by
 induction g with
 | nil => intro s hs; exact hs
 | cons a g ih =>
  intro s hs
  have ha := h a (List.mem_cons_self)
  exact ih (fun x hx => h x (List.mem_cons_of_mem _ hx)) (Nat.or_lt_two_pow hs (Nat.pow_lt_pow_right (by decide) (by omega)))
theorem orAll_bit (g : List Int) (i : Nat) : ∀ s, (orAll g s).testBit i = (s.testBit i || g.any (fun x => x.toNat == i)) := by
 induction g with
 | nil => intro s; simp [orAll]
 | cons a g ih =>
  intro s
  show (orAll g (s ||| 2 ^ a.toNat)).testBit i = _
  rw [ih, Nat.testBit_or, Nat.testBit_two_pow, List.any_cons, Bool.or_assoc]
  congr 2
def seenOf (l : List (List Int)) : Nat → Nat
 | 0 => 0
 | i + 1 => orAll (rd_L1 l (i : Nat)) (seenOf l i)
/-- The groups before i have elements of the code alone. -/
def Elems (d : Int) (l : List (List Int)) (i : Nat) : Prop := ∀ h : Nat, h < i → ∀ x ∈ rd_L1 l (h : Nat), 0 ≤ x ∧ x < d
theorem seenOf_lt {d : Int} {l : List (List Int)} (hd : d ≤ 16) : ∀ {i}, Elems d l i → seenOf l i < 2 ^ 16
 | 0, _ => (by decide : (0 : Nat) < 2 ^ 16)
 | i + 1, h => orAll_lt (fun x hx => by have := h i (Nat.lt_succ_self i) x hx; omega) (seenOf_lt hd (fun g hg => h g (by omega)))
theorem seenOf_bit {d : Int} {l : List (List Int)} {x : Int} (hx : 0 ≤ x) : ∀ {i}, Elems d l i → (seenOf l i).testBit x.toNat = anyFrom (fun h => decide (x ∈ rd_L1 l (h : Nat))) 0 i := by
 intro i
 induction i with
 | zero => intro _; simp [seenOf, anyFrom]
 | succ i ih =>
  intro h
  have e := ih (fun g hg => h g (by omega))
  rw [Bool.eq_iff_iff, anyFrom_iff] at e ⊢
  rw [show seenOf l (i + 1) = orAll (rd_L1 l (i : Nat)) (seenOf l i) from rfl, orAll_bit, Bool.or_eq_true, e, List.any_eq_true]
  constructor
  ·rintro (⟨t, h1, h2, h3⟩ | ⟨y, hy, hz⟩)
   ·exact ⟨t, h1, by omega, h3⟩
   ·have := (h i (Nat.lt_succ_self i) y hy).1
    have hz : y.toNat = x.toNat := by simpa using hz
    obtain rfl : y = x := by omega
    exact ⟨i, by omega, by omega, by simpa using hy⟩
  ·rintro ⟨t, h1, h2, h3⟩
   by_cases ht : t = i
   ·subst ht; exact .inr ⟨x, by simpa using h3, by simp⟩
   ·exact .inl ⟨t, h1, by omega, h3⟩
theorem bit_of (s : Nat) (x : Int) (hx : 0 ≤ x) (h16 : x < 16) (hs : s < 2 ^ 16) : (Go.bits .and .i64 (shr .i64 (s : Int) x) 1 = 1) ↔ s.testBit x.toNat = true := by
 obtain ⟨n, rfl⟩ := Int.eq_ofNat_of_zero_le hx
 rw [shr_i64_nat s n (by omega), i64_and1 _ (by have := Nat.shiftRight_le s n; omega), Int.toNat_natCast, Nat.testBit_eq_decide_div_mod_eq, Nat.shiftRight_eq_div_pow, decide_eq_true_eq]
 omega
theorem rdm {l : List Int} {i : Nat} (h : i < l.length) : rd l (i : Int) ∈ l := by rw [rdi h]; exact List.getElem_mem h
theorem cchk_l2 (d : Int) (l : List (List Int)) (m : Int) (hs : Small l) (i : Nat) (hil : i < l.length) (s : Nat) (hlt : s < 2 ^ 16) (hg : ∀ x ∈ rd_L1 l (i : Nat), 0 ≤ x ∧ x < 16) (R : Int)
  (hR : Ev (fun k => code_Check.l0 k ((orAll (rd_L1 l (i : Nat)) s : Nat) : Int) 0 l (l.length : Int) ((i + 1 : Nat) : Int) d l m) R) :
  ∀ n j, j + n = (rd_L1 l (i : Nat)).length → Ev (fun k => code_Check.l2 k ((orAll ((rd_L1 l (i : Nat)).take j) s : Nat) : Int) 0 l (l.length : Int) (i : Int) (rd_L1 l (i : Nat)) ((rd_L1 l (i : Nat)).length : Int) (j : Int) d l m) R := by
 have hgl := hs.2 i
 have hsl := hs.1
 generalize rd_L1 l (i : Nat) = g at *
 intro n
 induction n with
 | zero =>
  intro j hj
  refine Ev.step (f := fun k => code_Check.l0 k ((orAll g s : Nat) : Int) 0 l (l.length : Int) ((i + 1 : Nat) : Int) d l m) (fun k => ?_) hR
  simp only [code_Check.l2]
  rw [if_neg (by omega), List.take_of_length_le (by omega), wrap_succ (by omega)]
 | succ n ih =>
  intro j hj
  have hx := hg _ (rdm (show j < g.length by omega))
  refine Ev.step (f := fun k => code_Check.l2 k ((orAll (g.take (j + 1)) s : Nat) : Int) 0 l (l.length : Int) (i : Int) g (g.length : Int) ((j + 1 : Nat) : Int) d l m) (fun k => ?_) (ih (j + 1) (by omega))
  simp only [code_Check.l2]
  have ht : g.take (j + 1) = g.take j ++ [rd g (j : Int)] := by rw [rdi (show j < g.length by omega)]; exact List.take_succ_eq_append_getElem (by omega)
  rw [if_pos (by omega), if_pos (by omega), if_pos (by omega), if_pos hx.1, wrap_succ (by omega), ht, orAll_snoc]
  have hb := orAll_lt (g := g.take j) (fun x hx => hg x (List.mem_of_mem_take hx)) hlt
  have hp : 2 ^ (rd g (j : Int)).toNat < 2 ^ 16 := Nat.pow_lt_pow_right (by decide) (by omega)
  have e := shl_i64_nat 1 (rd g (j : Int)).toNat (by omega) (by omega)
  rw [Int.toNat_of_nonneg hx.1, Nat.one_mul] at e
  rw [show ((1 : Nat) : Int) = 1 from rfl] at e
  rw [e, i64_or _ _ (by omega) (by omega)]
theorem cchk_l1 (d : Int) (hd : d ≤ 16) (l : List (List Int)) (m : Int) (hs : Small l) (i : Nat) (hil : i < l.length) (hel : Elems d l i) (R : Int)
  (hR : (∀ x ∈ rd_L1 l (i : Nat), 0 ≤ x ∧ x < d) → Ev (fun k => code_Check.l0 k ((seenOf l (i + 1) : Nat) : Int) 0 l (l.length : Int) ((i + 1 : Nat) : Int) d l m) R) :
  ∀ n j, j + n = (rd_L1 l (i : Nat)).length → (∀ t : Nat, t < j → 0 ≤ rd (rd_L1 l i) t ∧ rd (rd_L1 l i) t < d) →
   Ev (fun k => code_Check.l1 k ((seenOf l i : Nat) : Int) 0 (rd_L1 l i) l (l.length : Int) (i : Int) (rd_L1 l i) ((rd_L1 l i).length : Int) (j : Int) d l m) (if anyFrom (badEl d l i) j n = true then 1 else R) := by
 have hgl := hs.2 i
 have hlt := seenOf_lt hd hel
 intro n
 induction n with
 | zero =>
  intro j hj hpre
  have hall : ∀ x ∈ rd_L1 l (i : Nat), 0 ≤ x ∧ x < d := by
   intro x hx
   obtain ⟨t, ht, rfl⟩ := List.mem_iff_getElem.1 hx
   have := hpre t (by omega)
   rwa [rdi ht] at this
  refine Ev.step (f := fun k => code_Check.l2 k ((seenOf l i : Nat) : Int) 0 l (l.length : Int) (i : Int) (rd_L1 l i) ((rd_L1 l i).length : Int) ((0 : Nat) : Int) d l m) (fun k => ?_) ?_
  ·simp only [code_Check.l1]
   rw [if_neg (by omega)]
   rfl
  ·simp only [anyFrom]
   exact cchk_l2 d l m hs i hil (seenOf l i) hlt (fun x hx => by have := hall x hx; omega) R (hR hall) _ 0 (Nat.zero_add _)
 | succ n ih =>
  intro j hj hpre
  have hjl : j < (rd_L1 l i).length := by omega
  by_cases hb : badEl d l i j = true
  ·simp only [anyFrom, hb, Bool.true_or, if_true]
   refine Ev.step (f := fun _ => some 1) (fun k => ?_) (Ev.now _)
   simp only [code_Check.l1]
   rw [if_pos (by omega), if_pos (by omega), if_pos (by omega)]
   unfold badEl at hb
   by_cases c1 : rd (rd_L1 l i) j < 0
   ·rw [if_pos c1]
   rw [if_neg c1]
   by_cases c2 : d ≤ rd (rd_L1 l i) j
   ·rw [if_pos c2]
   rw [if_neg c2]
   simp only [c1, c2, decide_false, Bool.false_or] at hb
   have hsn : ¬ (decide (0 < j) && decide (rd (rd_L1 l i) j ≤ rd (rd_L1 l i) ((j - 1 : Nat) : Int))) = true → Go.bits .and .i64 (shr .i64 ((seenOf l i : Nat) : Int) (rd (rd_L1 l i) j)) 1 = 1 := by
    intro hn
    rw [bit_of _ _ (by omega) (by omega) hlt, seenOf_bit (by omega) hel]
    rw [Bool.not_eq_true] at hn
    rw [hn, Bool.false_or] at hb
    exact hb
   by_cases c3 : 0 < j
   ·rw [if_pos (by omega), wrap_pred c3 (by omega), if_pos (by omega), if_pos (by omega)]
    by_cases c4 : rd (rd_L1 l i) j ≤ rd (rd_L1 l i) ((j - 1 : Nat) : Int)
    ·rw [if_pos c4]
    ·rw [if_neg c4, if_pos (by omega), if_pos (hsn (by simp [c4]))]
   ·rw [if_neg (by omega), if_pos (by omega), if_pos (hsn (by simp [c3]))]
  ·have hb0 : badEl d l i j = false := Bool.eq_false_iff.2 hb
   simp only [anyFrom, hb0, Bool.false_or]
   unfold badEl at hb0
   simp only [Bool.or_eq_false_iff, decide_eq_false_iff_not] at hb0
   obtain ⟨⟨c1, c2, c3⟩, c4⟩ := hb0
   refine Ev.step (f := fun k => code_Check.l1 k ((seenOf l i : Nat) : Int) 0 (rd_L1 l i) l (l.length : Int) (i : Int) (rd_L1 l i) ((rd_L1 l i).length : Int) ((j + 1 : Nat) : Int) d l m) (fun k => ?_) (ih (j + 1) (by omega) (fun t ht => ?_))
   ·simp only [code_Check.l1]
    have hns : ¬ Go.bits .and .i64 (shr .i64 ((seenOf l i : Nat) : Int) (rd (rd_L1 l i) j)) 1 = 1 := by
     rw [bit_of _ _ (by omega) (by omega) hlt, seenOf_bit (by omega) hel, c4]
     decide
    rw [if_pos (by omega), if_pos (by omega), if_pos (by omega), if_neg c1, if_neg (show ¬ rd (rd_L1 l i) j ≥ d from c2)]
    by_cases e : 0 < j
    ·have c5 : ¬ rd (rd_L1 l i) j ≤ rd (rd_L1 l i) ((j - 1 : Nat) : Int) := by
      intro h; simp [e, h] at c3
     rw [if_pos (by omega), wrap_pred e (by omega), if_pos (by omega), if_pos (by omega), if_neg c5, if_pos (by omega), if_neg hns, wrap_succ (by omega)]
    ·rw [if_neg (by omega), if_pos (by omega), if_neg hns, wrap_succ (by omega)]
   ·by_cases e : t = j
    ·subst e; omega
    ·exact hpre t (by omega)
theorem cchk_l0 (d : Int) (hd : d ≤ 16) (l : List (List Int)) (m : Int) (hs : Small l) : ∀ n i, i + n = l.length → Elems d l i → Ev (fun k => code_Check.l0 k ((seenOf l i : Nat) : Int) 0 l (l.length : Int) (i : Int) d l m) (chkFrom d l i n) := by
 intro n
 have hsl := hs.1
 induction n with
 | zero =>
  intro i hi hel
  refine Ev.step (f := fun _ => some 0) (fun k => ?_) (Ev.now _)
  simp only [code_Check.l0]
  rw [if_neg (by omega)]
 | succ n ih =>
  intro i hi hel
  by_cases h0 : (rd_L1 l i).length = 0
  ·have e : grpErr d l i = 8 := by unfold grpErr; rw [if_pos h0]
   simp only [chkFrom, e]
   refine Ev.step (f := fun _ => some 8) (fun k => ?_) (Ev.now _)
   simp only [code_Check.l0]
   rw [if_pos (by omega), if_pos (by omega), if_pos (by omega), if_pos (by omega)]
  ·refine Ev.step (f := fun k => code_Check.l1 k ((seenOf l i : Nat) : Int) 0 (rd_L1 l i) l (l.length : Int) (i : Int) (rd_L1 l i) ((rd_L1 l i).length : Int) ((0 : Nat) : Int) d l m) (fun k => ?_) ?_
   ·simp only [code_Check.l0]
    rw [if_pos (by omega), if_pos (by omega), if_pos (by omega), if_neg (by omega)]
    rfl
   ·refine ev_eq (cchk_l1 d hd l m hs i (by omega) hel (chkFrom d l (i + 1) n) (fun hall => ih (i + 1) (by omega) (fun h hh => ?_)) _ 0 (Nat.zero_add _) (fun t ht => absurd ht (Nat.not_lt_zero t))) ?_
    ·by_cases e : h = i
     ·subst e; exact hall
     ·exact hel h (by omega)
    ·have ge : grpErr d l i = if anyFrom (badEl d l i) 0 (rd_L1 l i).length = true then 1 else 0 := by unfold grpErr; rw [if_neg h0]
     by_cases e : anyFrom (badEl d l i) 0 (rd_L1 l i).length = true
     ·rw [if_pos e] at ge ⊢
      simp [chkFrom, ge]
     ·rw [if_neg e] at ge ⊢
      simp [chkFrom, ge]
theorem cchk_ev (d : Int) (l : List (List Int)) (m : Int) (hs : Small l) : Ev (fun k => code_Check.f k d l m) (chk d l m) := by
 have hsl := hs.1
 obtain ⟨b, hb⟩ : ∃ b, b = (decide (d < 1) || (decide (16 < d) || (decide (m < 0) || decide (4 < m)))) := ⟨_, rfl⟩
 refine Ev.congr (f := fun k => code_Check.j0 k b d l m) (fun k => ?_) ?_
 ·unfold code_Check.f
  by_cases c1 : d < 1
  ·rw [if_pos c1, hb]; simp [c1]
  rw [if_neg c1]
  by_cases c2 : 16 < d
  ·rw [if_pos c2, hb]; simp [c2]
  rw [if_neg c2]
  by_cases c3 : m < 0
  ·rw [if_pos c3, hb]; simp [c3]
  rw [if_neg c3, hb]
  simp [c1, c2, c3]
 ·unfold chk
  cases b with
  | true =>
   have : d < 1 ∨ 16 < d ∨ m < 0 ∨ 4 < m := by simpa using hb.symm
   rw [if_pos this]
   exact Ev.step (f := fun _ => some 3) (fun k => by simp only [code_Check.j0]; rfl) (Ev.now _)
  | false =>
   have h' : ¬ (d < 1 ∨ 16 < d ∨ m < 0 ∨ 4 < m) := by
    intro h
    have : (decide (d < 1) || (decide (16 < d) || (decide (m < 0) || decide (4 < m)))) = true := by simpa using h
    rw [← hb] at this; cases this
   rw [if_neg h']
   have hw : wrap64 (wrap64 (d + (l.length : Int)) + m) = d + l.length + m := by unfold wrap64; omega
   by_cases e : 24 < d + (l.length : Int) + m
   ·rw [if_pos e]
    refine Ev.step (f := fun k => code_Check.j1 k true d l m) (fun k => ?_) (Ev.step (f := fun _ => some 2) (fun k => by simp only [code_Check.j1]; rfl) (Ev.now _))
    simp only [code_Check.j0, hw, gt_iff_lt, e, decide_true, Bool.false_eq_true, if_false, ite_self]
   ·rw [if_neg e]
    refine Ev.step (f := fun k => code_Check.j1 k false d l m) (fun k => ?_) (Ev.step (f := fun k => code_Check.l0 k ((seenOf l 0 : Nat) : Int) 0 l (l.length : Int) ((0 : Nat) : Int) d l m) (fun k => by simp only [code_Check.j1]; rfl) (cchk_l0 d (by omega) l m hs _ 0 (Nat.zero_add _) (fun h hh => absurd hh (Nat.not_lt_zero h))))
    simp only [code_Check.j0, hw, gt_iff_lt, e, decide_false, Bool.false_eq_true, if_false]
    rw [if_neg (by omega)]
/-! what a code without an error is like -/
theorem chkFrom_elems {d : Int} {l : List (List Int)} : ∀ n i, chkFrom d l i n = 0 → ∀ h : Nat, i ≤ h → h < i + n → grpErr d l h = 0 := by
 intro n
 induction n with
 | zero => intro i _ h h1 h2; omega
 | succ n ih =>
  intro i hc h h1 h2
  simp only [chkFrom] at hc
  by_cases e : grpErr d l i = 0
  ·rw [if_pos e] at hc
   by_cases e2 : h = i
   ·subst e2; exact e
   ·exact ih (i + 1) hc h (by omega) (by omega)
  ·rw [if_neg e] at hc
   exact absurd hc e
theorem grp_ok {d : Int} {l : List (List Int)} {gi : Nat} (h : grpErr d l gi = 0) : 0 < (rd_L1 l gi).length ∧ ∀ j : Nat, j < (rd_L1 l gi).length → badEl d l gi j = false := by
 unfold grpErr at h
 by_cases e : (rd_L1 l gi).length = 0
 ·rw [if_pos e] at h; cases h
 ·rw [if_neg e] at h
  refine ⟨by omega, fun j hj => ?_⟩
  have : anyFrom (badEl d l gi) 0 (rd_L1 l gi).length = false := by
   cases hc : anyFrom (badEl d l gi) 0 (rd_L1 l gi).length
   ·rfl
   ·rw [hc] at h; cases h
  exact anyFrom_false this j (Nat.zero_le _) (by omega)
structure CodeOk (d : Int) (l : List (List Int)) (m : Int) : Prop where
 d1 : 1 ≤ d
 d2 : d ≤ 16
 m1 : 0 ≤ m
 m2 : m ≤ 4
 sum : d + l.length + m ≤ 24
 grp : ∀ h : Nat, h < l.length → 0 < (rd_L1 l h).length ∧ ∀ j : Nat, j < (rd_L1 l h).length → badEl d l h j = false
theorem chk_ok {d : Int} {l : List (List Int)} {m : Int} (h : chk d l m = 0) : CodeOk d l m := by
 unfold chk at h
 by_cases c1 : d < 1 ∨ 16 < d ∨ m < 0 ∨ 4 < m
 ·rw [if_pos c1] at h; cases h
 rw [if_neg c1] at h
 by_cases c2 : 24 < d + (l.length : Int) + m
 ·rw [if_pos c2] at h; cases h
 rw [if_neg c2] at h
 exact ⟨by omega, by omega, by omega, by omega, by omega, fun g hg => grp_ok (chkFrom_elems _ _ h g (Nat.zero_le _) (by omega))⟩
theorem CodeOk.elems {d : Int} {l : List (List Int)} {m : Int} (h : CodeOk d l m) : Elems d l l.length := by
 intro g hg x hx
 obtain ⟨t, ht, rfl⟩ := List.mem_iff_getElem.1 hx
 have := (h.grp g hg).2 t ht
 unfold badEl at this
 simp only [Bool.or_eq_false_iff, decide_eq_false_iff_not, rdi ht] at this
 omega
/-! Pieces, Size, Few -/
def piecesOf (d : Int) (l : List (List Int)) (m : Int) : Int := if chk d l m = 0 then d + l.length + m else 0
theorem cpieces_ev (d : Int) (l : List (List Int)) (m : Int) (hs : Small l) : Ev (fun k => code_Pieces.f k d l m) (piecesOf d l m) := by
 unfold piecesOf
 refine Ev.congr (f := fun k => (code_Check.f k d l m).bind fun t => if t = 0 then some (wrap64 (wrap64 (d + (l.length : Int)) + m)) else some 0) (fun k => rfl) (Ev.bind (cchk_ev d l m hs) ?_)
 by_cases e : chk d l m = 0
 ·have := chk_ok e
  have h1 := this.d1; have h2 := this.d2; have h3 := this.m1; have h4 := this.m2; have h5 := this.sum
  simp only [e, if_true]
  have hw : wrap64 (wrap64 (d + (l.length : Int)) + m) = d + l.length + m := by unfold wrap64; omega
  rw [hw]
  exact Ev.now _
 ·simp only [e, if_false]
  exact Ev.now _
theorem rpieces_ev (d : Int) (l : List (List Int)) (m : Int) (hs : Small l) : Ev (fun k => quietusref07_Pieces.f k d l m) (piecesOf d l m) := by
 unfold piecesOf
 refine Ev.congr (f := fun k => (quietusref07_Check.f k d l m).bind fun t => if t = 0 then some (wrap64 (wrap64 (d + (l.length : Int)) + m)) else some 0) (fun k => rfl) (Ev.bind (rchk_ev d l m hs) ?_)
 by_cases e : chk d l m = 0
 ·have := chk_ok e
  have h1 := this.d1; have h2 := this.d2; have h3 := this.m1; have h4 := this.m2; have h5 := this.sum
  simp only [e, if_true]
  have hw : wrap64 (wrap64 (d + (l.length : Int)) + m) = d + l.length + m := by unfold wrap64; omega
  rw [hw]
  exact Ev.now _
 ·simp only [e, if_false]
  exact Ev.now _
def sizeOf (d : Int) (l : List (List Int)) (m n : Int) : Int := if chk d l m = 0 ∧ 0 ≤ n ∧ n ≤ 4096 then (n + d - 1) / d else 0
theorem size_num {d n : Int} (h1 : 1 ≤ d) (h2 : d ≤ 16) (h3 : 0 ≤ n) (h4 : n ≤ 4096) : wrap64 (Int.tdiv (wrap64 (wrap64 (n + d) - 1)) d) = (n + d - 1) / d := by
 have e : wrap64 (wrap64 (n + d) - 1) = n + d - 1 := by unfold wrap64; omega
 rw [e, Int.tdiv_eq_ediv_of_nonneg (by omega)]
 have h5 : 0 ≤ (n + d - 1) / d := Int.ediv_nonneg (by omega) (by omega)
 have h6 : (n + d - 1) / d ≤ n + d - 1 := Int.ediv_le_self _ (by omega)
 generalize (n + d - 1) / d = q at *
 unfold wrap64; omega
theorem sizeOf_in {d : Int} {l : List (List Int)} {m n : Int} (h : chk d l m = 0) (h0 : ¬ n < 0) (h1 : ¬ n > 4096) : sizeOf d l m n = (n + d - 1) / d := if_pos ⟨h, by omega, by omega⟩
theorem sizeOf_out {d : Int} {l : List (List Int)} {m n : Int} (h : chk d l m ≠ 0 ∨ n < 0 ∨ n > 4096) : sizeOf d l m n = 0 := if_neg (fun ⟨h1, h2, h3⟩ => by rcases h with h | h | h; exact h h1; omega; omega)
theorem csize_ev (d : Int) (l : List (List Int)) (m n : Int) (hs : Small l) : Ev (fun k => code_Size.f k d l m n) (sizeOf d l m n) := by
 by_cases c1 : n < 0
 ·rw [sizeOf_out (.inr (.inl c1))]
  exact Ev.congr (f := fun _ => some 0) (fun k => by unfold code_Size.f; rw [if_pos c1]) (Ev.now _)
 by_cases c2 : n > 4096
 ·rw [sizeOf_out (.inr (.inr c2))]
  exact Ev.congr (f := fun _ => some 0) (fun k => by unfold code_Size.f; rw [if_neg c1, if_pos c2]) (Ev.now _)
 refine Ev.congr (f := fun k => (code_Check.f k d l m).bind fun t => if t = 0 then (if d = 0 then none else some (wrap64 (Int.tdiv (wrap64 (wrap64 (n + d) - 1)) d))) else some 0) (fun k => by unfold code_Size.f; rw [if_neg c1, if_neg c2]) (Ev.bind (cchk_ev d l m hs) ?_)
 by_cases e : chk d l m = 0
 ·have := chk_ok e
  have h1 := this.d1; have h2 := this.d2
  rw [sizeOf_in e c1 c2]
  simp only [e, if_true, if_neg (show ¬ d = 0 by omega), size_num h1 h2 (show 0 ≤ n by omega) (show n ≤ 4096 by omega)]
  exact Ev.now _
 ·rw [sizeOf_out (.inl e)]
  simp only [e, if_false]
  exact Ev.now _
theorem rsize_ev (d : Int) (l : List (List Int)) (m n : Int) (hs : Small l) : Ev (fun k => quietusref07_Size.f k d l m n) (sizeOf d l m n) := by
 refine Ev.congr (f := fun k => (quietusref07_Check.f k d l m).bind fun t => if t = 0 then (if n < 0 then some 0 else if n > 4096 then some 0 else if d = 0 then none else some (wrap64 (Int.tdiv (wrap64 (wrap64 (n + d) - 1)) d))) else some 0) (fun k => rfl) (Ev.bind (rchk_ev d l m hs) ?_)
 by_cases e : chk d l m = 0
 ·have := chk_ok e
  have h1 := this.d1; have h2 := this.d2
  by_cases c1 : n < 0
  ·rw [sizeOf_out (.inr (.inl c1))]
   simp only [e, if_true, c1]
   exact Ev.now _
  by_cases c2 : n > 4096
  ·rw [sizeOf_out (.inr (.inr c2))]
   simp only [e, if_true, c1, c2, if_false]
   exact Ev.now _
  rw [sizeOf_in e c1 c2]
  simp only [e, if_true, if_neg c1, if_neg c2, if_neg (show ¬ d = 0 by omega), size_num h1 h2 (show 0 ≤ n by omega) (show n ≤ 4096 by omega)]
  exact Ev.now _
 ·rw [sizeOf_out (.inl e)]
  simp only [e, if_false]
  exact Ev.now _
def fewB (l : List (List Int)) (n : Int) : Bool := !(decide (n < l.length) || anyFrom (fun h => decide (20 < (rd_L1 l (h : Nat)).length)) 0 l.length)
theorem few_l0 (d : Int) (l : List (List Int)) (m : Int) (hl : l.length ≤ 4611686018427387000) : ∀ n i, i + n = l.length → Ev (fun k => quietusref07_Few.l0 k (i : Int) d l m) (!(anyFrom (fun h => decide (20 < (rd_L1 l (h : Nat)).length)) i n)) := by
 intro n
 induction n with
 | zero =>
  intro i hi
  refine Ev.step (f := fun _ => some true) (fun k => ?_) (Ev.now _)
  simp only [quietusref07_Few.l0]
  rw [if_neg (by omega)]
 | succ n ih =>
  intro i hi
  by_cases e : 20 < (rd_L1 l (i : Nat)).length
  ·simp only [anyFrom, e, decide_true, Bool.true_or, Bool.not_true]
   refine Ev.step (f := fun _ => some false) (fun k => ?_) (Ev.now _)
   simp only [quietusref07_Few.l0]
   rw [if_pos (by omega), if_pos (by omega), if_pos (by omega)]
  ·simp only [anyFrom, e, decide_false, Bool.false_or]
   refine Ev.step (f := fun k => quietusref07_Few.l0 k ((i + 1 : Nat) : Int) d l m) (fun k => ?_) (ih (i + 1) (by omega))
   simp only [quietusref07_Few.l0]
   rw [if_pos (by omega), if_pos (by omega), if_neg (by omega), wrap_succ (by omega)]
theorem few_ev (d : Int) (l : List (List Int)) (m n : Int) (hn : n ≤ 4611686018427387000) : Ev (fun k => quietusref07_Few.f k d l m n) (fewB l n) := by
 unfold fewB
 by_cases e : n < (l.length : Int)
 ·simp only [e, decide_true, Bool.true_or, Bool.not_true]
  exact Ev.congr (f := fun _ => some false) (fun k => by unfold quietusref07_Few.f; rw [if_pos e]) (Ev.now _)
 ·simp only [e, decide_false, Bool.false_or]
  exact Ev.congr (f := fun k => quietusref07_Few.l0 k ((0 : Nat) : Int) d l m) (fun k => by unfold quietusref07_Few.f; rw [if_neg (by omega)]; rfl) (few_l0 d l m (by omega) _ 0 (Nat.zero_add _))
theorem few_small {l : List (List Int)} {n : Int} (h : fewB l n = true) (hn : n ≤ 1000000) : (l.length : Int) ≤ n ∧ Small l ∧ ∀ i : Nat, (rd_L1 l i).length ≤ 20 := by
 unfold fewB at h
 simp only [Bool.not_eq_true', Bool.or_eq_false_iff, decide_eq_false_iff_not] at h
 have h2 : ∀ i : Nat, (rd_L1 l i).length ≤ 20 := by
  intro i
  by_cases hi : i < l.length
  ·have := anyFrom_false h.2 i (Nat.zero_le _) (by omega)
   simp only [decide_eq_false_iff_not] at this
   omega
  ·have : rd_L1 l i = [] := by
    unfold rd_L1
    rw [Int.toNat_natCast, List.getD_eq_getElem?_getD, List.getElem?_eq_none (by omega)]
    rfl
   rw [this]; simp
 exact ⟨by omega, ⟨by omega, fun i => by have := h2 i; omega⟩, h2⟩
end Go.Proofs.YtkadfidmfnpohaaDoor.XB

namespace Go.Proofs.YtkadfidmfnpohaaDoor.XB
open Go.RowKit Go.Proofs.YtkadfidmfnpohaaDoorW.PrintWords Go.Proofs.YtkadfidmfnpohaaDoorW.PrintLast Go.Proofs.YtkadfidmfnpohaaDoorW.PrintMore
attribute [local go_sem] max2_int min2_int max_two min_two max_three min_three max_four min_four
set_option linter.unusedVariables false
set_option linter.unusedSimpArgs false
theorem i64_xor (a b : Nat) (ha : a < 2 ^ 63) (hb : b < 2 ^ 63) : Go.bits .xor .i64 (a : Int) (b : Int) = ((a ^^^ b : Nat) : Int) := by
 show IntKind.i64.wrap ((BitVec.ofInt 64 (a : Int) ^^^ BitVec.ofInt 64 (b : Int)).toNat : Int) = _
 rw [BitVec.toNat_xor, BitVec.ofInt_natCast, BitVec.ofInt_natCast, BitVec.toNat_ofNat, BitVec.toNat_ofNat, Nat.mod_eq_of_lt (by omega), Nat.mod_eq_of_lt (by omega)]
 have := Nat.xor_lt_two_pow ha hb
 exact wraps_i64 _ (by omega) (by exact_mod_cast this)
theorem bt_get (l : List Int) (h : ∀ x ∈ l, isB x = true) (i : Nat) (hi : i < l.length) : bt (strOfNums l) (i : Int) = l[i] := by
 have hx := isB_iff.1 (h _ (List.getElem_mem hi))
 have hs : (i : Int).toNat < (strOfNums l).size := by rw [strOfNums_size]; simpa using hi
 unfold bt
 rw [dif_pos hs]
 have e : (strOfNums l)[(i : Int).toNat]'hs = UInt8.ofNat (l[i]).toNat := by
  simp [strOfNums, ByteArray.getElem_eq_getElem_data]
 rw [e, UInt8.toNat_ofNat', Nat.mod_eq_of_lt (by omega)]
 omega
theorem bt_out (s : ByteArray) (i : Nat) (h : s.size ≤ i) : bt s (i : Int) = 0 := by
 unfold bt
 rw [dif_neg (by simpa using h)]
theorem bt_nil (i : Int) : bt (⟨#[]⟩ : ByteArray) i = 0 := by
 unfold bt
 rw [dif_neg (by simp [ByteArray.size])]
/-! the reference's product -/
theorem mulN_step {a b : Nat} (hb : b < 256) : QGF.mulN a b = QGF.pick b 0 a ^^^ QGF.mulN (QGF.xtN a) (b / 2) := by
 have hp : ∀ k x, QGF.pick (b / 2) k x = QGF.pick b (k + 1) x := by
  intro k x
  unfold QGF.pick
  rw [Nat.shiftRight_eq_div_pow, Nat.shiftRight_eq_div_pow, Nat.div_div_eq_div_mul, Nat.pow_succ, Nat.mul_comm (2 ^ k) 2]
 have h8 : ∀ x, QGF.pick b 8 x = 0 := by
  intro x
  unfold QGF.pick
  rw [Nat.shiftRight_eq_div_pow, Nat.div_eq_of_lt (by omega)]
  simp
 unfold QGF.mulN
 simp only [hp, h8, Nat.xor_zero]
theorem rmul_from : ∀ (n b : Nat), b < 2 ^ n → b < 256 → ∀ a x : Nat, a < 256 → x < 256 → Ev (fun k => quietusref04_Mul.l0 k (a : Int) (b : Int) (x : Int)) ((x ^^^ QGF.mulN a b : Nat) : Int) := by
 intro n
 induction n with
 | zero =>
  intro b hb _ a x ha hx
  obtain rfl : b = 0 := by simpa using hb
  refine Ev.step (f := fun _ => some (((x ^^^ QGF.mulN a 0 : Nat) : Int))) (fun k => ?_) (Ev.now _)
  simp only [quietusref04_Mul.l0]
  rw [if_neg (by omega), QGF.mul_zero, Nat.xor_zero]
  congr 1
  omega
 | succ n ih =>
  intro b hb hb2 a x ha hx
  by_cases h0 : b = 0
  ·subst h0
   refine Ev.step (f := fun _ => some (((x ^^^ QGF.mulN a 0 : Nat) : Int))) (fun k => ?_) (Ev.now _)
   simp only [quietusref04_Mul.l0]
   rw [if_neg (by omega), QGF.mul_zero, Nat.xor_zero]
   congr 1
   omega
  ·have hp : (2 : Nat) ^ (n + 1) = 2 * 2 ^ n := by rw [Nat.pow_succ, Nat.mul_comm]
   have hxt : (if wrap64 (2 * (a : Int)) > 255 then Go.bits .xor .i64 (wrap64 (2 * (a : Int))) 285 else wrap64 (2 * (a : Int))) = ((QGF.xtN a : Nat) : Int) := by
    have e : wrap64 (2 * (a : Int)) = ((2 * a : Nat) : Int) := by unfold wrap64; omega
    rw [e]
    unfold QGF.xtN
    by_cases c : 128 ≤ a
    ·rw [if_pos (by omega), show a / 128 = 1 by omega]
     exact i64_xor (2 * a) 285 (by omega) (by decide)
    ·rw [if_neg (by omega), show a / 128 = 0 by omega]
     simp
   have h2 : wrap64 (Int.tdiv (b : Int) 2) = ((b / 2 : Nat) : Int) := by
    rw [Int.tdiv_eq_ediv_of_nonneg (by omega)]
    unfold wrap64; omega
   have hm : Int.tmod (b : Int) 2 = ((b % 2 : Nat) : Int) := by
    rw [Int.tmod_eq_emod_of_nonneg (by omega)]; omega
   have hxa := i64_xor x a (by omega) (by omega)
   refine Ev.step (f := fun k => quietusref04_Mul.l0 k ((QGF.xtN a : Nat) : Int) ((b / 2 : Nat) : Int) ((x ^^^ QGF.pick b 0 a : Nat) : Int)) (fun k => ?_) (ev_eq (ih (b / 2) (by omega) (by omega) (QGF.xtN a) (x ^^^ QGF.pick b 0 a) (QGF.xt_lt ha) (QGF.xor_lt hx (QGF.pick_lt ha))) ?_)
   ·simp only [quietusref04_Mul.l0]
    rw [if_pos (by omega), hm, h2, hxa]
    have hpk : QGF.pick b 0 a = b % 2 * a := by unfold QGF.pick; simp
    rcases Nat.mod_two_eq_zero_or_one b with e | e
    ·rw [e, if_neg (by decide), hpk, e, Nat.zero_mul, Nat.xor_zero, ← hxt]
     split <;> rfl
    ·rw [e, if_pos (by decide), hpk, e, Nat.one_mul, ← hxt]
     split <;> rfl
   ·rw [mulN_step hb2, Nat.xor_assoc]
theorem rmul_ev {a b : Int} (ha : isB a = true) (hb : isB b = true) : Ev (fun k => quietusref04_Mul.f k a b) (imul a b) := by
 rw [isB_iff] at ha hb
 obtain ⟨m, rfl⟩ := Int.eq_ofNat_of_zero_le ha.1
 obtain ⟨n, rfl⟩ := Int.eq_ofNat_of_zero_le hb.1
 refine Ev.congr (f := fun k => quietusref04_Mul.l0 k (m : Int) (n : Int) ((0 : Nat) : Int)) (fun k => ?_) (ev_eq (rmul_from 8 n (by omega) (by omega) m 0 (by omega) (by decide)) ?_)
 ·unfold quietusref04_Mul.f
  rw [wrap_nat (by omega), wrap_nat (by omega)]
  rfl
 ·unfold imul
  rw [Nat.zero_xor, Int.toNat_natCast, Int.toNat_natCast]
/-! powers of 2 -/
theorem rexp_from (n : Nat) (hn : n < 2 ^ 62) : ∀ j i : Nat, i + j = n % 255 → Ev (fun k => quietusref04_Exp.l0 k (n : Int) ((QGF.xtp i 1 : Nat) : Int) (i : Int)) ((QGF.xtp (n % 255) 1 : Nat) : Int) := by
 have he : quietusref04_exponent.f (n : Int) = some ((n % 255 : Nat) : Int) := by
  unfold quietusref04_exponent.f
  rw [Int.tmod_eq_emod_of_nonneg (show (0 : Int) ≤ (n : Int) by omega)]
  have e : wrap64 ((n : Int) % 255 + 255) = ((n % 255 + 255 : Nat) : Int) := by unfold wrap64; omega
  rw [e, Int.tmod_eq_emod_of_nonneg (by omega)]
  congr 1
  omega
 intro j
 induction j with
 | zero =>
  intro i hi
  refine Ev.step (f := fun _ => some ((QGF.xtp (n % 255) 1 : Nat) : Int)) (fun k => ?_) (Ev.now _)
  simp only [quietusref04_Exp.l0, he, Option.bind_some]
  rw [if_neg (by omega), show i = n % 255 by omega]
 | succ j ih =>
  intro i hi
  have hb := rmul_ev (isB_nat (QGF.xtp_lt (a := 1) (by decide) i)) (show isB 2 = true by decide)
  refine Ev.step (f := fun k => (quietusref04_Mul.f k ((QGF.xtp i 1 : Nat) : Int) 2).bind fun t => quietusref04_Exp.l0 k (n : Int) t ((i + 1 : Nat) : Int)) (fun k => ?_) (Ev.bind hb ?_)
  ·simp only [quietusref04_Exp.l0, he, Option.bind_some]
   rw [if_pos (by omega), wrap_succ (by omega)]
  ·have e : imul ((QGF.xtp i 1 : Nat) : Int) 2 = ((QGF.xtp (i + 1) 1 : Nat) : Int) := by
    show ((QGF.mulN (QGF.xtp i 1) (QGF.xtp 1 1) : Nat) : Int) = _
    rw [QGF.mul_pow (QGF.xtp_lt (by decide) i), ← QGF.xtp_add]
   rw [e]
   exact ih (i + 1) (by omega)
theorem rexp_ev (n : Nat) (hn : n < 2 ^ 62) : Ev (fun k => quietusref04_Exp.f k (n : Int)) ((QGF.xtp n 1 : Nat) : Int) := by
 rw [QGF.xtp_mod n]
 exact rexp_from n hn _ 0 (Nat.zero_add _)
/-! a row of the reference -/
def elAt (D : Nat) (l : List (List Int)) (t i : Nat) : Int := if t < D then unitAt t i else if t < D + l.length then setAt (setOf (rd_L1 l ((t - D : Nat) : Int))) i else expAt (t - D - l.length) i
def rowAt (D : Nat) (l : List (List Int)) (t : Nat) : List Int := (List.range D).map (elAt D l t)
theorem setAt_has {g : List Int} (h : ∀ x ∈ g, 0 ≤ x ∧ x < 16) (i : Nat) : setAt (setOf g) i = if (i : Int) ∈ g then 1 else 0 := by
 have e : (setOf g).testBit i = g.any (fun x => x.toNat == i) := by
  have := orAll_bit g i 0
  rwa [Nat.zero_testBit, Bool.false_or] at this
 have hm : (g.any (fun x => x.toNat == i) = true) ↔ (i : Int) ∈ g := by
  rw [List.any_eq_true]
  constructor
  ·rintro ⟨x, hx, hz⟩
   have := (h x hx).1
   have hz : x.toNat = i := by simpa using hz
   rwa [show (i : Int) = x by omega]
  ·intro hx
   exact ⟨_, hx, by simp⟩
 unfold setAt
 rw [Nat.testBit_eq_decide_div_mod_eq, ← Nat.shiftRight_eq_div_pow] at e
 by_cases c : (i : Int) ∈ g
 ·rw [if_pos c]
  rw [hm.2 c, decide_eq_true_eq] at e
  rw [e]; rfl
 ·rw [if_neg c]
  have hf : g.any (fun x => x.toNat == i) = false := by
   cases hc : g.any (fun x => x.toNat == i)
   ·rfl
   ·exact absurd (hm.1 hc) c
  rw [hf, decide_eq_false_iff_not] at e
  have : setOf g >>> i % 2 = 0 := by omega
  rw [this]; rfl
theorem rrow_from (D : Nat) (l : List (List Int)) (m : Int) (hs : Small l) (hD : D ≤ 16) (hsum : l.length ≤ 24) (hel : Elems D l l.length) (t : Nat) (ht : t < 30) :
  ∀ n i, i + n = D → Ev (fun k => quietusref07_row.l0 k (t : Int) ((List.range i).map (elAt D l t)) (i : Int) (D : Int) l m) (rowAt D l t) := by
 intro n
 induction n with
 | zero =>
  intro i hi
  refine Ev.step (f := fun _ => some (rowAt D l t)) (fun k => ?_) (Ev.now _)
  simp only [quietusref07_row.l0]
  rw [if_neg (by omega), show i = D by omega]
  rfl
 | succ n ih =>
  intro i hi
  have hnx := ih (i + 1) (by omega)
  have hsnoc : (List.range (i + 1)).map (elAt D l t) = (List.range i).map (elAt D l t) ++ [elAt D l t i] := by rw [List.range_succ, List.map_append]; rfl
  rw [hsnoc] at hnx
  have hlen : ((List.range i).map (elAt D l t)).length < 140737488355328 := by simp; omega
  by_cases c1 : t < D
  ·refine Ev.step (f := fun k => quietusref07_row.l0 k (t : Int) ((List.range i).map (elAt D l t) ++ [elAt D l t i]) ((i + 1 : Nat) : Int) (D : Int) l m) (fun k => ?_) hnx
   simp only [quietusref07_row.l0]
   rw [if_pos (by omega), if_pos (by omega), if_pos hlen, if_pos hlen, wrap_succ (by omega)]
   unfold elAt unitAt
   rw [if_pos c1]
   by_cases e : i = t
   ·rw [if_pos (by omega), if_pos e]
   ·rw [if_neg (by omega), if_neg e]
  ·have hw1 : wrap64 ((D : Int) + (l.length : Int)) = ((D + l.length : Nat) : Int) := by unfold wrap64; omega
   have hw2 : wrap64 ((t : Int) - (D : Int)) = ((t - D : Nat) : Int) := by unfold wrap64; omega
   by_cases c2 : t < D + l.length
   ·have hg := hel (t - D) (by omega)
    have hhas := has_ev (rd_L1 l ((t - D : Nat) : Int)) (i : Int) (hs.2 _)
    have hset := setAt_has (g := rd_L1 l ((t - D : Nat) : Int)) (fun x hx => by have := hg x hx; omega) i
    have hea : elAt D l t i = if (i : Int) ∈ rd_L1 l ((t - D : Nat) : Int) then 1 else 0 := by
     unfold elAt
     rw [if_neg c1, if_pos c2, hset]
    refine Ev.step (f := fun k => (quietusref07_Has.f k (rd_L1 l ((t - D : Nat) : Int)) (i : Int)).bind fun b => if b = true then quietusref07_row.l0 k (t : Int) ((List.range i).map (elAt D l t) ++ [1]) ((i + 1 : Nat) : Int) (D : Int) l m else quietusref07_row.l0 k (t : Int) ((List.range i).map (elAt D l t) ++ [0]) ((i + 1 : Nat) : Int) (D : Int) l m) (fun k => ?_) (Ev.bind hhas ?_)
    ·simp only [quietusref07_row.l0]
     rw [if_pos (by omega), if_neg (by omega), hw1, if_pos (by omega), hw2, if_pos (by omega), if_pos (by omega), if_pos hlen, if_pos hlen, wrap_succ (by omega)]
    ·rw [hea] at hnx
     by_cases e : (i : Int) ∈ rd_L1 l ((t - D : Nat) : Int)
     ·simp only [e, decide_true, if_true] at hnx ⊢
      exact hnx
     ·simp only [e, decide_false, if_false, Bool.false_eq_true] at hnx ⊢
      exact hnx
   ·have hw3 : wrap64 (wrap64 (((t - D : Nat) : Int) - (l.length : Int)) + 1) = ((t - D - l.length + 1 : Nat) : Int) := by unfold wrap64; omega
    have hmul : i * (t - D - l.length + 1) ≤ 16 * 31 := Nat.mul_le_mul (by omega) (by omega)
    have hw4 : wrap64 ((i : Int) * ((t - D - l.length + 1 : Nat) : Int)) = ((i * (t - D - l.length + 1) : Nat) : Int) := by
     rw [show (i : Int) * ((t - D - l.length + 1 : Nat) : Int) = ((i * (t - D - l.length + 1) : Nat) : Int) by simp]
     exact wrap_nat (by omega)
    refine Ev.step (f := fun k => (quietusref04_Exp.f k ((i * (t - D - l.length + 1) : Nat) : Int)).bind fun z => quietusref07_row.l0 k (t : Int) ((List.range i).map (elAt D l t) ++ [z]) ((i + 1 : Nat) : Int) (D : Int) l m) (fun k => ?_) (Ev.bind (rexp_ev (i * (t - D - l.length + 1)) (Nat.lt_of_le_of_lt hmul (by decide))) ?_)
    ·simp only [quietusref07_row.l0]
     rw [if_pos (by omega), if_neg (by omega), hw1, if_neg (by omega), hw2, hw3, hw4]
     simp only [if_pos hlen]
     rw [wrap_succ (by omega)]
    ·have hea : elAt D l t i = ((QGF.xtp (i * (t - D - l.length + 1)) 1 : Nat) : Int) := by
      unfold elAt
      rw [if_neg c1, if_neg c2]
      rfl
     rw [hea] at hnx
     exact hnx
theorem rrow_ev (D : Nat) (l : List (List Int)) (m : Int) (hs : Small l) (hD : D ≤ 16) (hsum : l.length ≤ 24) (hel : Elems D l l.length) (t : Nat) (ht : t < 30) : Ev (fun k => quietusref07_row.f k (D : Int) l m (t : Int)) (rowAt D l t) :=
 Ev.congr (f := fun k => quietusref07_row.l0 k (t : Int) ((List.range 0).map (elAt D l t)) ((0 : Nat) : Int) (D : Int) l m) (fun k => by unfold quietusref07_row.f; rfl) (rrow_from D l m hs hD hsum hel t ht D 0 (Nat.zero_add _))
/-! all rows -/
theorem rowsOf_eq (D : Nat) (l : List (List Int)) (M : Nat) : rowsOf D l M = (List.range (D + l.length + M)).map (rowAt D l) := by
 unfold rowsOf unitRows groupRows expRows
 rw [List.take_length]
 apply List.ext_getElem?
 intro i
 by_cases c1 : i < D
 ·rw [List.append_assoc, List.getElem?_append_left (by simpa using c1), List.getElem?_map, List.getElem?_map, List.getElem?_range c1, List.getElem?_range (by omega)]
  simp only [Option.map_some]
  congr 1
  unfold unitRow rowAt
  apply List.map_congr_left
  intro j _
  unfold elAt
  rw [if_pos c1]
 ·by_cases c2 : i < D + l.length
  ·rw [List.append_assoc, List.getElem?_append_right (by simp; omega), List.getElem?_append_left (by simp; omega), List.getElem?_map, List.getElem?_map, List.getElem?_range (by omega)]
   simp only [List.length_map, List.length_range, Option.map_some]
   rw [List.getElem?_eq_getElem (by omega)]
   simp only [Option.map_some]
   congr 1
   unfold groupRow rowAt
   apply List.map_congr_left
   intro j _
   unfold elAt
   rw [if_neg c1, if_pos c2]
   have : rd_L1 l ((i - D : Nat) : Int) = l[i - D]'(by omega) := by simp [rd_L1, List.getD_eq_getElem?_getD, List.getElem?_eq_getElem (show i - D < l.length by omega)]
   rw [this]
  ·have hL : ((List.range D).map (unitRow D) ++ l.map (groupRow D)).length = D + l.length := by simp
   by_cases c3 : i < D + l.length + M
   ·rw [List.getElem?_append_right (by omega), hL, List.getElem?_map, List.getElem?_range (show i - (D + l.length) < M by omega), List.getElem?_map, List.getElem?_range c3]
    simp only [Option.map_some]
    congr 1
    unfold expRow rowAt
    apply List.map_congr_left
    intro j _
    unfold elAt
    rw [if_neg c1, if_neg c2, Nat.sub_add_eq]
   ·rw [List.getElem?_eq_none (by simp; omega), List.getElem?_eq_none (by simp; omega)]
theorem okCode_of {D : Nat} {l : List (List Int)} {M : Nat} (h : CodeOk (D : Int) l (M : Int)) : okCode (D : Int) l (M : Int) = true := by
 have h1 := h.d1; have h2 := h.d2; have h3 := h.m2; have h4 := h.sum; have h5 := h.elems
 simp only [okCode, Bool.and_eq_true, decide_eq_true_eq, List.all_eq_true]
 refine ⟨⟨⟨⟨⟨h1, h2⟩, by omega⟩, h3⟩, by omega⟩, fun g hg x hx => ?_⟩
 obtain ⟨t, ht, rfl⟩ := List.mem_iff_getElem.1 hg
 have e : rd_L1 l (t : Nat) = l[t] := by simp [rd_L1, List.getD_eq_getElem?_getD, List.getElem?_eq_getElem ht]
 have := h5 t ht x (by rw [e]; exact hx)
 omega
theorem CodeOk.nats {d : Int} {l : List (List Int)} {m : Int} (h : CodeOk d l m) : ∃ D M : Nat, d = D ∧ m = M := by
 have h1 := h.d1; have h3 := h.m1
 exact ⟨d.toNat, m.toNat, by omega, by omega⟩
/-- The rows of a code; none with an error. -/
def rowsFor (d : Int) (l : List (List Int)) (m : Int) : List (List Int) := if chk d l m = 0 then rowsOf d.toNat l m.toNat else []
theorem crows_ev (d : Int) (l : List (List Int)) (m : Int) (hs : Small l) : Ev (fun k => code_Rows.f k d l m) (rowsFor d l m, chk d l m) := by
 unfold rowsFor
 refine Ev.congr (f := fun k => (code_Check.f k d l m).bind fun e => if e = 0 then (if okCode d l m = true then some (rowsOf d.toNat l m.toNat, 0) else none) else some ([], e)) (fun k => rfl) (Ev.bind (cchk_ev d l m hs) ?_)
 by_cases e : chk d l m = 0
 ·have hok := chk_ok e
  obtain ⟨D, M, rfl, rfl⟩ := hok.nats
  simp only [e, if_true, okCode_of hok]
  exact Ev.now _
 ·simp only [e, if_false]
  exact Ev.now _
theorem rrows_from (D M : Nat) (l : List (List Int)) (hs : Small l) (hok : CodeOk (D : Int) l (M : Int)) (hc : chk (D : Int) l (M : Int) = 0) : ∀ n i, i + n = D + l.length + M → Ev (fun k => quietusref07_Rows.l0 k ((List.range i).map (rowAt D l)) (i : Int) (D : Int) l (M : Int)) (rowsOf D l M) := by
 have h1 := hok.d1; have h2 := hok.d2; have h3 := hok.m2; have h4 := hok.sum
 have hp : piecesOf (D : Int) l (M : Int) = ((D + l.length + M : Nat) : Int) := by unfold piecesOf; rw [if_pos hc]; omega
 have hpe := rpieces_ev (D : Int) l (M : Int) hs
 rw [hp] at hpe
 intro n
 induction n with
 | zero =>
  intro i hi
  refine Ev.step (f := fun k => (quietusref07_Pieces.f k (D : Int) l (M : Int)).bind fun t => if (i : Int) < t then (quietusref07_row.f k (D : Int) l (M : Int) (i : Int)).bind fun t185 => if ((List.range i).map (rowAt D l)).length < 5864062014805 then quietusref07_Rows.l0 k ((List.range i).map (rowAt D l) ++ [t185]) (wrap64 ((i : Int) + 1)) (D : Int) l (M : Int) else none else some ((List.range i).map (rowAt D l))) (fun k => by simp only [quietusref07_Rows.l0]) (Ev.bind hpe ?_)
  rw [rowsOf_eq, show i = D + l.length + M by omega]
  simp only [Int.lt_irrefl, if_false]
  exact Ev.now _
 | succ n ih =>
  intro i hi
  refine Ev.step (f := fun k => (quietusref07_Pieces.f k (D : Int) l (M : Int)).bind fun t => if (i : Int) < t then (quietusref07_row.f k (D : Int) l (M : Int) (i : Int)).bind fun t185 => if ((List.range i).map (rowAt D l)).length < 5864062014805 then quietusref07_Rows.l0 k ((List.range i).map (rowAt D l) ++ [t185]) (wrap64 ((i : Int) + 1)) (D : Int) l (M : Int) else none else some ((List.range i).map (rowAt D l))) (fun k => by simp only [quietusref07_Rows.l0]) (Ev.bind hpe ?_)
  have hi2 : (i : Int) < ((D + l.length + M : Nat) : Int) := by omega
  simp only [hi2, if_true]
  refine Ev.bind (rrow_ev D l (M : Int) hs (by omega) (by omega) hok.elems i (by omega)) ?_
  have hlen : ((List.range i).map (rowAt D l)).length < 5864062014805 := by simp; omega
  simp only [hlen, if_true]
  have := ih (i + 1) (by omega)
  rw [List.range_succ, List.map_append] at this
  rw [wrap_succ (by omega)]
  exact this
theorem rrows_ev (d : Int) (l : List (List Int)) (m : Int) (hs : Small l) : Ev (fun k => quietusref07_Rows.f k d l m) (rowsFor d l m) := by
 unfold rowsFor
 by_cases e : chk d l m = 0
 ·have hok := chk_ok e
  obtain ⟨D, M, rfl, rfl⟩ := hok.nats
  rw [if_pos e]
  exact rrows_from D M l hs hok e _ 0 (Nat.zero_add _)
 ·rw [if_neg e]
  have hp : piecesOf d l m = 0 := by unfold piecesOf; rw [if_neg e]
  have hpe := rpieces_ev d l m hs
  rw [hp] at hpe
  refine Ev.step (g := fun k => quietusref07_Rows.f k d l m) (f := fun k => (quietusref07_Pieces.f k d l m).bind fun t => if (0 : Int) < t then (quietusref07_row.f k d l m 0).bind fun t185 => if ([] : List (List Int)).length < 5864062014805 then quietusref07_Rows.l0 k ([] ++ [t185]) (wrap64 (0 + 1)) d l m else none else some []) (fun k => by show quietusref07_Rows.l0 (k + 1) [] 0 d l m = _; simp only [quietusref07_Rows.l0]) (Ev.bind hpe ?_)
  simp only [Int.lt_irrefl, if_false]
  exact Ev.now _
end Go.Proofs.YtkadfidmfnpohaaDoor.XB
