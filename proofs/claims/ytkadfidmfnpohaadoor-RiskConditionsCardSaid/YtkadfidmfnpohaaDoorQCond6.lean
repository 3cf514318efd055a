/- Lemmas for the claim Cond: functions of the program as plain Lean functions, each with its contract, and what is proved of them. -/
import Derived.Test.YtkadfidmfnpohaaDoorQCond1
import Derived.Test.YtkadfidmfnpohaaDoorQCond4
import Derived.Test.YtkadfidmfnpohaaDoorQCond5
import Derived.Test.YtkadfidmfnpohaaDoorQCond2
import Derived.Test.YtkadfidmfnpohaaDoorQCond3
import Derived.Test.YtkadfidmfnpohaaDoorRows
import Derived.Test.YtkadfidmfnpohaaDoorCards
import Derived.Test.YtkadfidmfnpohaaDoorTie
import Derived.ProofKit
import Derived.WalkKit
import Derived.OpenShut
import Derived.ShutString
import Derived.ChangeOld
import Derived.Below
import Derived.LaidMore
import Derived.Stop.Joined
import Derived.Lib.LaidTab
import Derived.Lib.SmallJoins
import Derived.SevenTiedAt
import Derived.MakeChecks
import Derived.SizedLaws
namespace Go.Proofs.YtkadfidmfnpohaaDoor.XB
open Go.RowKit Go.Proofs.YtkadfidmfnpohaaDoorW.PrintWords Go.Proofs.YtkadfidmfnpohaaDoorW.PrintLast Go.Proofs.YtkadfidmfnpohaaDoorW.PrintMore
set_option linter.unusedVariables false
set_option linter.unusedSimpArgs false
/-! the reference's product -/
/-! powers of 2 -/
/-! a row of the reference -/
def elAt (D : Nat) (l : List (List Int)) (t i : Nat) : Int := if t < D then unitAt t i else if t < D + l.length then setAt (setOf (rd_L1 l ((t - D : Nat) : Int))) i else expAt (t - D - l.length) i
def rowAt (D : Nat) (l : List (List Int)) (t : Nat) : List Int := (List.range D).map (elAt D l t)
/-! all rows -/
theorem rowsOf_eq (D : Nat) (l : List (List Int)) (M : Nat) : rowsOf D l M = (List.range (D + l.length + M)).map (rowAt D l) := by
 unfold rowsOf unitRows groupRows expRows
 rw [List.take_length]
 apply List.ext_getElem?
 intro i
 by_cases c1 : i < D
 ·rw [List.append_assoc, List.getElem?_append_left (by simpa using c1), List.getElem?_map, List.getElem?_map, List.getElem?_range c1, List.getElem?_range (by omega)]
  simp only [Option.map_some]
  congr 1
  unfold unitRow rowAt
  apply List.map_congr_left
  intro j _
  unfold elAt
  rw [if_pos c1]
 ·by_cases c2 : i < D + l.length
  ·rw [List.append_assoc, List.getElem?_append_right (by simp; omega), List.getElem?_append_left (by simp; omega), List.getElem?_map, List.getElem?_map, List.getElem?_range (by omega)]
   simp only [List.length_map, List.length_range, Option.map_some]
   rw [List.getElem?_eq_getElem (by omega)]
   simp only [Option.map_some]
   congr 1
   unfold groupRow rowAt
   apply List.map_congr_left
   intro j _
   unfold elAt
   rw [if_neg c1, if_pos c2]
   have : rd_L1 l ((i - D : Nat) : Int) = l[i - D]'(by omega) := by simp [rd_L1, List.getD_eq_getElem?_getD, List.getElem?_eq_getElem (show i - D < l.length by omega)]
   rw [this]
  ·have hL : ((List.range D).map (unitRow D) ++ l.map (groupRow D)).length = D + l.length := by simp
   by_cases c3 : i < D + l.length + M
   ·rw [List.getElem?_append_right (by omega), hL, List.getElem?_map, List.getElem?_range (show i - (D + l.length) < M by omega), List.getElem?_map, List.getElem?_range c3]
    simp only [Option.map_some]
    congr 1
    unfold expRow rowAt
    apply List.map_congr_left
    intro j _
    unfold elAt
    rw [if_neg c1, if_neg c2, Nat.sub_add_eq]
   ·rw [List.getElem?_eq_none (by simp; omega), List.getElem?_eq_none (by simp; omega)]
theorem okCode_of {D : Nat} {l : List (List Int)} {M : Nat} (h : CodeOk (D : Int) l (M : Int)) : okCode (D : Int) l (M : Int) = true := by
 have h1 := h.d1; have h2 := h.d2; have h3 := h.m2; have h4 := h.sum; have h5 := h.elems
 simp only [okCode, Bool.and_eq_true, decide_eq_true_eq, List.all_eq_true]
 refine ⟨⟨⟨⟨⟨h1, h2⟩, by omega⟩, h3⟩, by omega⟩, fun g hg x hx => ?_⟩
 obtain ⟨t, ht, rfl⟩ := List.mem_iff_getElem.1 hg
 have e : rd_L1 l (t : Nat) = l[t] := by simp [rd_L1, List.getD_eq_getElem?_getD, List.getElem?_eq_getElem ht]
 have := h5 t ht x (by rw [e]; exact hx)
 omega
theorem CodeOk.nats {d : Int} {l : List (List Int)} {m : Int} (h : CodeOk d l m) : ∃ D M : Nat, d = D ∧ m = M := by
 have h1 := h.d1; have h3 := h.m1
 exact ⟨d.toNat, m.toNat, by omega, by omega⟩
/-- The rows of a code; none with an error. -/
def rowsFor (d : Int) (l : List (List Int)) (m : Int) : List (List Int) := if chk d l m = 0 then rowsOf d.toNat l m.toNat else []
theorem crows_ev (d : Int) (l : List (List Int)) (m : Int) (hs : Small l) : Ev (fun k => code_Rows.f k d l m) (rowsFor d l m, chk d l m) := by
 unfold rowsFor
 refine Ev.congr (f := fun k => (code_Check.f k d l m).bind fun e => if e = 0 then (if okCode d l m = true then some (rowsOf d.toNat l m.toNat, 0) else none) else some ([], e)) (fun k => rfl) (Ev.bind (cchk_ev d l m hs) ?_)
 by_cases e : chk d l m = 0
 ·have hok := chk_ok e
  obtain ⟨D, M, rfl, rfl⟩ := hok.nats
  simp only [e, if_true, okCode_of hok]
  exact Ev.now _
 ·simp only [e, if_false]
  exact Ev.now _
/-! Scale and Sum of the reference -/
/-! Combine of the reference -/
theorem all_map_isB {n : Nat} {f : Nat → Int} (h : ∀ i, i < n → isB (f i) = true) : ∀ x ∈ (List.range n).map f, isB x = true := by
 intro x hx
 obtain ⟨i, hi, rfl⟩ := List.mem_map.1 hx
 exact h i (List.mem_range.1 hi)
theorem ixor_zero {x : Int} (h : isB x = true) : ixor 0 x = x := by
 rw [isB_iff] at h
 unfold ixor
 rw [Int.toNat_zero, Nat.zero_xor]
 omega
/-! parts -/
theorem rowAt_length (D : Nat) (l : List (List Int)) (t : Nat) : (rowAt D l t).length = D := by simp [rowAt]
theorem elAt_isB (D : Nat) (l : List (List Int)) (t i : Nat) : isB (elAt D l t i) = true := by
 unfold elAt
 split
 ·unfold unitAt; split <;> decide
 ·split
  ·unfold setAt; exact isB_nat (by omega)
  ·unfold expAt; exact isB_nat (QGF.xtp_lt (by decide) _)
theorem rowAt_isB (D : Nat) (l : List (List Int)) (t : Nat) : (rowAt D l t).all isB = true := by
 rw [List.all_eq_true]
 exact all_map_isB (fun i _ => elAt_isB D l t i)
/-! the same lists -/
/-! the law -/
end Go.Proofs.YtkadfidmfnpohaaDoor.XB

namespace Go.Proofs.YtkadfidmfnpohaaDoor.XB
open Go.RowKit Go.Proofs.YtkadfidmfnpohaaDoorW.PrintWords Go.Proofs.YtkadfidmfnpohaaDoorW.PrintLast Go.Proofs.YtkadfidmfnpohaaDoorW.PrintMore
set_option linter.unusedVariables false
set_option linter.unusedSimpArgs false
theorem isB_ex {a : Int} (h : isB a = true) : ∃ m : Nat, a = (m : Int) ∧ m < 256 := by
 rw [isB_iff] at h
 exact ⟨a.toNat, by omega, by omega⟩
theorem ixor_comm (a b : Int) : ixor a b = ixor b a := by unfold ixor; rw [Nat.xor_comm]
theorem ixor_assoc (a b c : Int) : ixor (ixor a b) c = ixor a (ixor b c) := by unfold ixor; rw [Int.toNat_natCast, Int.toNat_natCast, Nat.xor_assoc]
theorem ixor_self (a : Int) : ixor a a = 0 := by unfold ixor; rw [Nat.xor_self]; rfl
theorem ixor_zero_right {a : Int} (h : isB a = true) : ixor a 0 = a := by rw [ixor_comm]; exact ixor_zero h
theorem ixor_four (a b c d : Int) : ixor (ixor a b) (ixor c d) = ixor (ixor a c) (ixor b d) := by
 rw [ixor_assoc, ixor_assoc, ← ixor_assoc b c d, ixor_comm b c, ixor_assoc c b d]
theorem imul_zero_right (a : Int) : imul a 0 = 0 := by unfold imul; rw [Int.toNat_zero, QGF.mul_zero]; rfl
theorem imul_zero_left {a : Int} (h : isB a = true) : imul 0 a = 0 := by
 obtain ⟨m, rfl, hm⟩ := isB_ex h
 unfold imul; rw [Int.toNat_zero, Int.toNat_natCast, QGF.zero_mul hm]; rfl
theorem imul_one_left {a : Int} (h : isB a = true) : imul 1 a = a := by
 obtain ⟨m, rfl, hm⟩ := isB_ex h
 show ((QGF.mulN 1 m : Nat) : Int) = _
 rw [QGF.one_mul hm]
theorem imul_comm {a b : Int} (ha : isB a = true) (hb : isB b = true) : imul a b = imul b a := by
 obtain ⟨m, rfl, hm⟩ := isB_ex ha
 obtain ⟨n, rfl, hn⟩ := isB_ex hb
 show ((QGF.mulN m n : Nat) : Int) = ((QGF.mulN n m : Nat) : Int)
 rw [QGF.mul_comm hm hn]
theorem imul_assoc {a b c : Int} (ha : isB a = true) (hb : isB b = true) (hc : isB c = true) : imul (imul a b) c = imul a (imul b c) := by
 obtain ⟨m, rfl, hm⟩ := isB_ex ha
 obtain ⟨n, rfl, hn⟩ := isB_ex hb
 obtain ⟨o, rfl, ho⟩ := isB_ex hc
 show ((QGF.mulN (QGF.mulN m n) o : Nat) : Int) = ((QGF.mulN m (QGF.mulN n o) : Nat) : Int)
 rw [QGF.mul_assoc hm hn ho]
theorem imul_xor (a b c : Int) : imul a (ixor b c) = ixor (imul a b) (imul a c) := by
 show ((QGF.mulN a.toNat (b.toNat ^^^ c.toNat) : Nat) : Int) = ((QGF.mulN a.toNat b.toNat ^^^ QGF.mulN a.toNat c.toNat : Nat) : Int)
 rw [QGF.mul_xor]
theorem imul_inv {a : Int} (ha : isB a = true) (h0 : a ≠ 0) : imul (iinv a) a = 1 := by
 obtain ⟨m, rfl, hm⟩ := isB_ex ha
 show ((QGF.mulN (QGF.invN m) m : Nat) : Int) = 1
 rw [QGF.mul_comm QGF.inv_lt hm, QGF.mul_inv hm (by omega)]
 rfl
/-! rows and vectors -/
abbrev Vec := Nat → Int
def IsV (x : Vec) : Prop := ∀ i, isB (x i) = true
def dotU (r : List Int) (x : Vec) : Nat → Int
 | 0 => 0
 | i + 1 => ixor (dotU r x i) (imul (rd r (i : Int)) (x i))
def RowB (w : Nat) (r : List Int) : Prop := r.all isB = true ∧ r.length = w
theorem RowB.at {w : Nat} {r : List Int} (h : RowB w r) {i : Nat} (hi : i < w) : isB (rd r (i : Int)) = true := isB_rd h.1 i (by rw [h.2]; exact hi)
theorem dotU_isB {w : Nat} {r : List Int} {x : Vec} (hr : RowB w r) : ∀ i, i ≤ w → isB (dotU r x i) = true
 | 0, _ => rfl
 | i + 1, h => isB_xor (dotU_isB hr i (by omega)) (isB_mul _ (hr.at (by omega)))
theorem dotU_congr {r : List Int} {x y : Vec} : ∀ i, (∀ j, j < i → x j = y j) → dotU r x i = dotU r y i
 | 0, _ => rfl
 | i + 1, h => by
  show ixor (dotU r x i) _ = ixor (dotU r y i) _
  rw [dotU_congr i (fun j hj => h j (by omega)), h i (Nat.lt_succ_self i)]
theorem dotU_add {w : Nat} {r : List Int} {u v : Vec} (hr : RowB w r) : ∀ i, i ≤ w → dotU r (fun j => ixor (u j) (v j)) i = ixor (dotU r u i) (dotU r v i)
 | 0, _ => (by show (0 : Int) = ixor 0 0; rfl)
 | i + 1, h => by
  show ixor (dotU r _ i) (imul (rd r (i : Int)) (ixor (u i) (v i))) = ixor (ixor (dotU r u i) (imul (rd r (i : Int)) (u i))) (ixor (dotU r v i) (imul (rd r (i : Int)) (v i)))
  rw [dotU_add hr i (by omega), imul_xor, ixor_four]
/-- What leads: all before it is 0. -/
theorem fst_zero (r : List Int) {i : Nat} (h : i < fstIdx r) : rd r (i : Int) = 0 := by
 have hl : i < r.length := Nat.lt_of_lt_of_le h (fstIdx_le r)
 rw [rdi hl]
 have := List.not_of_lt_findIdx h
 simpa using this
theorem fst_ne (r : List Int) (h : fstIdx r < r.length) : rd r ((fstIdx r : Nat) : Int) ≠ 0 := by
 rw [rdi h]
 have := List.findIdx_getElem (w := h) (p := fun x => x != 0) (xs := r)
 intro e
 have h2 : (r[fstIdx r] != 0) = true := this
 rw [e] at h2
 cases h2
/-- Rows that lead at different places. -/
structure Leads (w : Nat) (S : List (List Int)) : Prop where
 rows : ∀ r ∈ S, RowB w r ∧ fstIdx r < w
 apart : (S.map fstIdx).Nodup
def Ker (w : Nat) (S : List (List Int)) (v : Vec) : Prop := ∀ r ∈ S, dotU r v w = 0
theorem nodup_sub {α : Type} [DecidableEq α] : ∀ (a l : List α), a.Nodup → (∀ x ∈ a, x ∈ l) → a.length ≤ l.length
 | [], _, _, _ => Nat.zero_le _
 | x :: a, l, hn, hs => by
  have hn := List.nodup_cons.1 hn
  have hx := hs x List.mem_cons_self
  have := nodup_sub a (l.erase x) hn.2 (fun y hy => (List.mem_erase_of_ne (fun (e : y = x) => hn.1 (e ▸ hy))).2 (hs y (List.mem_cons_of_mem _ hy)))
  rw [List.length_erase_of_mem hx] at this
  have hp := List.length_pos_of_mem hx
  simp only [List.length_cons]
  omega
theorem nodup_inj {α β : Type} {f : α → β} : ∀ {S : List α}, (S.map f).Nodup → ∀ a ∈ S, ∀ b ∈ S, f a = f b → a = b
 | [], _, a, ha, _, _, _ => by cases ha
 | x :: S, hn, a, ha, b, hb, e => by
  rw [List.map_cons] at hn
  have hn := List.nodup_cons.1 hn
  rcases List.mem_cons.1 ha with h1 | h1
  ·rcases List.mem_cons.1 hb with h2 | h2
   ·rw [h1, h2]
   ·exact absurd (h1 ▸ e ▸ List.mem_map_of_mem h2) hn.1
  ·rcases List.mem_cons.1 hb with h2 | h2
   ·exact absurd (h2 ▸ e ▸ List.mem_map_of_mem h1) hn.1
   ·exact nodup_inj hn.2 a h1 b h2 e
theorem Leads.all {w : Nat} {S : List (List Int)} (h : Leads w S) (hl : S.length = w) {p : Nat} (hp : p < w) : ∃ r ∈ S, fstIdx r = p := by
 by_cases hm : p ∈ S.map fstIdx
 ·obtain ⟨r, hr, e⟩ := List.mem_map.1 hm
  exact ⟨r, hr, e⟩
 ·have := nodup_sub (p :: S.map fstIdx) (List.range w) (List.nodup_cons.2 ⟨hm, h.apart⟩) (fun q hq => by
   rcases List.mem_cons.1 hq with rfl | hq
   ·exact List.mem_range.2 hp
   ·obtain ⟨r, hr, rfl⟩ := List.mem_map.1 hq
    exact List.mem_range.2 (h.rows r hr).2)
  simp [hl] at this
  omega
/-- What is sent to 0 by rows that leave a place free. -/
theorem Leads.free {w : Nat} {S : List (List Int)} (h : Leads w S) {p : Nat} (hp : p < w) (hfree : ∀ r ∈ S, fstIdx r ≠ p) : ∃ v, IsV v ∧ Ker w S v ∧ v p = 1 := by
 -- from the last place down: the places from w - n on are told so that all rows that lead there are met
 have key : ∀ n, n ≤ w → ∃ v : Vec, IsV v ∧ (∀ r ∈ S, w - n ≤ fstIdx r → dotU r v w = 0) ∧ (w - n ≤ p → v p = 1) ∧ (∀ i, i < w - n → v i = 0) := by
  intro n
  induction n with
  | zero => exact fun _ => ⟨fun _ => 0, fun _ => rfl, fun r hr h1 => by have := (h.rows r hr).2; omega, fun h1 => by omega, fun _ _ => rfl⟩
  | succ n ih =>
   intro hn
   obtain ⟨v, hv, hk, h1, h0⟩ := ih (by omega)
   obtain ⟨q, hq⟩ : ∃ q, q = w - (n + 1) := ⟨_, rfl⟩
   have hqw : q < w := by omega
   -- the value at q
   have main : ∃ c : Int, isB c = true ∧ (q = p → c = 1) ∧ ∀ r ∈ S, fstIdx r = q → ixor (dotU r v w) (imul (rd r (q : Int)) c) = 0 := by
    by_cases e : q = p
    ·exact ⟨1, rfl, fun _ => rfl, fun r hr he => absurd (he.trans e) (hfree r hr)⟩
    ·by_cases hx : ∃ r ∈ S, fstIdx r = q
     ·obtain ⟨r, hr, he⟩ := hx
      obtain ⟨hb, hf⟩ := h.rows r hr
      have hbq := hb.at hqw
      have hne : rd r (q : Int) ≠ 0 := by have := fst_ne r (by rw [hb.2]; omega); rwa [he] at this
      have hd := dotU_isB (x := v) hb w (Nat.le_refl _)
      refine ⟨imul (iinv (rd r (q : Int))) (dotU r v w), isB_mul _ (isB_inv _), fun h => absurd h e, fun r' hr' he' => ?_⟩
      have : r' = r := nodup_inj h.apart r' hr' r hr (he'.trans he.symm)
      subst this
      rw [← imul_assoc hbq (isB_inv _) hd, imul_comm hbq (isB_inv _), imul_inv hbq hne, imul_one_left hd, ixor_self]
     ·exact ⟨0, rfl, fun h => absurd h e, fun r hr he => absurd ⟨r, hr, he⟩ hx⟩
   obtain ⟨c, hc, hcp, hcr⟩ := main
   have hadd : ∀ r ∈ S, q ≤ fstIdx r ∨ True → dotU r (fun i => if i = q then c else v i) w = ixor (dotU r v w) (imul (rd r (q : Int)) c) := by
    intro r hr _
    obtain ⟨hb, _⟩ := h.rows r hr
    have he : dotU r (fun i => if i = q then c else v i) w = dotU r (fun i => ixor (v i) (if i = q then c else 0)) w := dotU_congr w (fun j hj => by
     by_cases e : j = q
     ·subst e; rw [if_pos rfl, if_pos rfl, h0 j (by omega), ixor_zero hc]
     ·rw [if_neg e, if_neg e, ixor_zero_right (hv j)])
    rw [he, dotU_add hb w (Nat.le_refl _)]
    congr 1
    have hone : ∀ i, i ≤ w → dotU r (fun i => if i = q then c else 0) i = if q < i then imul (rd r (q : Int)) c else 0 := by
     intro i
     induction i with
     | zero => intro _; rw [if_neg (by omega)]; rfl
     | succ i ih2 =>
      intro hi
      show ixor (dotU r _ i) (imul (rd r (i : Int)) (if i = q then c else 0)) = _
      rw [ih2 (by omega)]
      by_cases e : i = q
      ·subst e
       rw [if_neg (by omega), if_pos rfl, if_pos (by omega), ixor_zero (isB_mul _ (hb.at (by omega)))]
      ·rw [if_neg e, imul_zero_right]
       by_cases e2 : q < i
       ·rw [if_pos e2, if_pos (by omega), ixor_zero_right (isB_mul _ (hb.at hqw))]
       ·rw [if_neg e2, if_neg (by omega)]; rfl
    rw [hone w (Nat.le_refl _), if_pos hqw]
   refine ⟨fun i => if i = q then c else v i, fun i => ?_, fun r hr hle => ?_, fun hle => ?_, fun i hi => ?_⟩
   ·by_cases e : i = q
    ·simp only [e, if_true]; exact hc
    ·simp only [e, if_false]; exact hv i
   ·rw [hadd r hr (.inr trivial)]
    by_cases e : fstIdx r = q
    ·exact hcr r hr e
    ·have hz : rd r (q : Int) = 0 := fst_zero r (by omega)
     rw [hk r hr (by omega), hz, imul_zero_left hc]
     rfl
   ·by_cases e : p = q
    ·simp only [e, if_true]; exact hcp e.symm
    ·simp only [e, if_false]; exact h1 (by omega)
   ·have e : i ≠ q := by omega
    simp only [e, if_false]; exact h0 i (by omega)
 obtain ⟨v, hv, hk, h1, _⟩ := key w (Nat.le_refl _)
 exact ⟨v, hv, fun r hr => hk r hr (by omega), h1 (by omega)⟩
end Go.Proofs.YtkadfidmfnpohaaDoor.XB

namespace Go.Proofs.YtkadfidmfnpohaaDoor.XB
open Go.RowKit Go.Proofs.YtkadfidmfnpohaaDoorW.PrintWords Go.Proofs.YtkadfidmfnpohaaDoorW.PrintLast Go.Proofs.YtkadfidmfnpohaaDoorW.PrintMore
set_option linter.unusedVariables false
set_option linter.unusedSimpArgs false
def Lead1 (st : St) : Prop := ∀ x ∈ st, rd x.1 ((fstIdx x.1 : Nat) : Int) = 1
def Cleared (st : St) : Prop := st.Pairwise fun a b => rd b.1 ((fstIdx a.1 : Nat) : Int) = 0
structure Stairs (w : Nat) (st : St) : Prop where
 rows : ∀ x ∈ st, RowB w x.1 ∧ fstIdx x.1 < w
 apart : (st.map fun x => fstIdx x.1).Nodup
 one : Lead1 st
 clear : Cleared st
theorem Stairs.nil (w : Nat) : Stairs w [] := ⟨fun x hx => (by cases hx), List.nodup_nil, fun x hx => (by cases hx), List.Pairwise.nil⟩
/-! rows of a set of pieces -/
/-! pieces that fit -/
/-! solving -/
/-! can it be recovered -/
def canB (d : Int) (l : List (List Int)) (m mask : Int) : Bool := (collectOk (rowsFor d l m) mask []).isSome
theorem rowsOf_rd {D M : Nat} {l : List (List Int)} {t : Nat} (h : t < D + l.length + M) : rd_L4 (rowsOf D l M) (t : Int) = rowAt D l t := by
 rw [rowsOf_eq]
 simp [rd_L4, List.getD_eq_getElem?_getD, h]
theorem rowsOf_length (D M : Nat) (l : List (List Int)) : (rowsOf D l M).length = D + l.length + M := by rw [rowsOf_eq]; simp
theorem rowWidth_rows {D M : Nat} {l : List (List Int)} (h : 0 < D) : rowWidth (rowsOf D l M) = D := by
 unfold rowWidth
 rw [rowsOf_rd (by omega), rowAt_length]
theorem okRows_rows {D M : Nat} {l : List (List Int)} (h1 : 1 ≤ D) (h2 : D ≤ 16) (h3 : D + l.length + M ≤ 24) : okRows (rowsOf D l M) = true := by
 unfold okRows
 rw [rowWidth_rows (by omega), rowsOf_length]
 simp only [Bool.and_eq_true, Bool.or_eq_true, decide_eq_true_eq, List.all_eq_true]
 refine ⟨⟨⟨h3, .inl h1⟩, h2⟩, fun r hr => ?_⟩
 rw [rowsOf_eq] at hr
 obtain ⟨t, _, rfl⟩ := List.mem_map.1 hr
 exact ⟨fun x hx => List.all_eq_true.1 (rowAt_isB D l t) x hx, rowAt_length D l t⟩
theorem CodeOk.bounds {D M : Nat} {l : List (List Int)} (h : CodeOk (D : Int) l (M : Int)) : 1 ≤ D ∧ D ≤ 16 ∧ M ≤ 4 ∧ D + l.length + M ≤ 24 := by
 have h1 := h.d1; have h2 := h.d2; have h3 := h.m2; have h4 := h.sum
 omega
def canN (D : Nat) (l : List (List Int)) (M : Nat) (x : Nat) : Bool := canB (D : Int) l (M : Int) (x : Int)
/-! the reference's Distance -/
/-! what the law asks -/
def badAt (n : Nat) (pl : List Int) : Bool := pl.any fun x => decide (x < -1) || decide ((n : Int) ≤ x)
def badCh (ch : List Int) : Bool := ch.any fun c => decide (c < 0) || decide (16 < c)
def chk12 (d : Int) (l : List (List Int)) (m : Int) (pl ch : List Int) : Int :=
 if chk d l m = 0 then (if 12 < ch.length then 2 else if (pl.length : Int) = d + l.length + m then (if badAt ch.length pl = true then 1 else if badCh ch = true then 3 else 0) else 1) else chk d l m
theorem any_drop {p : Int → Bool} {l : List Int} {i : Nat} (h : i < l.length) : (l.drop i).any p = (p (rd l (i : Int)) || (l.drop (i + 1)).any p) := by
 rw [List.drop_eq_getElem_cons h, List.any_cons, rdi h]
theorem kchk_l1 (ch : List Int) (hc : ch.length ≤ 1000) : ∀ n i : Nat, i + n = ch.length → Ev (fun k => risk_Check.l1 k ch (ch.length : Int) (i : Int)) (if badCh (ch.drop i) = true then 3 else 0) := by
 intro n
 induction n with
 | zero =>
  intro i hi
  refine Ev.step (f := fun _ => some 0) (fun k => ?_) (ev_eq (Ev.now _) ?_)
  ·simp only [risk_Check.l1]; rw [if_neg (by omega)]
  ·rw [List.drop_of_length_le (by omega)]; rfl
 | succ n ih =>
  intro i hi
  have hlt : i < ch.length := by omega
  unfold badCh
  rw [any_drop hlt]
  by_cases e1 : rd ch (i : Int) < 0
  ·simp only [e1, decide_true, Bool.true_or, if_true]
   refine Ev.step (f := fun _ => some 3) (fun k => ?_) (Ev.now _)
   simp only [risk_Check.l1]; rw [if_pos (by omega), if_pos (by omega), if_pos (by omega), if_pos e1]
  ·by_cases e2 : 16 < rd ch (i : Int)
   ·simp only [e1, e2, decide_true, decide_false, Bool.false_or, Bool.true_or, if_true]
    refine Ev.step (f := fun _ => some 3) (fun k => ?_) (Ev.now _)
    simp only [risk_Check.l1]; rw [if_pos (by omega), if_pos (by omega), if_pos (by omega), if_neg e1, if_pos (by omega)]
   ·simp only [e1, e2, decide_false, Bool.false_or]
    refine Ev.step (f := fun k => risk_Check.l1 k ch (ch.length : Int) ((i + 1 : Nat) : Int)) (fun k => ?_) (ih (i + 1) (by omega))
    simp only [risk_Check.l1]; rw [if_pos (by omega), if_pos (by omega), if_pos (by omega), if_neg e1, if_neg (by omega), wrap_succ (by omega)]
theorem kchk_l0 (d : Int) (l : List (List Int)) (m : Int) (pl ch : List Int) (hp : pl.length ≤ 1000) (hc : ch.length ≤ 1000) : ∀ n i : Nat, i + n = pl.length →
  Ev (fun k => risk_Check.l0 k (ch.length : Int) pl (pl.length : Int) (i : Int) d l m pl ch) (if badAt ch.length (pl.drop i) = true then 1 else if badCh ch = true then 3 else 0) := by
 intro n
 induction n with
 | zero =>
  intro i hi
  refine Ev.step (f := fun k => risk_Check.l1 k ch (ch.length : Int) ((0 : Nat) : Int)) (fun k => ?_) (ev_eq (kchk_l1 ch hc _ 0 (Nat.zero_add _)) ?_)
  ·simp only [risk_Check.l0]; rw [if_neg (by omega)]; rfl
  ·rw [List.drop_of_length_le (show pl.length ≤ i by omega), List.drop_zero]; rfl
 | succ n ih =>
  intro i hi
  have hlt : i < pl.length := by omega
  unfold badAt
  rw [any_drop hlt]
  by_cases e1 : rd pl (i : Int) < -1
  ·simp only [e1, decide_true, Bool.true_or, if_true]
   refine Ev.step (f := fun _ => some 1) (fun k => ?_) (Ev.now _)
   simp only [risk_Check.l0]; rw [if_pos (by omega), if_pos (by omega), if_pos (by omega), if_pos e1]
  ·by_cases e2 : (ch.length : Int) ≤ rd pl (i : Int)
   ·simp only [e1, e2, decide_true, decide_false, Bool.false_or, Bool.true_or, if_true]
    refine Ev.step (f := fun _ => some 1) (fun k => ?_) (Ev.now _)
    simp only [risk_Check.l0]; rw [if_pos (by omega), if_pos (by omega), if_pos (by omega), if_neg e1, if_pos (by omega)]
   ·simp only [e1, e2, decide_false, Bool.false_or]
    refine Ev.step (f := fun k => risk_Check.l0 k (ch.length : Int) pl (pl.length : Int) ((i + 1 : Nat) : Int) d l m pl ch) (fun k => ?_) (ih (i + 1) (by omega))
    simp only [risk_Check.l0]; rw [if_pos (by omega), if_pos (by omega), if_pos (by omega), if_neg e1, if_neg (by omega), wrap_succ (by omega)]
theorem kchk_ev (d : Int) (l : List (List Int)) (m : Int) (pl ch : List Int) (hs : Small l) (hp : pl.length ≤ 1000) (hc : ch.length ≤ 1000) : Ev (fun k => risk_Check.f k d l m pl ch) (chk12 d l m pl ch) := by
 refine Ev.congr (f := fun k => (code_Check.f k d l m).bind fun t => if t = 0 then (if (ch.length : Int) > 12 then (some 2) else ((code_Pieces.f k d l m).bind fun t2 => (if (pl.length : Int) = t2 then (risk_Check.l0 k (ch.length : Int) pl (pl.length : Int) 0 d l m pl ch) else (some 1)))) else (some t)) (fun k => rfl) (Ev.bind (cchk_ev d l m hs) ?_)
 unfold chk12
 by_cases e : chk d l m = 0
 ·simp only [e, if_true]
  by_cases e2 : 12 < ch.length
  ·rw [if_pos e2]
   exact Ev.congr (f := fun _ => some 2) (fun k => by rw [if_pos (by omega)]) (Ev.now _)
  ·rw [if_neg e2]
   refine Ev.congr (f := fun k => (code_Pieces.f k d l m).bind fun t2 => (if (pl.length : Int) = t2 then (risk_Check.l0 k (ch.length : Int) pl (pl.length : Int) 0 d l m pl ch) else (some 1))) (fun k => by rw [if_neg (by omega)]) (Ev.bind (cpieces_ev d l m hs) ?_)
   have hpp : piecesOf d l m = d + l.length + m := by unfold piecesOf; rw [if_pos e]
   rw [hpp]
   by_cases e3 : (pl.length : Int) = d + l.length + m
   ·rw [if_pos e3]
    exact Ev.congr (f := fun k => risk_Check.l0 k (ch.length : Int) pl (pl.length : Int) ((0 : Nat) : Int) d l m pl ch) (fun k => by rw [if_pos e3]; rfl) (kchk_l0 d l m pl ch hp hc _ 0 (Nat.zero_add _))
   ·rw [if_neg e3]
    exact Ev.congr (f := fun _ => some 1) (fun k => by rw [if_neg e3]) (Ev.now _)
 ·simp only [e, if_false]
  exact Ev.now _
/-- A peril without an error. -/
structure PerilOk (D : Nat) (l : List (List Int)) (M : Nat) (pl ch : List Int) : Prop where
 code : chk (D : Int) l (M : Int) = 0
 nch : ch.length ≤ 12
 npl : pl.length = D + l.length + M
 pls : ∀ x ∈ pl, -1 ≤ x ∧ x < ch.length
 chs : ∀ c ∈ ch, 0 ≤ c ∧ c ≤ 16
theorem chk12_ok {d : Int} {l : List (List Int)} {m : Int} {pl ch : List Int} (h : chk12 d l m pl ch = 0) : ∃ D M : Nat, d = D ∧ m = M ∧ PerilOk D l M pl ch := by
 unfold chk12 at h
 by_cases e : chk d l m = 0
 ·rw [if_pos e] at h
  have hok := chk_ok e
  obtain ⟨D, M, rfl, rfl⟩ := hok.nats
  by_cases e2 : 12 < ch.length
  ·rw [if_pos e2] at h; cases h
  rw [if_neg e2] at h
  by_cases e3 : (pl.length : Int) = D + l.length + M
  ·rw [if_pos e3] at h
   by_cases e4 : badAt ch.length pl = true
   ·rw [if_pos e4] at h; cases h
   rw [if_neg e4] at h
   by_cases e5 : badCh ch = true
   ·rw [if_pos e5] at h; cases h
   refine ⟨D, M, rfl, rfl, e, by omega, by omega, fun x hx => ?_, fun c hc => ?_⟩
   ·have h5 : ¬ ∃ x ∈ pl, (decide (x < -1) || decide ((ch.length : Int) ≤ x)) = true := fun hh => e4 (List.any_eq_true.2 hh)
    have h6 : ¬ (decide (x < -1) || decide ((ch.length : Int) ≤ x)) = true := fun hh => h5 ⟨x, hx, hh⟩
    simp only [Bool.or_eq_true, decide_eq_true_eq] at h6
    omega
   ·have h6 : ¬ (decide (c < 0) || decide (16 < c)) = true := fun hh => e5 (List.any_eq_true.2 ⟨c, hc, hh⟩)
    simp only [Bool.or_eq_true, decide_eq_true_eq] at h6
    omega
  ·rw [if_neg e3] at h; cases h
 ·rw [if_neg e] at h; exact absurd h e
theorem PerilOk.chk {D : Nat} {l : List (List Int)} {M : Nat} {pl ch : List Int} (h : PerilOk D l M pl ch) : chk12 (D : Int) l (M : Int) pl ch = 0 := by
 unfold chk12
 rw [if_pos h.code, if_neg (by have := h.nch; omega), if_pos (by have := h.npl; omega)]
 have e4 : ¬ badAt ch.length pl = true := fun hh => by
  obtain ⟨x, hx, h6⟩ := List.any_eq_true.1 hh
  have := h.pls x hx
  simp only [Bool.or_eq_true, decide_eq_true_eq] at h6
  omega
 have e5 : ¬ badCh ch = true := fun hh => by
  obtain ⟨x, hx, h6⟩ := List.any_eq_true.1 hh
  have := h.chs x hx
  simp only [Bool.or_eq_true, decide_eq_true_eq] at h6
  omega
 rw [if_neg e4, if_neg e5]
theorem PerilOk.okp {D : Nat} {l : List (List Int)} {M : Nat} {pl ch : List Int} (h : PerilOk D l M pl ch) : okPeril pl ch = true := by
 have hb := (chk_ok h.code).bounds
 have := h.nch; have := h.npl
 exact okPeril_iff.2 ⟨by omega, by omega, fun x hx => by have := h.pls x hx; omega, h.chs⟩
/-! Few -/
def fewB12 (l : List (List Int)) (pl ch : List Int) (n : Int) : Bool := !(decide (n < ch.length) || (decide (60 < pl.length) || (decide (30 < l.length) || anyFrom (fun h => decide (30 < (rd_L1 l (h : Nat)).length)) 0 l.length)))
theorem few12_l0 (d : Int) (l : List (List Int)) (m : Int) (pl ch : List Int) (hl : l.length ≤ 4611686018427387000) : ∀ n i, i + n = l.length → Ev (fun k => quietusref12_Few.l0 k (i : Int) d l m pl ch) (!(anyFrom (fun h => decide (30 < (rd_L1 l (h : Nat)).length)) i n)) := by
 intro n
 induction n with
 | zero =>
  intro i hi
  refine Ev.step (f := fun _ => some true) (fun k => ?_) (Ev.now _)
  simp only [quietusref12_Few.l0]
  rw [if_neg (by omega)]
 | succ n ih =>
  intro i hi
  by_cases e : 30 < (rd_L1 l (i : Nat)).length
  ·simp only [anyFrom, e, decide_true, Bool.true_or, Bool.not_true]
   refine Ev.step (f := fun _ => some false) (fun k => ?_) (Ev.now _)
   simp only [quietusref12_Few.l0]
   rw [if_pos (by omega), if_pos (by omega), if_pos (by omega)]
  ·simp only [anyFrom, e, decide_false, Bool.false_or]
   refine Ev.step (f := fun k => quietusref12_Few.l0 k ((i + 1 : Nat) : Int) d l m pl ch) (fun k => ?_) (ih (i + 1) (by omega))
   simp only [quietusref12_Few.l0]
   rw [if_pos (by omega), if_pos (by omega), if_neg (by omega), wrap_succ (by omega)]
theorem few12_j0 (d : Int) (l : List (List Int)) (m : Int) (pl ch : List Int) : Ev (fun k => quietusref12_Few.j0 k true d l m pl ch) false :=
 Ev.step (f := fun _ => some false) (fun k => by simp only [quietusref12_Few.j0]; rfl) (Ev.now _)
theorem few12_ev (d : Int) (l : List (List Int)) (m : Int) (pl ch : List Int) (n : Int) : Ev (fun k => quietusref12_Few.f k d l m pl ch n) (fewB12 l pl ch n) := by
 unfold fewB12
 by_cases e : n < (ch.length : Int)
 ·simp only [e, decide_true, Bool.true_or, Bool.not_true]
  exact Ev.congr (f := fun k => quietusref12_Few.j0 k true d l m pl ch) (fun k => by unfold quietusref12_Few.f; rw [if_pos e]) (few12_j0 ..)
 ·by_cases e2 : 60 < pl.length
  ·simp only [e, e2, decide_true, decide_false, Bool.false_or, Bool.true_or, Bool.not_true]
   exact Ev.congr (f := fun k => quietusref12_Few.j0 k true d l m pl ch) (fun k => by unfold quietusref12_Few.f; rw [if_neg (by omega), if_pos (by omega)]) (few12_j0 ..)
  ·by_cases e3 : 30 < l.length
   ·simp only [e, e2, e3, decide_true, decide_false, Bool.false_or, Bool.true_or, Bool.not_true]
    refine Ev.congr (f := fun k => quietusref12_Few.j0 k true d l m pl ch) (fun k => ?_) (few12_j0 ..)
    unfold quietusref12_Few.f
    rw [if_neg (by omega), if_neg (by omega), show decide ((l.length : Int) > 30) = true from decide_eq_true (by omega)]
   ·simp only [e, e2, e3, decide_false, Bool.false_or]
    refine Ev.congr (f := fun k => quietusref12_Few.j0 k false d l m pl ch) (fun k => ?_) (Ev.step (f := fun k => quietusref12_Few.l0 k ((0 : Nat) : Int) d l m pl ch) (fun k => ?_) (few12_l0 d l m pl ch (by omega) _ 0 (Nat.zero_add _)))
    ·unfold quietusref12_Few.f
     rw [if_neg (by omega), if_neg (by omega), show decide ((l.length : Int) > 30) = false from decide_eq_false (by omega)]
    ·simp only [quietusref12_Few.j0]; rfl
theorem few12_small {l : List (List Int)} {pl ch : List Int} {n : Int} (h : fewB12 l pl ch n = true) : (ch.length : Int) ≤ n ∧ pl.length ≤ 60 ∧ l.length ≤ 30 ∧ Small l := by
 unfold fewB12 at h
 simp only [Bool.not_eq_true', Bool.or_eq_false_iff, decide_eq_false_iff_not] at h
 obtain ⟨h1, h2, h3, h4⟩ := h
 refine ⟨by omega, by omega, by omega, by omega, fun i => ?_⟩
 by_cases hi : i < l.length
 ·have := anyFrom_false h4 i (Nat.zero_le _) (by omega)
  simp only [decide_eq_false_iff_not] at this
  omega
 ·have : rd_L1 l i = [] := by
   unfold rd_L1
   rw [Int.toNat_natCast, List.getD_eq_getElem?_getD, List.getElem?_eq_none (by omega)]
   rfl
  rw [this]; simp
/-! the weights, without wraps -/
def wFac (ch : List Int) (f j : Nat) : Int := if (f >>> j) % 2 = 0 then 16 - rd ch (j : Int) else rd ch (j : Int)
def wNat (ch : List Int) (f : Nat) : Nat → Int
 | 0 => 1
 | j + 1 => wNat ch f j * wFac ch f j
theorem wFac_bd {ch : List Int} (h : ∀ c ∈ ch, 0 ≤ c ∧ c ≤ 16) (f : Nat) {j : Nat} (hj : j < ch.length) : 0 ≤ wFac ch f j ∧ wFac ch f j ≤ 16 := by
 have := h _ (rdm hj)
 unfold wFac; split <;> omega
theorem pow16_le {a b : Nat} (h : a ≤ b) : (16 : Int) ^ a ≤ 16 ^ b := by
 have : (16 : Nat) ^ a ≤ 16 ^ b := Nat.pow_le_pow_right (by decide) h
 exact_mod_cast this
theorem wNat_bd {ch : List Int} (h : ∀ c ∈ ch, 0 ≤ c ∧ c ≤ 16) (f : Nat) : ∀ j, j ≤ ch.length → 0 ≤ wNat ch f j ∧ wNat ch f j ≤ 16 ^ j
 | 0, _ => ⟨by show (0 : Int) ≤ 1; decide, by show (1 : Int) ≤ 16 ^ 0; decide⟩
 | j + 1, hj => by
  obtain ⟨h1, h2⟩ := wNat_bd h f j (by omega)
  obtain ⟨h3, h4⟩ := wFac_bd h f (show j < ch.length by omega)
  show 0 ≤ wNat ch f j * wFac ch f j ∧ wNat ch f j * wFac ch f j ≤ 16 ^ (j + 1)
  exact ⟨Int.mul_nonneg h1 h3, by rw [Int.pow_succ]; exact Int.mul_le_mul h2 h4 h3 (Int.le_trans h1 h2)⟩
theorem pow16_12 {n : Nat} (h : n ≤ 12) : (16 : Int) ^ n ≤ 281474976710656 := by
 have := pow16_le h
 exact this
theorem wUpto_nat {ch : List Int} (h : ∀ c ∈ ch, 0 ≤ c ∧ c ≤ 16) (hn : ch.length ≤ 12) (f : Nat) : ∀ j, j ≤ ch.length → wUpto ch f j = wNat ch f j
 | 0, _ => rfl
 | j + 1, hj => by
  show wrap64 (wUpto ch f j * (if (f >>> j) % 2 = 0 then 16 - rd ch (j : Int) else rd ch (j : Int))) = wNat ch f j * wFac ch f j
  rw [wUpto_nat h hn f j (by omega)]
  have h2 := wNat_bd h f (j + 1) hj
  have h3 := pow16_12 (n := j + 1) (by omega)
  have e : wNat ch f (j + 1) = wNat ch f j * wFac ch f j := rfl
  rw [e] at h2
  show wrap64 (wNat ch f j * wFac ch f j) = wNat ch f j * wFac ch f j
  generalize wNat ch f j * wFac ch f j = z at h2
  unfold wrap64; omega
def wtOf (ch : List Int) (f : Nat) : Int := wNat ch f ch.length
theorem wOf_eq {ch : List Int} (h : ∀ c ∈ ch, 0 ≤ c ∧ c ≤ 16) (hn : ch.length ≤ 12) (f : Nat) : wOf ch f = wtOf ch f := wUpto_nat h hn f _ (Nat.le_refl _)
/-- The sum of the weights of the sets that lose. -/
def lossSum (los : Nat → Bool) (wt : Nat → Int) : Nat → Int
 | 0 => 0
 | f + 1 => lossSum los wt f + if los f = true then wt f else 0
theorem lossSum_bd {los : Nat → Bool} {wt : Nat → Int} {B : Int} (h : ∀ f, 0 ≤ wt f ∧ wt f ≤ B) : ∀ n : Nat, 0 ≤ lossSum los wt n ∧ lossSum los wt n ≤ n * B
 | 0 => ⟨by show (0 : Int) ≤ 0; decide, by simp [lossSum]⟩
 | n + 1 => by
  obtain ⟨h1, h2⟩ := lossSum_bd (los := los) h n
  obtain ⟨h3, h4⟩ := h n
  have e : ((n + 1 : Nat) : Int) * B = n * B + B := by rw [Int.natCast_add, Int.add_mul]; simp
  rw [e]
  simp only [lossSum]
  split <;> omega
def losB (can : Nat → Bool) (pl : List Int) (f : Nat) : Bool := !can (leftUpto pl f pl.length)
theorem lossUpto_eq {can : Nat → Bool} {pl ch : List Int} (h : ∀ c ∈ ch, 0 ≤ c ∧ c ≤ 16) (hn : ch.length ≤ 12) : ∀ f, f ≤ 2 ^ ch.length → lossUpto can pl ch f = lossSum (losB can pl) (wtOf ch) f
 | 0, _ => rfl
 | f + 1, hf => by
  show (if 0 < wOf ch f ∧ can (leftUpto pl f pl.length) = false then wrap64 (lossUpto can pl ch f + wOf ch f) else lossUpto can pl ch f) = lossSum (losB can pl) (wtOf ch) f + if losB can pl f = true then wtOf ch f else 0
  rw [lossUpto_eq h hn f (by omega), wOf_eq h hn]
  have hw : ∀ g, 0 ≤ wtOf ch g ∧ wtOf ch g ≤ 16 ^ ch.length := fun g => wNat_bd h g _ (Nat.le_refl _)
  have hs := lossSum_bd (los := losB can pl) hw f
  have hwf := hw f
  have hp := pow16_12 hn
  have hf2 : (f : Int) ≤ 4096 := by
   have : 2 ^ ch.length ≤ 2 ^ 12 := Nat.pow_le_pow_right (by decide) hn
   have h12 : (2 : Nat) ^ 12 = 4096 := rfl
   omega
  have hs2 : lossSum (losB can pl) (wtOf ch) f ≤ 4096 * 281474976710656 := by
   refine Int.le_trans hs.2 (Int.mul_le_mul hf2 hp (by have := hwf; omega) (by decide))
  unfold losB
  cases hc : can (leftUpto pl f pl.length)
  ·simp only [Bool.not_false, if_true, and_true]
   by_cases h0 : 0 < wtOf ch f
   ·rw [if_pos h0]
    unfold losB at hs2 hs
    generalize lossSum (fun f => !can (leftUpto pl f pl.length)) (wtOf ch) f = z at *
    unfold wrap64; omega
   ·rw [if_neg h0]; omega
  ·simp
/-! the values of Lost, Loss, Least, Total -/
theorem okRows_for {D M : Nat} {l : List (List Int)} (hc : chk (D : Int) l (M : Int) = 0) : okRows (rowsFor (D : Int) l (M : Int)) = true := by
 obtain ⟨h1, h2, h3, h4⟩ := (chk_ok hc).bounds
 have hrf : rowsFor (D : Int) l (M : Int) = rowsOf D l M := by unfold rowsFor; rw [if_pos hc]; rfl
 rw [hrf]
 exact okRows_rows h1 h2 h4
def lossFor (D : Nat) (l : List (List Int)) (M : Nat) (pl ch : List Int) : Int := lossSum (losB (canN D l M) pl) (wtOf ch) (2 ^ ch.length)
theorem kloss_ev {D M : Nat} {l : List (List Int)} {pl ch : List Int} (h : PerilOk D l M pl ch) (hs : Small l) : Ev (fun k => risk_Loss.f k (D : Int) l (M : Int) pl ch) (lossFor D l M pl ch, 0) := by
 have hb := (chk_ok h.code).bounds
 have hp := h.npl; have hn := h.nch
 refine Ev.congr (f := fun k => (risk_Check.f k (D : Int) l (M : Int) pl ch).bind fun e => if e = 0 then (if okPeril pl ch = true then (code_Rows.f k (D : Int) l (M : Int)).bind fun r => if okRows r.1 = true then some (lossUpto (canOf r.1) pl ch (2 ^ ch.length), 0) else none else none) else some (0, e)) (fun k => rfl) (Ev.bind (kchk_ev (D : Int) l (M : Int) pl ch hs (by omega) (by omega)) ?_)
 rw [h.chk]
 simp only [if_true, h.okp]
 refine Ev.bind (crows_ev (D : Int) l (M : Int) hs) ?_
 simp only [okRows_for h.code, if_true]
 refine ev_eq (Ev.now _) ?_
 unfold lossFor
 rw [← lossUpto_eq h.chs h.nch _ (Nat.le_refl _)]
 rfl
end Go.Proofs.YtkadfidmfnpohaaDoor.XB

namespace Go.Proofs.YtkadfidmfnpohaaDoor.XB
open Go.RowKit Go.Proofs.YtkadfidmfnpohaaDoorW.PrintWords Go.Proofs.YtkadfidmfnpohaaDoorW.PrintLast Go.Proofs.YtkadfidmfnpohaaDoorW.PrintMore
set_option linter.unusedVariables false
set_option linter.unusedSimpArgs false
theorem few_err {l : List (List Int)} {pl ch : List Int} (h : fewB12 l pl ch 9 = true) : Small l ∧ pl.length ≤ 1000 ∧ ch.length ≤ 9 := by
 obtain ⟨h1, h2, h3, h4⟩ := few12_small h
 exact ⟨h4, by omega, by omega⟩
end Go.Proofs.YtkadfidmfnpohaaDoor.XB

namespace Go.Proofs.YtkadfidmfnpohaaDoor
open Go.ChangeShapes Go.WideShapes Go.ChangeAt Go.RowKit
open Go.ChangeMaps (open_string shut_string)
open Go.Proofs.YtkadfidmfnpohaaDoorW.PrintWords Go.Proofs.YtkadfidmfnpohaaDoorW.PrintLast Go.Proofs.YtkadfidmfnpohaaDoorW.PrintMore Go.Proofs.YtkadfidmfnpohaaDoor.XB
set_option linter.unusedVariables false
set_option linter.unusedSimpArgs false
/-! arguments, read -/
/-- Whatever reads at a type is of a kind. -/
def ReadAt (P : Program) {α : Type} (k : Kd α) (e : TypeId) (Q : α → Prop) : Prop :=
 ∀ (H : Type) (enc : TypeId × Value → H) (w : World) (held : Bool) (fuel : Nat) (cs : List Value) (x : DataW H × List MemPlace), DataW.trod enc P w 0 (fun _ => true) held fuel e cs = some x → ∃ y, k.K w y cs ∧ Q y
theorem readAt_int {P : Program} {k : IntKind} {t : TypeId} (ht : P.underlying t = some (.int k)) : ReadAt P (Kd.int k) t (fun y => (Lit.int k y).wf = true) := by
 intro H enc w held fuel cs x h
 obtain ⟨n, rfl, _, hw⟩ := DataW.trod_int ht h
 exact ⟨n, rfl, hw⟩
theorem readAt_slice {P : Program} {α : Type} {k : Kd α} {t e : TypeId} {Q : α → Prop} (ht : P.underlying t = some (.slice e)) (hs : k.sz = 1) (hc : P.cellsOf e = 1) (he : ReadAt P k e Q) : ReadAt P (Kd.slice e k) t (fun l => l.length ≤ maxLen ∧ ∀ y ∈ l, Q y) := by
 intro H enc w held fuel cs x h
 rcases Go.Deep.open_slice1 ht hc h with ⟨rfl, _⟩ | ⟨a, len, cap, m, n, V, D, Pl, rfl, _, hl, hm, hmm, _, hx⟩
 ·exact ⟨[], ⟨none, 0, rfl, Nat.le_refl _, rfl, by simp, fun h0 => absurd h0 (Nat.lt_irrefl 0)⟩, by simp, by simp⟩
 simp only [if_true] at hmm
 subst hmm
 have hy : ∀ i, i < m → ∃ y, k.K w y [V i] ∧ Q y := fun i hi => he H enc w held n [V i] _ (hx i hi).2
 have hlm : len ≤ m := hl
 have key : ∀ j, j ≤ m → ∃ l : List α, l.length = j ∧ (∀ y ∈ l, Q y) ∧ ∀ i y, l[i]? = some y → k.K w y [V i] := by
  intro j
  induction j with
  | zero => exact fun _ => ⟨[], rfl, by simp, by simp⟩
  | succ j ih =>
   intro hj
   obtain ⟨l, hl1, hl2, hl3⟩ := ih (by omega)
   obtain ⟨y, hy1, hy2⟩ := hy j (by omega)
   refine ⟨l ++ [y], by simp [hl1], fun z hz => ?_, fun i z hz => ?_⟩
   ·rcases List.mem_append.1 hz with hz | hz
    ·exact hl2 z hz
    ·obtain rfl := List.mem_singleton.1 hz; exact hy2
   ·by_cases hi : i < j
    ·rw [List.getElem?_append_left (by omega)] at hz
     exact hl3 i z hz
    ·have hi2 : i < (l ++ [y]).length := (List.getElem?_eq_some_iff.1 hz).1
     obtain rfl : i = j := by simp [hl1] at hi2; omega
     rw [List.getElem?_append_right (by omega)] at hz
     simp [hl1] at hz
     subst hz
     exact hy1
 obtain ⟨l, rfl, hl2, hl3⟩ := key len hlm
 refine ⟨l, ⟨some a, m, rfl, hlm, rfl, by unfold maxLen at hm; omega, fun h0 => ⟨a, rfl, fun j p hp => ?_⟩⟩, by omega, hl2⟩
 have hj : j < l.length := (List.getElem?_eq_some_iff.1 hp).1
 refine ⟨[V j], by rw [hs]; rfl, hl3 j p hp, fun i u hu => ?_⟩
 have hi : i < 1 := (List.getElem?_eq_some_iff.1 hu).1
 obtain rfl : i = 0 := by omega
 simp at hu
 subst hu
 rw [hs, Nat.mul_one, Nat.add_zero]
 exact (hx j (by omega)).1
theorem ReadAt.slice {P : Program} {α : Type} {k : Kd α} {t e : TypeId} {Q : List α → Prop} {H : Type} {enc : TypeId × Value → H} {w : World} {held : Bool} {fuel : Nat} {v : Value} {x : DataW H × List MemPlace} (hr : ReadAt P (Kd.slice e k) t Q) (h : DataW.trod enc P w 0 (fun _ => true) held fuel t [v] = some x) :
  ∃ A c l, v = .slice A l.length c ∧ l.length ≤ c ∧ k.C w A l.length l ∧ Q l := by
 obtain ⟨y, ⟨A, c, hv, hc, hC⟩, hq⟩ := hr H enc w held fuel [v] x h
 exact ⟨A, c, y, by simpa using hv, hc, hC, hq⟩
set_option maxRecDepth 100000 in
/-- What the law's condition says of the tables. -/
theorem hg_of_laid {W : World} (h : laidMetH Tryd.prog [("quietus/gf.high", Rows.laid_quietus_gf_high)] W) : XB.HG W := by
 rw [MakeChecks.laidMetH_plain _ _ _ (by kernel_rfl)] at h
 have hd : (Rows.laid_quietus_gf_high : DataW Unit) = Lib.tabData .u8 XB.tab_high := rfl
 rw [hd] at h
 have g1 : Tryd.prog.globalNamed "quietus/gf.high" = some 0 := by kernel_rfl
 have g2 : (Tryd.prog.globals[0]?).map (·.type) = some 134 := by kernel_rfl
 have g3 : Tryd.prog.cellsOf 5 = 1 := by kernel_rfl
 have g4 : Tryd.prog.cellsOf 134 = 16 := by kernel_rfl
 have hT : Lib.TabIs Tryd.prog W "quietus/gf.high" .u8 XB.tab_high := Lib.tabIs_of_head g1 g2 Tryd.underlying134 Tryd.underlying5 g3 g4 h
 refine ⟨trivial, fun i h0 h1 => ?_⟩
 have hl : XB.tab_high.length = 16 := rfl
 exact hT.cell g1 i.toNat (by omega)
theorem readAt_groups : ReadAt Tryd.prog (Kd.slice 60 (Kd.slice 3 (Kd.int .i64))) 22 (fun l => l.length ≤ maxLen ∧ ∀ g ∈ l, g.length ≤ maxLen ∧ ∀ x ∈ g, (Lit.int .i64 x).wf = true) :=
 readAt_slice Tryd.underlying22 rfl (by kernel_rfl) (readAt_slice Tryd.underlying60 rfl (by kernel_rfl) (readAt_int Tryd.underlying3))
/-! a peril, as it comes in -/
theorem readAt_ints : ReadAt Tryd.prog (Kd.slice 3 (Kd.int .i64)) 60 (fun l => l.length ≤ maxLen ∧ ∀ x ∈ l, (Lit.int .i64 x).wf = true) := readAt_slice Tryd.underlying60 rfl (by kernel_rfl) (readAt_int Tryd.underlying3)
theorem list5 {α : Type} {xs : List α} (h : xs.length = 5) : ∃ a b c d e, xs = [a, b, c, d, e] := by
 match xs, h with
 | [a, b, c, d, e], _ => exact ⟨a, b, c, d, e, rfl⟩
theorem struct_at {P : Program} {H : Type} {enc : TypeId × Value → H} {W : World} {base n : Nat} {spare : Nat → Bool} {held : Bool} {fs : Array Field} {cs : List Value} {xs : List (DataW H × List MemPlace)}
  (hel : ∀ (i : Nat) (f : Field), fs[i]? = some f → DataW.trod enc P W base spare held n f.type ((cs.drop f.offset).take (P.cellsOf f.type)) = xs[i]?) {i : Nat} {f : Field} (hf : fs[i]? = some f) {ty : TypeId} {off q : Nat} (ht : f.type = ty) (ho : f.offset = off) (hq : P.cellsOf ty = q) (hx : i < xs.length) :
  DataW.trod enc P W base spare held n ty ((cs.drop off).take q) = some xs[i] := by
 subst ht ho hq
 rw [hel i f hf, List.getElem?_eq_getElem hx]
set_option maxRecDepth 100000 in
theorem open_peril {H : Type} {enc : TypeId × Value → H} {W : World} {r : Reach} {b0 : Nat} {v : Value} {dd : DataW H} {p : List MemPlace} (hv : Value.okWide Tryd.prog W r b0 64 v) (h : DataW.Trod enc Tryd.prog W 0 (fun _ => true) true 64 v dd p) :
  ∃ d A c l m Aa ca pl Ac cc ch, v = .agg #[.int .i64 d, .slice A l.length c, .int .i64 m, .slice Aa pl.length ca, .slice Ac ch.length cc] ∧ l.length ≤ c ∧ Kd.C (Kd.slice 3 (Kd.int .i64)) W A l.length l ∧ pl.length ≤ ca ∧ (Kd.int .i64).C W Aa pl.length pl ∧ ch.length ≤ cc ∧ (Kd.int .i64).C W Ac ch.length ch := by
 unfold Value.okWide at hv
 rw [Tryd.underlying64] at hv
 obtain ⟨cs, rfl, hsz, _⟩ := hv
 have h5 : Tryd.prog.cellsOf 64 = 5 := by kernel_rfl
 have h3 : Tryd.prog.cellsOf 24 = 3 := by kernel_rfl
 have h1i : Tryd.prog.cellsOf 3 = 1 := by kernel_rfl
 have h1s : Tryd.prog.cellsOf 60 = 1 := by kernel_rfl
 have h1g : Tryd.prog.cellsOf 22 = 1 := by kernel_rfl
 obtain ⟨fuel, hf⟩ := h
 obtain ⟨xs, n, _, _, hl, hxs, hel⟩ := DataW.trod_struct Tryd.underlying64 hf
 have hcells : Value.cells (.agg cs) = cs := rfl
 rw [hcells] at hl hel
 obtain ⟨c0, c1, c2, c3, c4, hcs⟩ := list5 (show cs.toList.length = 5 by rw [hl, h5])
 rw [hcs] at hel
 have hx3 : xs.length = 3 := hxs
 have e0 := struct_at hel (i := 0) rfl (ty := 24) (off := 0) (q := 3) rfl rfl h3 (by omega)
 have e1 := struct_at hel (i := 1) rfl (ty := 60) (off := 3) (q := 1) rfl rfl h1s (by omega)
 have e2 := struct_at hel (i := 2) rfl (ty := 60) (off := 4) (q := 1) rfl rfl h1s (by omega)
 have e0 : DataW.trod enc Tryd.prog W 0 (fun _ => true) true n 24 [c0, c1, c2] = some _ := e0
 have e1 : DataW.trod enc Tryd.prog W 0 (fun _ => true) true n 60 [c3] = some _ := e1
 have e2 : DataW.trod enc Tryd.prog W 0 (fun _ => true) true n 60 [c4] = some _ := e2
 obtain ⟨ys, n2, _, _, _, hys, hel2⟩ := DataW.trod_struct Tryd.underlying24 e0
 have hy3 : ys.length = 3 := hys
 have f0 := struct_at hel2 (i := 0) rfl (ty := 3) (off := 0) (q := 1) rfl rfl h1i (by omega)
 have f1 := struct_at hel2 (i := 1) rfl (ty := 22) (off := 1) (q := 1) rfl rfl h1g (by omega)
 have f2 := struct_at hel2 (i := 2) rfl (ty := 3) (off := 2) (q := 1) rfl rfl h1i (by omega)
 have f0 : DataW.trod enc Tryd.prog W 0 (fun _ => true) true n2 3 [c0] = some _ := f0
 have f1 : DataW.trod enc Tryd.prog W 0 (fun _ => true) true n2 22 [c1] = some _ := f1
 have f2 : DataW.trod enc Tryd.prog W 0 (fun _ => true) true n2 3 [c2] = some _ := f2
 obtain ⟨d, hd, _, _⟩ := DataW.trod_int Tryd.underlying3 f0
 obtain ⟨m, hm, _, _⟩ := DataW.trod_int Tryd.underlying3 f2
 obtain ⟨A, c, l, hA, hc, hC, _⟩ := readAt_groups.slice f1
 obtain ⟨Aa, ca, pl, hAa, hca, hCa, _⟩ := readAt_ints.slice e1
 obtain ⟨Ac, cc, ch, hAc, hcc, hCc, _⟩ := readAt_ints.slice e2
 have hd : c0 = .int .i64 d := by simpa using hd
 have hm : c2 = .int .i64 m := by simpa using hm
 subst hd hm hA hAa hAc
 exact ⟨d, A, c, l, m, Aa, ca, pl, Ac, cc, ch, by rw [show cs = #[.int .i64 d, .slice A l.length c, .int .i64 m, .slice Aa pl.length ca, .slice Ac ch.length cc] from Array.toList_inj.1 hcs], hc, hC, hca, hCa, hcc, hCc⟩
end Go.Proofs.YtkadfidmfnpohaaDoor

namespace Go.Proofs.YtkadfidmfnpohaaDoor.XB
open Go.RowKit Go.Proofs.YtkadfidmfnpohaaDoorW.PrintWords Go.Proofs.YtkadfidmfnpohaaDoorW.PrintLast Go.Proofs.YtkadfidmfnpohaaDoorW.PrintMore
set_option linter.unusedVariables false
set_option linter.unusedSimpArgs false
theorem rdc_set {ch : List Int} {dd : Nat} (hd : dd < ch.length) (v : Int) (i : Nat) : rd (ch.set dd v) (i : Int) = if i = dd then v else rd ch (i : Int) := by
 by_cases e : i = dd
 ·subst e; rw [if_pos rfl, rdi (by rw [List.length_set]; exact hd), List.getElem_set_self]
 ·rw [if_neg e]
  simp [rd, List.getD_eq_getElem?_getD, List.getElem?_set_ne (fun h => e h.symm)]
def wRest (ch : List Int) (dd f : Nat) : Nat → Int
 | 0 => 1
 | j + 1 => if j = dd then wRest ch dd f j else wRest ch dd f j * wFac ch f j
def facOf (f dd : Nat) (v : Int) : Int := if (f >>> dd) % 2 = 0 then 16 - v else v
theorem wNat_set {ch : List Int} {dd : Nat} (hd : dd < ch.length) (v : Int) (f : Nat) : ∀ j, wNat (ch.set dd v) f j = if dd < j then wRest ch dd f j * facOf f dd v else wRest ch dd f j
 | 0 => by rw [if_neg (Nat.not_lt_zero _)]; rfl
 | j + 1 => by
  have ih := wNat_set hd v f j
  show wNat (ch.set dd v) f j * wFac (ch.set dd v) f j = if dd < j + 1 then (if j = dd then wRest ch dd f j else wRest ch dd f j * wFac ch f j) * facOf f dd v else (if j = dd then wRest ch dd f j else wRest ch dd f j * wFac ch f j)
  rw [ih]
  by_cases e : j = dd
  ·subst e
   have hw : wFac (ch.set j v) f j = facOf f j v := by unfold wFac facOf; rw [rdc_set hd, if_pos rfl]
   rw [if_neg (Nat.lt_irrefl _), if_pos (by omega), if_pos rfl, hw]
  ·have hw : wFac (ch.set dd v) f j = wFac ch f j := by unfold wFac; rw [rdc_set hd, if_neg e]
   rw [hw, if_neg e]
   by_cases c : dd < j
   ·rw [if_pos c, if_pos (by omega), Int.mul_assoc, Int.mul_comm (facOf f dd v), ← Int.mul_assoc]
   ·rw [if_neg c, if_neg (by omega)]
theorem wt_set {ch : List Int} {dd : Nat} (hd : dd < ch.length) (v : Int) (f : Nat) : wtOf (ch.set dd v) f = wRest ch dd f ch.length * facOf f dd v := by
 unfold wtOf
 rw [List.length_set, wNat_set hd, if_pos hd]
theorem wt_self {ch : List Int} {dd : Nat} (hd : dd < ch.length) (f : Nat) : wtOf ch f = wRest ch dd f ch.length * facOf f dd (rd ch (dd : Int)) := by
 have h := wt_set hd (rd ch (dd : Int)) f
 rwa [show ch.set dd (rd ch (dd : Int)) = ch by rw [rdi hd]; exact List.set_getElem_self _] at h
theorem wt_cond {ch : List Int} {dd : Nat} (hd : dd < ch.length) (f : Nat) : 16 * wtOf ch f = rd ch (dd : Int) * wtOf (ch.set dd 16) f + (16 - rd ch (dd : Int)) * wtOf (ch.set dd 0) f := by
 rw [wt_set hd, wt_set hd, wt_self hd]
 generalize wRest ch dd f ch.length = R
 generalize rd ch (dd : Int) = q
 unfold facOf
 by_cases e : (f >>> dd) % 2 = 0
 ·simp only [if_pos e]
  rw [show (16 : Int) - 16 = 0 by decide, Int.mul_zero, Int.mul_zero, Int.zero_add, show (16 : Int) - 0 = 16 by decide, Int.mul_comm 16, Int.mul_assoc, Int.mul_comm R, Int.mul_assoc, Int.mul_comm 16 R]
 ·simp only [if_neg e]
  rw [Int.mul_zero, Int.mul_zero, Int.add_zero, Int.mul_comm 16, Int.mul_assoc, Int.mul_comm R, Int.mul_assoc, Int.mul_comm 16 R]
theorem lossSum_lin {los : Nat → Bool} {w w1 w0 : Nat → Int} {q p : Int} (h : ∀ f, 16 * w f = q * w1 f + p * w0 f) : ∀ n, 16 * lossSum los w n = q * lossSum los w1 n + p * lossSum los w0 n
 | 0 => by simp [lossSum]
 | n + 1 => by
  have ih := lossSum_lin (los := los) h n
  simp only [lossSum]
  cases hl : los n
  ·simpa using ih
  ·simp only [if_true]
   rw [Int.mul_add, ih, h n, Int.mul_add, Int.mul_add]
   omega
theorem PerilOk.set {D : Nat} {l : List (List Int)} {M : Nat} {pl ch : List Int} (h : PerilOk D l M pl ch) (dd : Nat) {v : Int} (hv : 0 ≤ v ∧ v ≤ 16) : PerilOk D l M pl (ch.set dd v) :=
 ⟨h.code, by rw [List.length_set]; exact h.nch, h.npl, fun x hx => by rw [List.length_set]; exact h.pls x hx, fun c hc => by
  rcases List.mem_or_eq_of_mem_set hc with hc | rfl
  ·exact h.chs c hc
  ·exact hv⟩
theorem loss_cond {D M : Nat} {l : List (List Int)} {pl ch : List Int} {dd : Nat} (hd : dd < ch.length) : 16 * lossFor D l M pl ch = rd ch (dd : Int) * lossFor D l M pl (ch.set dd 16) + (16 - rd ch (dd : Int)) * lossFor D l M pl (ch.set dd 0) := by
 unfold lossFor
 rw [List.length_set, List.length_set]
 exact lossSum_lin (fun f => wt_cond hd f) _
theorem wrap_sum (a b : Int) : wrap64 (wrap64 a + wrap64 b) = wrap64 (a + b) := by unfold wrap64; omega
/-! Same -/
theorem same_l3 (d : Int) (l : List (List Int)) (m : Int) (pl ch : List Int) (hc : ch.length ≤ 1000) : ∀ n i : Nat, i + n = ch.length → Ev (fun k => quietusref12_Same.l3 k (i : Int) d l m pl ch d l m pl ch) true := by
 intro n
 induction n with
 | zero =>
  intro i hi
  refine Ev.step (f := fun _ => some true) (fun k => ?_) (Ev.now _)
  simp only [quietusref12_Same.l3]; rw [if_neg (by omega)]
 | succ n ih =>
  intro i hi
  refine Ev.step (f := fun k => quietusref12_Same.l3 k ((i + 1 : Nat) : Int) d l m pl ch d l m pl ch) (fun k => ?_) (ih (i + 1) (by omega))
  simp only [quietusref12_Same.l3]; rw [if_pos (by omega)]; simp (disch := omega) only [if_true, if_pos, wrap_succ]
  try rfl
theorem same_l2 (d : Int) (l : List (List Int)) (m : Int) (pl ch : List Int) (hp : pl.length ≤ 1000) (hc : ch.length ≤ 1000) : ∀ n i : Nat, i + n = pl.length → Ev (fun k => quietusref12_Same.l2 k (i : Int) d l m pl ch d l m pl ch) true := by
 intro n
 induction n with
 | zero =>
  intro i hi
  refine Ev.step (f := fun k => quietusref12_Same.l3 k ((0 : Nat) : Int) d l m pl ch d l m pl ch) (fun k => ?_) (same_l3 d l m pl ch hc _ 0 (Nat.zero_add _))
  simp only [quietusref12_Same.l2]; rw [if_neg (by omega)]; rfl
 | succ n ih =>
  intro i hi
  refine Ev.step (f := fun k => quietusref12_Same.l2 k ((i + 1 : Nat) : Int) d l m pl ch d l m pl ch) (fun k => ?_) (ih (i + 1) (by omega))
  simp only [quietusref12_Same.l2]; rw [if_pos (by omega)]; simp (disch := omega) only [if_true, if_pos, wrap_succ]
  try rfl
theorem same_l1 (d : Int) (l : List (List Int)) (m : Int) (pl ch : List Int) (hs : Small l) (g : Nat) (hg : g < l.length) (hgl : l.length ≤ 1000) (R : Ev (fun k => quietusref12_Same.l0 k ((g + 1 : Nat) : Int) d l m pl ch d l m pl ch) true) :
  ∀ n i : Nat, i + n = (rd_L1 l (g : Nat)).length → Ev (fun k => quietusref12_Same.l1 k (g : Int) (i : Int) d l m pl ch d l m pl ch) true := by
 intro n
 have hl := hs.2 g
 induction n with
 | zero =>
  intro i hi
  refine Ev.step (f := fun k => quietusref12_Same.l0 k ((g + 1 : Nat) : Int) d l m pl ch d l m pl ch) (fun k => ?_) R
  simp only [quietusref12_Same.l1]; rw [if_pos (by omega)]; simp (disch := omega) only [if_pos, if_neg, wrap_succ]
 | succ n ih =>
  intro i hi
  refine Ev.step (f := fun k => quietusref12_Same.l1 k (g : Int) ((i + 1 : Nat) : Int) d l m pl ch d l m pl ch) (fun k => ?_) (ih (i + 1) (by omega))
  simp only [quietusref12_Same.l1]
  rw [if_pos (by omega)]; simp (disch := omega) only [if_true, if_pos, wrap_succ]
  try rfl
theorem same_l0 (d : Int) (l : List (List Int)) (m : Int) (pl ch : List Int) (hs : Small l) (hgl : l.length ≤ 1000) (hp : pl.length ≤ 1000) (hc : ch.length ≤ 1000) : ∀ n i : Nat, i + n = l.length → Ev (fun k => quietusref12_Same.l0 k (i : Int) d l m pl ch d l m pl ch) true := by
 intro n
 induction n with
 | zero =>
  intro i hi
  refine Ev.step (f := fun k => quietusref12_Same.l2 k ((0 : Nat) : Int) d l m pl ch d l m pl ch) (fun k => ?_) (same_l2 d l m pl ch hp hc _ 0 (Nat.zero_add _))
  simp only [quietusref12_Same.l0]; rw [if_neg (by omega)]; rfl
 | succ n ih =>
  intro i hi
  refine Ev.step (f := fun k => quietusref12_Same.l1 k (i : Int) ((0 : Nat) : Int) d l m pl ch d l m pl ch) (fun k => ?_) (same_l1 d l m pl ch hs i (by omega) hgl (ih (i + 1) (by omega)) _ 0 (Nat.zero_add _))
  simp only [quietusref12_Same.l0]; rw [if_pos (by omega)]
  simp (disch := omega) only [if_true, if_pos]
  try rfl
theorem same_ev (d : Int) (l : List (List Int)) (m : Int) (pl ch : List Int) (hs : Small l) (hgl : l.length ≤ 1000) (hp : pl.length ≤ 1000) (hc : ch.length ≤ 1000) : Ev (fun k => quietusref12_Same.f k d l m pl ch d l m pl ch) true := by
 refine Ev.congr (f := fun k => quietusref12_Same.j0 k false d l m pl ch d l m pl ch) (fun k => ?_) (Ev.step (f := fun k => quietusref12_Same.l0 k ((0 : Nat) : Int) d l m pl ch d l m pl ch) (fun k => ?_) (same_l0 d l m pl ch hs hgl hp hc _ 0 (Nat.zero_add _)))
 ·unfold quietusref12_Same.f
  simp
 ·simp only [quietusref12_Same.j0]; rfl
set_option maxHeartbeats 1000000 in
set_option maxRecDepth 100000 in
theorem cond_walk (d : Int) (A : Option Addr) (c : Nat) (l : List (List Int)) (m : Int) (Aa : Option Addr) (ca : Nat) (pl : List Int) (Ac : Option Addr) (cc : Nat) (ch : List Int) (dom : Int) (w : World) (hG : HG w) (hC : Kd.C (Kd.slice 3 (Kd.int .i64)) w A l.length l) (hc : l.length ≤ c) (hP : (Kd.int .i64).C w Aa pl.length pl) (hca : pl.length ≤ ca) (hH : (Kd.int .i64).C w Ac ch.length ch) (hcc : ch.length ≤ cc) (ho0 : 0 ≤ dom) (ho1 : dom < 256) :
  Calls Tryd.prog 9 #[.agg #[.int .i64 d, .slice A l.length c, .int .i64 m, .slice Aa pl.length ca, .slice Ac ch.length cc], .int .u8 dom] w fun e w' => e = .returned (.bool true) ∧ Below w.heap.size w w' := by
 obtain ⟨K, hK⟩ := few12_ev d l m pl ch 9
 cases hf : fewB12 l pl ch 9 with
 | false => exact law12_cond.aside K d A c l m Aa ca pl Ac cc ch dom false 0 w hG hC hc hP hca hH hcc (hf ▸ hK K (Nat.le_refl _)) (fun h => by cases h)
 | true =>
  obtain ⟨hs, hp, h9⟩ := few_err hf
  have hl30 := (few12_small hf).2.2.1
  obtain ⟨K1, h1⟩ := kchk_ev d l m pl ch hs hp (by omega)
  by_cases he : chk12 d l m pl ch = 0
  ·by_cases hz : ch.length = 0
   ·exact law12_cond.aside (K + K1) d A c l m Aa ca pl Ac cc ch dom true _ w hG hC hc hP hca hH hcc (hf ▸ hK _ (by omega)) (fun _ => ⟨h1 _ (by omega), .inr hz⟩)
   ·obtain ⟨D, M, rfl, rfl, hok⟩ := chk12_ok he
    rw [he] at h1
    obtain ⟨dd, hdd⟩ : ∃ dd : Nat, dd = (dom % (ch.length : Int)).toNat := ⟨_, rfl⟩
    have hm0 := Int.emod_nonneg dom (show (ch.length : Int) ≠ 0 by omega)
    have hm1 := Int.emod_lt_of_pos dom (show (0 : Int) < (ch.length : Int) by omega)
    have hd : dd < ch.length := by omega
    obtain ⟨K2, h2⟩ := kloss_ev hok hs
    obtain ⟨K3, h3⟩ := kloss_ev (hok.set dd (v := 16) ⟨by decide, by decide⟩) hs
    obtain ⟨K4, h4⟩ := kloss_ev (hok.set dd (v := 0) ⟨by decide, by decide⟩) hs
    obtain ⟨K5, h5⟩ := same_ev (D : Int) l (M : Int) pl ch hs (by omega) hp (by omega)
    have hq := hok.chs _ (rdm hd)
    have hcond := loss_cond (D := D) (l := l) (M := M) (pl := pl) hd
    obtain ⟨k, hk⟩ : ∃ k, k = K + K1 + K2 + K3 + K4 + K5 := ⟨_, rfl⟩
    refine law12_cond.main k (D : Int) A c l (M : Int) Aa ca pl Ac cc ch dom dd _ _ _ (rd ch (dd : Int)) w hG hC hc hP hca hH hcc (hf ▸ hK k (by omega)) (h1 k (by omega)) (by omega) hd ho0 ho1 (by omega) rfl (h2 k (by omega)) (h3 k (by omega)) (h4 k (by omega)) ?_ (h5 k (by omega))
    rw [beq_iff_eq]
    generalize lossFor D l M pl ch = x at hcond
    generalize lossFor D l M pl (ch.set dd 16) = y at hcond
    generalize lossFor D l M pl (ch.set dd 0) = z at hcond
    rw [show wrap64 (16 - rd ch (dd : Int)) = 16 - rd ch (dd : Int) by clear hcond; unfold wrap64; omega, hcond, wrap_sum]
  ·exact law12_cond.aside (K + K1) d A c l m Aa ca pl Ac cc ch dom true _ w hG hC hc hP hca hH hcc (hf ▸ hK _ (by omega)) (fun _ => ⟨h1 _ (by omega), .inl he⟩)
end Go.Proofs.YtkadfidmfnpohaaDoor.XB
