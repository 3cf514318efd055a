/- Lemmas for the claim Spec: functions of the program as plain Lean functions, each with its contract, and what is proved of them. -/
import Derived.Test.YtkadfidmfnpohaaDoorQSpec1
import Derived.Test.YtkadfidmfnpohaaDoorQSpec5
import Derived.Test.YtkadfidmfnpohaaDoorQSpec3
import Derived.Test.YtkadfidmfnpohaaDoorQSpec4
import Derived.Test.YtkadfidmfnpohaaDoorQSpec2
import Derived.Test.YtkadfidmfnpohaaDoorRows
import Derived.Test.YtkadfidmfnpohaaDoorCards
import Derived.Test.YtkadfidmfnpohaaDoorTie
import Derived.ProofKit
import Derived.WalkKit
import Derived.OpenShut
import Derived.ShutString
import Derived.ChangeOld
import Derived.Below
import Derived.LaidMore
import Derived.Stop.Joined
import Derived.Lib.LaidTab
import Derived.Lib.SmallJoins
import Derived.SevenTiedAt
import Derived.MakeChecks
import Derived.SizedLaws
namespace Go.Proofs.YtkadfidmfnpohaaDoor.XB
open Go.RowKit Go.Proofs.YtkadfidmfnpohaaDoorW.PrintWords Go.Proofs.YtkadfidmfnpohaaDoorW.PrintLast Go.Proofs.YtkadfidmfnpohaaDoorW.PrintMore
set_option linter.unusedVariables false
set_option linter.unusedSimpArgs false
def orAll (g : List Int) (s : Nat) : Nat := g.foldl (fun s i => s ||| 2 ^ i.toNat) s
theorem orAll_snoc (g : List Int) (x : Int) (s : Nat) : orAll (g ++ [x]) s = orAll g s ||| 2 ^ x.toNat := by simp [orAll]
theorem orAll_lt {g : List Int} (h : ∀ x ∈ g, 0 ≤ x ∧ x < 16) : ∀ {s : Nat}, s < 2 ^ 16 → orAll g s < 2 ^ 16 := by
 induction g with
 | nil => intro s hs; exact hs
 | cons a g ih =>
  intro s hs
  have ha := h a (List.mem_cons_self)
  exact ih (fun x hx => h x (List.mem_cons_of_mem _ hx)) (Nat.or_lt_two_pow hs (Nat.pow_lt_pow_right (by decide) (by omega)))
theorem orAll_bit (g : List Int) (i : Nat) : ∀ s, (orAll g s).testBit i = (s.testBit i || g.any (fun x => x.toNat == i)) := by
 induction g with
 | nil => intro s; simp [orAll]
 | cons a g ih =>
  intro s
  show (orAll g (s ||| 2 ^ a.toNat)).testBit i = _
  rw [ih, Nat.testBit_or, Nat.testBit_two_pow, List.any_cons, Bool.or_assoc]
  congr 2
def seenOf (l : List (List Int)) : Nat → Nat
 | 0 => 0
 | i + 1 => orAll (rd_L1 l (i : Nat)) (seenOf l i)
/-- The groups before i have elements of the code alone. -/
def Elems (d : Int) (l : List (List Int)) (i : Nat) : Prop := ∀ h : Nat, h < i → ∀ x ∈ rd_L1 l (h : Nat), 0 ≤ x ∧ x < d
theorem seenOf_lt {d : Int} {l : List (List Int)} (hd : d ≤ 16) : ∀ {i}, Elems d l i → seenOf l i < 2 ^ 16
 | 0, _ => (by decide : (0 : Nat) < 2 ^ 16)
 | i + 1, h => orAll_lt (fun x hx => by have := h i (Nat.lt_succ_self i) x hx; omega) (seenOf_lt hd (fun g hg => h g (by omega)))
theorem seenOf_bit {d : Int} {l : List (List Int)} {x : Int} (hx : 0 ≤ x) : ∀ {i}, Elems d l i → (seenOf l i).testBit x.toNat = anyFrom (fun h => decide (x ∈ rd_L1 l (h : Nat))) 0 i := by
 intro i
 induction i with
 | zero => intro _; simp [seenOf, anyFrom]
 | succ i ih =>
  intro h
  have e := ih (fun g hg => h g (by omega))
  rw [Bool.eq_iff_iff, anyFrom_iff] at e ⊢
  rw [show seenOf l (i + 1) = orAll (rd_L1 l (i : Nat)) (seenOf l i) from rfl, orAll_bit, Bool.or_eq_true, e, List.any_eq_true]
  constructor
  ·rintro (⟨t, h1, h2, h3⟩ | ⟨y, hy, hz⟩)
   ·exact ⟨t, h1, by omega, h3⟩
   ·have := (h i (Nat.lt_succ_self i) y hy).1
    have hz : y.toNat = x.toNat := by simpa using hz
    obtain rfl : y = x := by omega
    exact ⟨i, by omega, by omega, by simpa using hy⟩
  ·rintro ⟨t, h1, h2, h3⟩
   by_cases ht : t = i
   ·subst ht; exact .inr ⟨x, by simpa using h3, by simp⟩
   ·exact .inl ⟨t, h1, by omega, h3⟩
theorem bit_of (s : Nat) (x : Int) (hx : 0 ≤ x) (h16 : x < 16) (hs : s < 2 ^ 16) : (Go.bits .and .i64 (shr .i64 (s : Int) x) 1 = 1) ↔ s.testBit x.toNat = true := by
 obtain ⟨n, rfl⟩ := Int.eq_ofNat_of_zero_le hx
 rw [shr_i64_nat s n (by omega), i64_and1 _ (by have := Nat.shiftRight_le s n; omega), Int.toNat_natCast, Nat.testBit_eq_decide_div_mod_eq, Nat.shiftRight_eq_div_pow, decide_eq_true_eq]
 omega
theorem rdm {l : List Int} {i : Nat} (h : i < l.length) : rd l (i : Int) ∈ l := by rw [rdi h]; exact List.getElem_mem h
theorem cchk_l2 (d : Int) (l : List (List Int)) (m : Int) (hs : Small l) (i : Nat) (hil : i < l.length) (s : Nat) (hlt : s < 2 ^ 16) (hg : ∀ x ∈ rd_L1 l (i : Nat), 0 ≤ x ∧ x < 16) (R : Int)
  (hR : Ev (fun k => code_Check.l0 k ((orAll (rd_L1 l (i : Nat)) s : Nat) : Int) 0 l (l.length : Int) ((i + 1 : Nat) : Int) d l m) R) :
  ∀ n j, j + n = (rd_L1 l (i : Nat)).length → Ev (fun k => code_Check.l2 k ((orAll ((rd_L1 l (i : Nat)).take j) s : Nat) : Int) 0 l (l.length : Int) (i : Int) (rd_L1 l (i : Nat)) ((rd_L1 l (i : Nat)).length : Int) (j : Int) d l m) R := by
 have hgl := hs.2 i
 have hsl := hs.1
 generalize rd_L1 l (i : Nat) = g at *
 intro n
 induction n with
 | zero =>
  intro j hj
  refine Ev.step (f := fun k => code_Check.l0 k ((orAll g s : Nat) : Int) 0 l (l.length : Int) ((i + 1 : Nat) : Int) d l m) (fun k => ?_) hR
  simp only [code_Check.l2]
  rw [if_neg (by omega), List.take_of_length_le (by omega), wrap_succ (by omega)]
 | succ n ih =>
  intro j hj
  have hx := hg _ (rdm (show j < g.length by omega))
  refine Ev.step (f := fun k => code_Check.l2 k ((orAll (g.take (j + 1)) s : Nat) : Int) 0 l (l.length : Int) (i : Int) g (g.length : Int) ((j + 1 : Nat) : Int) d l m) (fun k => ?_) (ih (j + 1) (by omega))
  simp only [code_Check.l2]
  have ht : g.take (j + 1) = g.take j ++ [rd g (j : Int)] := by rw [rdi (show j < g.length by omega)]; exact List.take_succ_eq_append_getElem (by omega)
  rw [if_pos (by omega), if_pos (by omega), if_pos (by omega), if_pos hx.1, wrap_succ (by omega), ht, orAll_snoc]
  have hb := orAll_lt (g := g.take j) (fun x hx => hg x (List.mem_of_mem_take hx)) hlt
  have hp : 2 ^ (rd g (j : Int)).toNat < 2 ^ 16 := Nat.pow_lt_pow_right (by decide) (by omega)
  have e := shl_i64_nat 1 (rd g (j : Int)).toNat (by omega) (by omega)
  rw [Int.toNat_of_nonneg hx.1, Nat.one_mul] at e
  rw [show ((1 : Nat) : Int) = 1 from rfl] at e
  rw [e, i64_or _ _ (by omega) (by omega)]
theorem cchk_l1 (d : Int) (hd : d ≤ 16) (l : List (List Int)) (m : Int) (hs : Small l) (i : Nat) (hil : i < l.length) (hel : Elems d l i) (R : Int)
  (hR : (∀ x ∈ rd_L1 l (i : Nat), 0 ≤ x ∧ x < d) → Ev (fun k => code_Check.l0 k ((seenOf l (i + 1) : Nat) : Int) 0 l (l.length : Int) ((i + 1 : Nat) : Int) d l m) R) :
  ∀ n j, j + n = (rd_L1 l (i : Nat)).length → (∀ t : Nat, t < j → 0 ≤ rd (rd_L1 l i) t ∧ rd (rd_L1 l i) t < d) →
   Ev (fun k => code_Check.l1 k ((seenOf l i : Nat) : Int) 0 (rd_L1 l i) l (l.length : Int) (i : Int) (rd_L1 l i) ((rd_L1 l i).length : Int) (j : Int) d l m) (if anyFrom (badEl d l i) j n = true then 1 else R) := by
 have hgl := hs.2 i
 have hlt := seenOf_lt hd hel
 intro n
 induction n with
 | zero =>
  intro j hj hpre
  have hall : ∀ x ∈ rd_L1 l (i : Nat), 0 ≤ x ∧ x < d := by
   intro x hx
   obtain ⟨t, ht, rfl⟩ := List.mem_iff_getElem.1 hx
   have := hpre t (by omega)
   rwa [rdi ht] at this
  refine Ev.step (f := fun k => code_Check.l2 k ((seenOf l i : Nat) : Int) 0 l (l.length : Int) (i : Int) (rd_L1 l i) ((rd_L1 l i).length : Int) ((0 : Nat) : Int) d l m) (fun k => ?_) ?_
  ·simp only [code_Check.l1]
   rw [if_neg (by omega)]
   rfl
  ·simp only [anyFrom]
   exact cchk_l2 d l m hs i hil (seenOf l i) hlt (fun x hx => by have := hall x hx; omega) R (hR hall) _ 0 (Nat.zero_add _)
 | succ n ih =>
  intro j hj hpre
  have hjl : j < (rd_L1 l i).length := by omega
  by_cases hb : badEl d l i j = true
  ·simp only [anyFrom, hb, Bool.true_or, if_true]
   refine Ev.step (f := fun _ => some 1) (fun k => ?_) (Ev.now _)
   simp only [code_Check.l1]
   rw [if_pos (by omega), if_pos (by omega), if_pos (by omega)]
   unfold badEl at hb
   by_cases c1 : rd (rd_L1 l i) j < 0
   ·rw [if_pos c1]
   rw [if_neg c1]
   by_cases c2 : d ≤ rd (rd_L1 l i) j
   ·rw [if_pos c2]
   rw [if_neg c2]
   simp only [c1, c2, decide_false, Bool.false_or] at hb
   have hsn : ¬ (decide (0 < j) && decide (rd (rd_L1 l i) j ≤ rd (rd_L1 l i) ((j - 1 : Nat) : Int))) = true → Go.bits .and .i64 (shr .i64 ((seenOf l i : Nat) : Int) (rd (rd_L1 l i) j)) 1 = 1 := by
    intro hn
    rw [bit_of _ _ (by omega) (by omega) hlt, seenOf_bit (by omega) hel]
    rw [Bool.not_eq_true] at hn
    rw [hn, Bool.false_or] at hb
    exact hb
   by_cases c3 : 0 < j
   ·rw [if_pos (by omega), wrap_pred c3 (by omega), if_pos (by omega), if_pos (by omega)]
    by_cases c4 : rd (rd_L1 l i) j ≤ rd (rd_L1 l i) ((j - 1 : Nat) : Int)
    ·rw [if_pos c4]
    ·rw [if_neg c4, if_pos (by omega), if_pos (hsn (by simp [c4]))]
   ·rw [if_neg (by omega), if_pos (by omega), if_pos (hsn (by simp [c3]))]
  ·have hb0 : badEl d l i j = false := Bool.eq_false_iff.2 hb
   simp only [anyFrom, hb0, Bool.false_or]
   unfold badEl at hb0
   simp only [Bool.or_eq_false_iff, decide_eq_false_iff_not] at hb0
   obtain ⟨⟨c1, c2, c3⟩, c4⟩ := hb0
   refine Ev.step (f := fun k => code_Check.l1 k ((seenOf l i : Nat) : Int) 0 (rd_L1 l i) l (l.length : Int) (i : Int) (rd_L1 l i) ((rd_L1 l i).length : Int) ((j + 1 : Nat) : Int) d l m) (fun k => ?_) (ih (j + 1) (by omega) (fun t ht => ?_))
   ·simp only [code_Check.l1]
    have hns : ¬ Go.bits .and .i64 (shr .i64 ((seenOf l i : Nat) : Int) (rd (rd_L1 l i) j)) 1 = 1 := by
     rw [bit_of _ _ (by omega) (by omega) hlt, seenOf_bit (by omega) hel, c4]
     decide
    rw [if_pos (by omega), if_pos (by omega), if_pos (by omega), if_neg c1, if_neg (show ¬ rd (rd_L1 l i) j ≥ d from c2)]
    by_cases e : 0 < j
    ·have c5 : ¬ rd (rd_L1 l i) j ≤ rd (rd_L1 l i) ((j - 1 : Nat) : Int) := by
      intro h; simp [e, h] at c3
     rw [if_pos (by omega), wrap_pred e (by omega), if_pos (by omega), if_pos (by omega), if_neg c5, if_pos (by omega), if_neg hns, wrap_succ (by omega)]
    ·rw [if_neg (by omega), if_pos (by omega), if_neg hns, wrap_succ (by omega)]
   ·by_cases e : t = j
    ·subst e; omega
    ·exact hpre t (by omega)
theorem cchk_l0 (d : Int) (hd : d ≤ 16) (l : List (List Int)) (m : Int) (hs : Small l) : ∀ n i, i + n = l.length → Elems d l i → Ev (fun k => code_Check.l0 k ((seenOf l i : Nat) : Int) 0 l (l.length : Int) (i : Int) d l m) (chkFrom d l i n) := by
 intro n
 have hsl := hs.1
 induction n with
 | zero =>
  intro i hi hel
  refine Ev.step (f := fun _ => some 0) (fun k => ?_) (Ev.now _)
  simp only [code_Check.l0]
  rw [if_neg (by omega)]
 | succ n ih =>
  intro i hi hel
  by_cases h0 : (rd_L1 l i).length = 0
  ·have e : grpErr d l i = 8 := by unfold grpErr; rw [if_pos h0]
   simp only [chkFrom, e]
   refine Ev.step (f := fun _ => some 8) (fun k => ?_) (Ev.now _)
   simp only [code_Check.l0]
   rw [if_pos (by omega), if_pos (by omega), if_pos (by omega), if_pos (by omega)]
  ·refine Ev.step (f := fun k => code_Check.l1 k ((seenOf l i : Nat) : Int) 0 (rd_L1 l i) l (l.length : Int) (i : Int) (rd_L1 l i) ((rd_L1 l i).length : Int) ((0 : Nat) : Int) d l m) (fun k => ?_) ?_
   ·simp only [code_Check.l0]
    rw [if_pos (by omega), if_pos (by omega), if_pos (by omega), if_neg (by omega)]
    rfl
   ·refine ev_eq (cchk_l1 d hd l m hs i (by omega) hel (chkFrom d l (i + 1) n) (fun hall => ih (i + 1) (by omega) (fun h hh => ?_)) _ 0 (Nat.zero_add _) (fun t ht => absurd ht (Nat.not_lt_zero t))) ?_
    ·by_cases e : h = i
     ·subst e; exact hall
     ·exact hel h (by omega)
    ·have ge : grpErr d l i = if anyFrom (badEl d l i) 0 (rd_L1 l i).length = true then 1 else 0 := by unfold grpErr; rw [if_neg h0]
     by_cases e : anyFrom (badEl d l i) 0 (rd_L1 l i).length = true
     ·rw [if_pos e] at ge ⊢
      simp [chkFrom, ge]
     ·rw [if_neg e] at ge ⊢
      simp [chkFrom, ge]
theorem cchk_ev (d : Int) (l : List (List Int)) (m : Int) (hs : Small l) : Ev (fun k => code_Check.f k d l m) (chk d l m) := by
 have hsl := hs.1
 obtain ⟨b, hb⟩ : ∃ b, b = (decide (d < 1) || (decide (16 < d) || (decide (m < 0) || decide (4 < m)))) := ⟨_, rfl⟩
 refine Ev.congr (f := fun k => code_Check.j0 k b d l m) (fun k => ?_) ?_
 ·unfold code_Check.f
  by_cases c1 : d < 1
  ·rw [if_pos c1, hb]; simp [c1]
  rw [if_neg c1]
  by_cases c2 : 16 < d
  ·rw [if_pos c2, hb]; simp [c2]
  rw [if_neg c2]
  by_cases c3 : m < 0
  ·rw [if_pos c3, hb]; simp [c3]
  rw [if_neg c3, hb]
  simp [c1, c2, c3]
 ·unfold chk
  cases b with
  | true =>
   have : d < 1 ∨ 16 < d ∨ m < 0 ∨ 4 < m := by simpa using hb.symm
   rw [if_pos this]
   exact Ev.step (f := fun _ => some 3) (fun k => by simp only [code_Check.j0]; rfl) (Ev.now _)
  | false =>
   have h' : ¬ (d < 1 ∨ 16 < d ∨ m < 0 ∨ 4 < m) := by
    intro h
    have : (decide (d < 1) || (decide (16 < d) || (decide (m < 0) || decide (4 < m)))) = true := by simpa using h
    rw [← hb] at this; cases this
   rw [if_neg h']
   have hw : wrap64 (wrap64 (d + (l.length : Int)) + m) = d + l.length + m := by unfold wrap64; omega
   by_cases e : 24 < d + (l.length : Int) + m
   ·rw [if_pos e]
    refine Ev.step (f := fun k => code_Check.j1 k true d l m) (fun k => ?_) (Ev.step (f := fun _ => some 2) (fun k => by simp only [code_Check.j1]; rfl) (Ev.now _))
    simp only [code_Check.j0, hw, gt_iff_lt, e, decide_true, Bool.false_eq_true, if_false, ite_self]
   ·rw [if_neg e]
    refine Ev.step (f := fun k => code_Check.j1 k false d l m) (fun k => ?_) (Ev.step (f := fun k => code_Check.l0 k ((seenOf l 0 : Nat) : Int) 0 l (l.length : Int) ((0 : Nat) : Int) d l m) (fun k => by simp only [code_Check.j1]; rfl) (cchk_l0 d (by omega) l m hs _ 0 (Nat.zero_add _) (fun h hh => absurd hh (Nat.not_lt_zero h))))
    simp only [code_Check.j0, hw, gt_iff_lt, e, decide_false, Bool.false_eq_true, if_false]
    rw [if_neg (by omega)]
/-! what a code without an error is like -/
theorem chkFrom_elems {d : Int} {l : List (List Int)} : ∀ n i, chkFrom d l i n = 0 → ∀ h : Nat, i ≤ h → h < i + n → grpErr d l h = 0 := by
 intro n
 induction n with
 | zero => intro i _ h h1 h2; omega
 | succ n ih =>
  intro i hc h h1 h2
  simp only [chkFrom] at hc
  by_cases e : grpErr d l i = 0
  ·rw [if_pos e] at hc
   by_cases e2 : h = i
   ·subst e2; exact e
   ·exact ih (i + 1) hc h (by omega) (by omega)
  ·rw [if_neg e] at hc
   exact absurd hc e
theorem grp_ok {d : Int} {l : List (List Int)} {gi : Nat} (h : grpErr d l gi = 0) : 0 < (rd_L1 l gi).length ∧ ∀ j : Nat, j < (rd_L1 l gi).length → badEl d l gi j = false := by
 unfold grpErr at h
 by_cases e : (rd_L1 l gi).length = 0
 ·rw [if_pos e] at h; cases h
 ·rw [if_neg e] at h
  refine ⟨by omega, fun j hj => ?_⟩
  have : anyFrom (badEl d l gi) 0 (rd_L1 l gi).length = false := by
   cases hc : anyFrom (badEl d l gi) 0 (rd_L1 l gi).length
   ·rfl
   ·rw [hc] at h; cases h
  exact anyFrom_false this j (Nat.zero_le _) (by omega)
structure CodeOk (d : Int) (l : List (List Int)) (m : Int) : Prop where
 d1 : 1 ≤ d
 d2 : d ≤ 16
 m1 : 0 ≤ m
 m2 : m ≤ 4
 sum : d + l.length + m ≤ 24
 grp : ∀ h : Nat, h < l.length → 0 < (rd_L1 l h).length ∧ ∀ j : Nat, j < (rd_L1 l h).length → badEl d l h j = false
theorem chk_ok {d : Int} {l : List (List Int)} {m : Int} (h : chk d l m = 0) : CodeOk d l m := by
 unfold chk at h
 by_cases c1 : d < 1 ∨ 16 < d ∨ m < 0 ∨ 4 < m
 ·rw [if_pos c1] at h; cases h
 rw [if_neg c1] at h
 by_cases c2 : 24 < d + (l.length : Int) + m
 ·rw [if_pos c2] at h; cases h
 rw [if_neg c2] at h
 exact ⟨by omega, by omega, by omega, by omega, by omega, fun g hg => grp_ok (chkFrom_elems _ _ h g (Nat.zero_le _) (by omega))⟩
theorem CodeOk.elems {d : Int} {l : List (List Int)} {m : Int} (h : CodeOk d l m) : Elems d l l.length := by
 intro g hg x hx
 obtain ⟨t, ht, rfl⟩ := List.mem_iff_getElem.1 hx
 have := (h.grp g hg).2 t ht
 unfold badEl at this
 simp only [Bool.or_eq_false_iff, decide_eq_false_iff_not, rdi ht] at this
 omega
/-! Pieces, Size, Few -/
def piecesOf (d : Int) (l : List (List Int)) (m : Int) : Int := if chk d l m = 0 then d + l.length + m else 0
theorem cpieces_ev (d : Int) (l : List (List Int)) (m : Int) (hs : Small l) : Ev (fun k => code_Pieces.f k d l m) (piecesOf d l m) := by
 unfold piecesOf
 refine Ev.congr (f := fun k => (code_Check.f k d l m).bind fun t => if t = 0 then some (wrap64 (wrap64 (d + (l.length : Int)) + m)) else some 0) (fun k => rfl) (Ev.bind (cchk_ev d l m hs) ?_)
 by_cases e : chk d l m = 0
 ·have := chk_ok e
  have h1 := this.d1; have h2 := this.d2; have h3 := this.m1; have h4 := this.m2; have h5 := this.sum
  simp only [e, if_true]
  have hw : wrap64 (wrap64 (d + (l.length : Int)) + m) = d + l.length + m := by unfold wrap64; omega
  rw [hw]
  exact Ev.now _
 ·simp only [e, if_false]
  exact Ev.now _
theorem rpieces_ev (d : Int) (l : List (List Int)) (m : Int) (hs : Small l) : Ev (fun k => quietusref07_Pieces.f k d l m) (piecesOf d l m) := by
 unfold piecesOf
 refine Ev.congr (f := fun k => (quietusref07_Check.f k d l m).bind fun t => if t = 0 then some (wrap64 (wrap64 (d + (l.length : Int)) + m)) else some 0) (fun k => rfl) (Ev.bind (rchk_ev d l m hs) ?_)
 by_cases e : chk d l m = 0
 ·have := chk_ok e
  have h1 := this.d1; have h2 := this.d2; have h3 := this.m1; have h4 := this.m2; have h5 := this.sum
  simp only [e, if_true]
  have hw : wrap64 (wrap64 (d + (l.length : Int)) + m) = d + l.length + m := by unfold wrap64; omega
  rw [hw]
  exact Ev.now _
 ·simp only [e, if_false]
  exact Ev.now _
def sizeOf (d : Int) (l : List (List Int)) (m n : Int) : Int := if chk d l m = 0 ∧ 0 ≤ n ∧ n ≤ 4096 then (n + d - 1) / d else 0
end Go.Proofs.YtkadfidmfnpohaaDoor.XB

namespace Go.Proofs.YtkadfidmfnpohaaDoor.XB
open Go.RowKit Go.Proofs.YtkadfidmfnpohaaDoorW.PrintWords Go.Proofs.YtkadfidmfnpohaaDoorW.PrintLast Go.Proofs.YtkadfidmfnpohaaDoorW.PrintMore
set_option linter.unusedVariables false
set_option linter.unusedSimpArgs false
theorem i64_xor (a b : Nat) (ha : a < 2 ^ 63) (hb : b < 2 ^ 63) : Go.bits .xor .i64 (a : Int) (b : Int) = ((a ^^^ b : Nat) : Int) := by
 show IntKind.i64.wrap ((BitVec.ofInt 64 (a : Int) ^^^ BitVec.ofInt 64 (b : Int)).toNat : Int) = _
 rw [BitVec.toNat_xor, BitVec.ofInt_natCast, BitVec.ofInt_natCast, BitVec.toNat_ofNat, BitVec.toNat_ofNat, Nat.mod_eq_of_lt (by omega), Nat.mod_eq_of_lt (by omega)]
 have := Nat.xor_lt_two_pow ha hb
 exact wraps_i64 _ (by omega) (by exact_mod_cast this)
/-! the reference's product -/
theorem mulN_step {a b : Nat} (hb : b < 256) : QGF.mulN a b = QGF.pick b 0 a ^^^ QGF.mulN (QGF.xtN a) (b / 2) := by
 have hp : ∀ k x, QGF.pick (b / 2) k x = QGF.pick b (k + 1) x := by
  intro k x
  unfold QGF.pick
  rw [Nat.shiftRight_eq_div_pow, Nat.shiftRight_eq_div_pow, Nat.div_div_eq_div_mul, Nat.pow_succ, Nat.mul_comm (2 ^ k) 2]
 have h8 : ∀ x, QGF.pick b 8 x = 0 := by
  intro x
  unfold QGF.pick
  rw [Nat.shiftRight_eq_div_pow, Nat.div_eq_of_lt (by omega)]
  simp
 unfold QGF.mulN
 simp only [hp, h8, Nat.xor_zero]
theorem rmul_from : ∀ (n b : Nat), b < 2 ^ n → b < 256 → ∀ a x : Nat, a < 256 → x < 256 → Ev (fun k => quietusref04_Mul.l0 k (a : Int) (b : Int) (x : Int)) ((x ^^^ QGF.mulN a b : Nat) : Int) := by
 intro n
 induction n with
 | zero =>
  intro b hb _ a x ha hx
  obtain rfl : b = 0 := by simpa using hb
  refine Ev.step (f := fun _ => some (((x ^^^ QGF.mulN a 0 : Nat) : Int))) (fun k => ?_) (Ev.now _)
  simp only [quietusref04_Mul.l0]
  rw [if_neg (by omega), QGF.mul_zero, Nat.xor_zero]
  congr 1
  omega
 | succ n ih =>
  intro b hb hb2 a x ha hx
  by_cases h0 : b = 0
  ·subst h0
   refine Ev.step (f := fun _ => some (((x ^^^ QGF.mulN a 0 : Nat) : Int))) (fun k => ?_) (Ev.now _)
   simp only [quietusref04_Mul.l0]
   rw [if_neg (by omega), QGF.mul_zero, Nat.xor_zero]
   congr 1
   omega
  ·have hp : (2 : Nat) ^ (n + 1) = 2 * 2 ^ n := by rw [Nat.pow_succ, Nat.mul_comm]
   have hxt : (if wrap64 (2 * (a : Int)) > 255 then Go.bits .xor .i64 (wrap64 (2 * (a : Int))) 285 else wrap64 (2 * (a : Int))) = ((QGF.xtN a : Nat) : Int) := by
    have e : wrap64 (2 * (a : Int)) = ((2 * a : Nat) : Int) := by unfold wrap64; omega
    rw [e]
    unfold QGF.xtN
    by_cases c : 128 ≤ a
    ·rw [if_pos (by omega), show a / 128 = 1 by omega]
     exact i64_xor (2 * a) 285 (by omega) (by decide)
    ·rw [if_neg (by omega), show a / 128 = 0 by omega]
     simp
   have h2 : wrap64 (Int.tdiv (b : Int) 2) = ((b / 2 : Nat) : Int) := by
    rw [Int.tdiv_eq_ediv_of_nonneg (by omega)]
    unfold wrap64; omega
   have hm : Int.tmod (b : Int) 2 = ((b % 2 : Nat) : Int) := by
    rw [Int.tmod_eq_emod_of_nonneg (by omega)]; omega
   have hxa := i64_xor x a (by omega) (by omega)
   refine Ev.step (f := fun k => quietusref04_Mul.l0 k ((QGF.xtN a : Nat) : Int) ((b / 2 : Nat) : Int) ((x ^^^ QGF.pick b 0 a : Nat) : Int)) (fun k => ?_) (ev_eq (ih (b / 2) (by omega) (by omega) (QGF.xtN a) (x ^^^ QGF.pick b 0 a) (QGF.xt_lt ha) (QGF.xor_lt hx (QGF.pick_lt ha))) ?_)
   ·simp only [quietusref04_Mul.l0]
    rw [if_pos (by omega), hm, h2, hxa]
    have hpk : QGF.pick b 0 a = b % 2 * a := by unfold QGF.pick; simp
    rcases Nat.mod_two_eq_zero_or_one b with e | e
    ·rw [e, if_neg (by decide), hpk, e, Nat.zero_mul, Nat.xor_zero, ← hxt]
     split <;> rfl
    ·rw [e, if_pos (by decide), hpk, e, Nat.one_mul, ← hxt]
     split <;> rfl
   ·rw [mulN_step hb2, Nat.xor_assoc]
theorem rmul_ev {a b : Int} (ha : isB a = true) (hb : isB b = true) : Ev (fun k => quietusref04_Mul.f k a b) (imul a b) := by
 rw [isB_iff] at ha hb
 obtain ⟨m, rfl⟩ := Int.eq_ofNat_of_zero_le ha.1
 obtain ⟨n, rfl⟩ := Int.eq_ofNat_of_zero_le hb.1
 refine Ev.congr (f := fun k => quietusref04_Mul.l0 k (m : Int) (n : Int) ((0 : Nat) : Int)) (fun k => ?_) (ev_eq (rmul_from 8 n (by omega) (by omega) m 0 (by omega) (by decide)) ?_)
 ·unfold quietusref04_Mul.f
  rw [wrap_nat (by omega), wrap_nat (by omega)]
  rfl
 ·unfold imul
  rw [Nat.zero_xor, Int.toNat_natCast, Int.toNat_natCast]
/-! powers of 2 -/
theorem rexp_from (n : Nat) (hn : n < 2 ^ 62) : ∀ j i : Nat, i + j = n % 255 → Ev (fun k => quietusref04_Exp.l0 k (n : Int) ((QGF.xtp i 1 : Nat) : Int) (i : Int)) ((QGF.xtp (n % 255) 1 : Nat) : Int) := by
 have he : quietusref04_exponent.f (n : Int) = some ((n % 255 : Nat) : Int) := by
  unfold quietusref04_exponent.f
  rw [Int.tmod_eq_emod_of_nonneg (show (0 : Int) ≤ (n : Int) by omega)]
  have e : wrap64 ((n : Int) % 255 + 255) = ((n % 255 + 255 : Nat) : Int) := by unfold wrap64; omega
  rw [e, Int.tmod_eq_emod_of_nonneg (by omega)]
  congr 1
  omega
 intro j
 induction j with
 | zero =>
  intro i hi
  refine Ev.step (f := fun _ => some ((QGF.xtp (n % 255) 1 : Nat) : Int)) (fun k => ?_) (Ev.now _)
  simp only [quietusref04_Exp.l0, he, Option.bind_some]
  rw [if_neg (by omega), show i = n % 255 by omega]
 | succ j ih =>
  intro i hi
  have hb := rmul_ev (isB_nat (QGF.xtp_lt (a := 1) (by decide) i)) (show isB 2 = true by decide)
  refine Ev.step (f := fun k => (quietusref04_Mul.f k ((QGF.xtp i 1 : Nat) : Int) 2).bind fun t => quietusref04_Exp.l0 k (n : Int) t ((i + 1 : Nat) : Int)) (fun k => ?_) (Ev.bind hb ?_)
  ·simp only [quietusref04_Exp.l0, he, Option.bind_some]
   rw [if_pos (by omega), wrap_succ (by omega)]
  ·have e : imul ((QGF.xtp i 1 : Nat) : Int) 2 = ((QGF.xtp (i + 1) 1 : Nat) : Int) := by
    show ((QGF.mulN (QGF.xtp i 1) (QGF.xtp 1 1) : Nat) : Int) = _
    rw [QGF.mul_pow (QGF.xtp_lt (by decide) i), ← QGF.xtp_add]
   rw [e]
   exact ih (i + 1) (by omega)
theorem rexp_ev (n : Nat) (hn : n < 2 ^ 62) : Ev (fun k => quietusref04_Exp.f k (n : Int)) ((QGF.xtp n 1 : Nat) : Int) := by
 rw [QGF.xtp_mod n]
 exact rexp_from n hn _ 0 (Nat.zero_add _)
/-! a row of the reference -/
def elAt (D : Nat) (l : List (List Int)) (t i : Nat) : Int := if t < D then unitAt t i else if t < D + l.length then setAt (setOf (rd_L1 l ((t - D : Nat) : Int))) i else expAt (t - D - l.length) i
def rowAt (D : Nat) (l : List (List Int)) (t : Nat) : List Int := (List.range D).map (elAt D l t)
theorem setAt_has {g : List Int} (h : ∀ x ∈ g, 0 ≤ x ∧ x < 16) (i : Nat) : setAt (setOf g) i = if (i : Int) ∈ g then 1 else 0 := by
 have e : (setOf g).testBit i = g.any (fun x => x.toNat == i) := by
  have := orAll_bit g i 0
  rwa [Nat.zero_testBit, Bool.false_or] at this
 have hm : (g.any (fun x => x.toNat == i) = true) ↔ (i : Int) ∈ g := by
  rw [List.any_eq_true]
  constructor
  ·rintro ⟨x, hx, hz⟩
   have := (h x hx).1
   have hz : x.toNat = i := by simpa using hz
   rwa [show (i : Int) = x by omega]
  ·intro hx
   exact ⟨_, hx, by simp⟩
 unfold setAt
 rw [Nat.testBit_eq_decide_div_mod_eq, ← Nat.shiftRight_eq_div_pow] at e
 by_cases c : (i : Int) ∈ g
 ·rw [if_pos c]
  rw [hm.2 c, decide_eq_true_eq] at e
  rw [e]; rfl
 ·rw [if_neg c]
  have hf : g.any (fun x => x.toNat == i) = false := by
   cases hc : g.any (fun x => x.toNat == i)
   ·rfl
   ·exact absurd (hm.1 hc) c
  rw [hf, decide_eq_false_iff_not] at e
  have : setOf g >>> i % 2 = 0 := by omega
  rw [this]; rfl
theorem rrow_from (D : Nat) (l : List (List Int)) (m : Int) (hs : Small l) (hD : D ≤ 16) (hsum : l.length ≤ 24) (hel : Elems D l l.length) (t : Nat) (ht : t < 30) :
  ∀ n i, i + n = D → Ev (fun k => quietusref07_row.l0 k (t : Int) ((List.range i).map (elAt D l t)) (i : Int) (D : Int) l m) (rowAt D l t) := by
 intro n
 induction n with
 | zero =>
  intro i hi
  refine Ev.step (f := fun _ => some (rowAt D l t)) (fun k => ?_) (Ev.now _)
  simp only [quietusref07_row.l0]
  rw [if_neg (by omega), show i = D by omega]
  rfl
 | succ n ih =>
  intro i hi
  have hnx := ih (i + 1) (by omega)
  have hsnoc : (List.range (i + 1)).map (elAt D l t) = (List.range i).map (elAt D l t) ++ [elAt D l t i] := by rw [List.range_succ, List.map_append]; rfl
  rw [hsnoc] at hnx
  have hlen : ((List.range i).map (elAt D l t)).length < 140737488355328 := by simp; omega
  by_cases c1 : t < D
  ·refine Ev.step (f := fun k => quietusref07_row.l0 k (t : Int) ((List.range i).map (elAt D l t) ++ [elAt D l t i]) ((i + 1 : Nat) : Int) (D : Int) l m) (fun k => ?_) hnx
   simp only [quietusref07_row.l0]
   rw [if_pos (by omega), if_pos (by omega), if_pos hlen, if_pos hlen, wrap_succ (by omega)]
   unfold elAt unitAt
   rw [if_pos c1]
   by_cases e : i = t
   ·rw [if_pos (by omega), if_pos e]
   ·rw [if_neg (by omega), if_neg e]
  ·have hw1 : wrap64 ((D : Int) + (l.length : Int)) = ((D + l.length : Nat) : Int) := by unfold wrap64; omega
   have hw2 : wrap64 ((t : Int) - (D : Int)) = ((t - D : Nat) : Int) := by unfold wrap64; omega
   by_cases c2 : t < D + l.length
   ·have hg := hel (t - D) (by omega)
    have hhas := has_ev (rd_L1 l ((t - D : Nat) : Int)) (i : Int) (hs.2 _)
    have hset := setAt_has (g := rd_L1 l ((t - D : Nat) : Int)) (fun x hx => by have := hg x hx; omega) i
    have hea : elAt D l t i = if (i : Int) ∈ rd_L1 l ((t - D : Nat) : Int) then 1 else 0 := by
     unfold elAt
     rw [if_neg c1, if_pos c2, hset]
    refine Ev.step (f := fun k => (quietusref07_Has.f k (rd_L1 l ((t - D : Nat) : Int)) (i : Int)).bind fun b => if b = true then quietusref07_row.l0 k (t : Int) ((List.range i).map (elAt D l t) ++ [1]) ((i + 1 : Nat) : Int) (D : Int) l m else quietusref07_row.l0 k (t : Int) ((List.range i).map (elAt D l t) ++ [0]) ((i + 1 : Nat) : Int) (D : Int) l m) (fun k => ?_) (Ev.bind hhas ?_)
    ·simp only [quietusref07_row.l0]
     rw [if_pos (by omega), if_neg (by omega), hw1, if_pos (by omega), hw2, if_pos (by omega), if_pos (by omega), if_pos hlen, if_pos hlen, wrap_succ (by omega)]
    ·rw [hea] at hnx
     by_cases e : (i : Int) ∈ rd_L1 l ((t - D : Nat) : Int)
     ·simp only [e, decide_true, if_true] at hnx ⊢
      exact hnx
     ·simp only [e, decide_false, if_false, Bool.false_eq_true] at hnx ⊢
      exact hnx
   ·have hw3 : wrap64 (wrap64 (((t - D : Nat) : Int) - (l.length : Int)) + 1) = ((t - D - l.length + 1 : Nat) : Int) := by unfold wrap64; omega
    have hmul : i * (t - D - l.length + 1) ≤ 16 * 31 := Nat.mul_le_mul (by omega) (by omega)
    have hw4 : wrap64 ((i : Int) * ((t - D - l.length + 1 : Nat) : Int)) = ((i * (t - D - l.length + 1) : Nat) : Int) := by
     rw [show (i : Int) * ((t - D - l.length + 1 : Nat) : Int) = ((i * (t - D - l.length + 1) : Nat) : Int) by simp]
     exact wrap_nat (by omega)
    refine Ev.step (f := fun k => (quietusref04_Exp.f k ((i * (t - D - l.length + 1) : Nat) : Int)).bind fun z => quietusref07_row.l0 k (t : Int) ((List.range i).map (elAt D l t) ++ [z]) ((i + 1 : Nat) : Int) (D : Int) l m) (fun k => ?_) (Ev.bind (rexp_ev (i * (t - D - l.length + 1)) (Nat.lt_of_le_of_lt hmul (by decide))) ?_)
    ·simp only [quietusref07_row.l0]
     rw [if_pos (by omega), if_neg (by omega), hw1, if_neg (by omega), hw2, hw3, hw4]
     simp only [if_pos hlen]
     rw [wrap_succ (by omega)]
    ·have hea : elAt D l t i = ((QGF.xtp (i * (t - D - l.length + 1)) 1 : Nat) : Int) := by
      unfold elAt
      rw [if_neg c1, if_neg c2]
      rfl
     rw [hea] at hnx
     exact hnx
theorem rrow_ev (D : Nat) (l : List (List Int)) (m : Int) (hs : Small l) (hD : D ≤ 16) (hsum : l.length ≤ 24) (hel : Elems D l l.length) (t : Nat) (ht : t < 30) : Ev (fun k => quietusref07_row.f k (D : Int) l m (t : Int)) (rowAt D l t) :=
 Ev.congr (f := fun k => quietusref07_row.l0 k (t : Int) ((List.range 0).map (elAt D l t)) ((0 : Nat) : Int) (D : Int) l m) (fun k => by unfold quietusref07_row.f; rfl) (rrow_from D l m hs hD hsum hel t ht D 0 (Nat.zero_add _))
/-! all rows -/
theorem rowsOf_eq (D : Nat) (l : List (List Int)) (M : Nat) : rowsOf D l M = (List.range (D + l.length + M)).map (rowAt D l) := by
 unfold rowsOf unitRows groupRows expRows
 rw [List.take_length]
 apply List.ext_getElem?
 intro i
 by_cases c1 : i < D
 ·rw [List.append_assoc, List.getElem?_append_left (by simpa using c1), List.getElem?_map, List.getElem?_map, List.getElem?_range c1, List.getElem?_range (by omega)]
  simp only [Option.map_some]
  congr 1
  unfold unitRow rowAt
  apply List.map_congr_left
  intro j _
  unfold elAt
  rw [if_pos c1]
 ·by_cases c2 : i < D + l.length
  ·rw [List.append_assoc, List.getElem?_append_right (by simp; omega), List.getElem?_append_left (by simp; omega), List.getElem?_map, List.getElem?_map, List.getElem?_range (by omega)]
   simp only [List.length_map, List.length_range, Option.map_some]
   rw [List.getElem?_eq_getElem (by omega)]
   simp only [Option.map_some]
   congr 1
   unfold groupRow rowAt
   apply List.map_congr_left
   intro j _
   unfold elAt
   rw [if_neg c1, if_pos c2]
   have : rd_L1 l ((i - D : Nat) : Int) = l[i - D]'(by omega) := by simp [rd_L1, List.getD_eq_getElem?_getD, List.getElem?_eq_getElem (show i - D < l.length by omega)]
   rw [this]
  ·have hL : ((List.range D).map (unitRow D) ++ l.map (groupRow D)).length = D + l.length := by simp
   by_cases c3 : i < D + l.length + M
   ·rw [List.getElem?_append_right (by omega), hL, List.getElem?_map, List.getElem?_range (show i - (D + l.length) < M by omega), List.getElem?_map, List.getElem?_range c3]
    simp only [Option.map_some]
    congr 1
    unfold expRow rowAt
    apply List.map_congr_left
    intro j _
    unfold elAt
    rw [if_neg c1, if_neg c2, Nat.sub_add_eq]
   ·rw [List.getElem?_eq_none (by simp; omega), List.getElem?_eq_none (by simp; omega)]
theorem okCode_of {D : Nat} {l : List (List Int)} {M : Nat} (h : CodeOk (D : Int) l (M : Int)) : okCode (D : Int) l (M : Int) = true := by
 have h1 := h.d1; have h2 := h.d2; have h3 := h.m2; have h4 := h.sum; have h5 := h.elems
 simp only [okCode, Bool.and_eq_true, decide_eq_true_eq, List.all_eq_true]
 refine ⟨⟨⟨⟨⟨h1, h2⟩, by omega⟩, h3⟩, by omega⟩, fun g hg x hx => ?_⟩
 obtain ⟨t, ht, rfl⟩ := List.mem_iff_getElem.1 hg
 have e : rd_L1 l (t : Nat) = l[t] := by simp [rd_L1, List.getD_eq_getElem?_getD, List.getElem?_eq_getElem ht]
 have := h5 t ht x (by rw [e]; exact hx)
 omega
theorem CodeOk.nats {d : Int} {l : List (List Int)} {m : Int} (h : CodeOk d l m) : ∃ D M : Nat, d = D ∧ m = M := by
 have h1 := h.d1; have h3 := h.m1
 exact ⟨d.toNat, m.toNat, by omega, by omega⟩
/-- The rows of a code; none with an error. -/
def rowsFor (d : Int) (l : List (List Int)) (m : Int) : List (List Int) := if chk d l m = 0 then rowsOf d.toNat l m.toNat else []
theorem crows_ev (d : Int) (l : List (List Int)) (m : Int) (hs : Small l) : Ev (fun k => code_Rows.f k d l m) (rowsFor d l m, chk d l m) := by
 unfold rowsFor
 refine Ev.congr (f := fun k => (code_Check.f k d l m).bind fun e => if e = 0 then (if okCode d l m = true then some (rowsOf d.toNat l m.toNat, 0) else none) else some ([], e)) (fun k => rfl) (Ev.bind (cchk_ev d l m hs) ?_)
 by_cases e : chk d l m = 0
 ·have hok := chk_ok e
  obtain ⟨D, M, rfl, rfl⟩ := hok.nats
  simp only [e, if_true, okCode_of hok]
  exact Ev.now _
 ·simp only [e, if_false]
  exact Ev.now _
set_option linter.unusedSimpArgs false
theorem snoc_map {α : Type} (f : Nat → α) (i : Nat) : (List.range (i + 1)).map f = (List.range i).map f ++ [f i] := by rw [List.range_succ, List.map_append]; rfl
/-! Scale and Sum of the reference -/
/-! Combine of the reference -/
theorem all_map_isB {n : Nat} {f : Nat → Int} (h : ∀ i, i < n → isB (f i) = true) : ∀ x ∈ (List.range n).map f, isB x = true := by
 intro x hx
 obtain ⟨i, hi, rfl⟩ := List.mem_map.1 hx
 exact h i (List.mem_range.1 hi)
theorem ixor_zero {x : Int} (h : isB x = true) : ixor 0 x = x := by
 rw [isB_iff] at h
 unfold ixor
 rw [Int.toNat_zero, Nat.zero_xor]
 omega
/-! parts -/
theorem rowAt_length (D : Nat) (l : List (List Int)) (t : Nat) : (rowAt D l t).length = D := by simp [rowAt]
theorem elAt_isB (D : Nat) (l : List (List Int)) (t i : Nat) : isB (elAt D l t i) = true := by
 unfold elAt
 split
 ·unfold unitAt; split <;> decide
 ·split
  ·unfold setAt; exact isB_nat (by omega)
  ·unfold expAt; exact isB_nat (QGF.xtp_lt (by decide) _)
theorem rowAt_isB (D : Nat) (l : List (List Int)) (t : Nat) : (rowAt D l t).all isB = true := by
 rw [List.all_eq_true]
 exact all_map_isB (fun i _ => elAt_isB D l t i)
/-! the same lists -/
/-! the law -/
set_option linter.unusedSimpArgs false
theorem isB_ex {a : Int} (h : isB a = true) : ∃ m : Nat, a = (m : Int) ∧ m < 256 := by
  rw [isB_iff] at h
  exact ⟨a.toNat, by omega, by omega⟩
theorem ixor_comm (a b : Int) : ixor a b = ixor b a := by unfold ixor; rw [Nat.xor_comm]
theorem ixor_assoc (a b c : Int) : ixor (ixor a b) c = ixor a (ixor b c) := by unfold ixor; rw [Int.toNat_natCast, Int.toNat_natCast, Nat.xor_assoc]
theorem ixor_self (a : Int) : ixor a a = 0 := by unfold ixor; rw [Nat.xor_self]; rfl
theorem ixor_zero_right {a : Int} (h : isB a = true) : ixor a 0 = a := by rw [ixor_comm]; exact ixor_zero h
theorem ixor_four (a b c d : Int) : ixor (ixor a b) (ixor c d) = ixor (ixor a c) (ixor b d) := by
  rw [ixor_assoc, ixor_assoc, ← ixor_assoc b c d, ixor_comm b c, ixor_assoc c b d]
theorem imul_zero_right (a : Int) : imul a 0 = 0 := by unfold imul; rw [Int.toNat_zero, QGF.mul_zero]; rfl
theorem imul_zero_left {a : Int} (h : isB a = true) : imul 0 a = 0 := by
  obtain ⟨m, rfl, hm⟩ := isB_ex h
  unfold imul; rw [Int.toNat_zero, Int.toNat_natCast, QGF.zero_mul hm]; rfl
theorem imul_one_left {a : Int} (h : isB a = true) : imul 1 a = a := by
  obtain ⟨m, rfl, hm⟩ := isB_ex h
  show ((QGF.mulN 1 m : Nat) : Int) = _
  rw [QGF.one_mul hm]
theorem imul_comm {a b : Int} (ha : isB a = true) (hb : isB b = true) : imul a b = imul b a := by
  obtain ⟨m, rfl, hm⟩ := isB_ex ha
  obtain ⟨n, rfl, hn⟩ := isB_ex hb
  show ((QGF.mulN m n : Nat) : Int) = ((QGF.mulN n m : Nat) : Int)
  rw [QGF.mul_comm hm hn]
theorem imul_assoc {a b c : Int} (ha : isB a = true) (hb : isB b = true) (hc : isB c = true) : imul (imul a b) c = imul a (imul b c) := by
  obtain ⟨m, rfl, hm⟩ := isB_ex ha
  obtain ⟨n, rfl, hn⟩ := isB_ex hb
  obtain ⟨o, rfl, ho⟩ := isB_ex hc
  show ((QGF.mulN (QGF.mulN m n) o : Nat) : Int) = ((QGF.mulN m (QGF.mulN n o) : Nat) : Int)
  rw [QGF.mul_assoc hm hn ho]
theorem imul_xor (a b c : Int) : imul a (ixor b c) = ixor (imul a b) (imul a c) := by
  show ((QGF.mulN a.toNat (b.toNat ^^^ c.toNat) : Nat) : Int) = ((QGF.mulN a.toNat b.toNat ^^^ QGF.mulN a.toNat c.toNat : Nat) : Int)
  rw [QGF.mul_xor]
theorem xor_imul {a b c : Int} (ha : isB a = true) (hb : isB b = true) (hc : isB c = true) : imul (ixor a b) c = ixor (imul a c) (imul b c) := by
  rw [imul_comm (isB_xor ha hb) hc, imul_xor, imul_comm hc ha, imul_comm hc hb]
theorem imul_eq_zero {a b : Int} (ha : isB a = true) (hb : isB b = true) (h : imul a b = 0) : a = 0 ∨ b = 0 := by
  obtain ⟨m, rfl, hm⟩ := isB_ex ha
  obtain ⟨n, rfl, hn⟩ := isB_ex hb
  have h : ((QGF.mulN m n : Nat) : Int) = 0 := h
  rcases QGF.mul_eq_zero hm hn (by omega) with e | e
  · exact .inl (by omega)
  · exact .inr (by omega)
theorem imul_inv {a : Int} (ha : isB a = true) (h0 : a ≠ 0) : imul (iinv a) a = 1 := by
  obtain ⟨m, rfl, hm⟩ := isB_ex ha
  show ((QGF.mulN (QGF.invN m) m : Nat) : Int) = 1
  rw [QGF.mul_comm QGF.inv_lt hm, QGF.mul_inv hm (by omega)]
  rfl
/-! rows and vectors -/
abbrev Vec := Nat → Int
def IsV (x : Vec) : Prop := ∀ i, isB (x i) = true
def dotU (r : List Int) (x : Vec) : Nat → Int
  | 0 => 0
  | i + 1 => ixor (dotU r x i) (imul (rd r (i : Int)) (x i))
def RowB (w : Nat) (r : List Int) : Prop := r.all isB = true ∧ r.length = w
theorem RowB.at {w : Nat} {r : List Int} (h : RowB w r) {i : Nat} (hi : i < w) : isB (rd r (i : Int)) = true := isB_rd h.1 i (by rw [h.2]; exact hi)
theorem dotU_isB {w : Nat} {r : List Int} {x : Vec} (hr : RowB w r) : ∀ i, i ≤ w → isB (dotU r x i) = true
  | 0, _ => rfl
  | i + 1, h => isB_xor (dotU_isB hr i (by omega)) (isB_mul _ (hr.at (by omega)))
theorem dotU_congr {r : List Int} {x y : Vec} : ∀ i, (∀ j, j < i → x j = y j) → dotU r x i = dotU r y i
  | 0, _ => rfl
  | i + 1, h => by
    show ixor (dotU r x i) _ = ixor (dotU r y i) _
    rw [dotU_congr i (fun j hj => h j (by omega)), h i (Nat.lt_succ_self i)]
theorem dotU_sub {w : Nat} {f : Int} {x r : List Int} {v : Vec} (hf : isB f = true) (hr : RowB w r) (hx : RowB w x) (hv : IsV v) : ∀ i, i ≤ w → dotU (subRow f x r) v i = ixor (dotU r v i) (imul f (dotU x v i))
  | 0, _ => by show (0 : Int) = ixor 0 (imul f 0); rw [imul_zero_right]; rfl
  | i + 1, h => by
    have e : rd (subRow f x r) (i : Int) = ixor (rd r (i : Int)) (imul f (rd x (i : Int))) := by
      have hl : i < (subRow f x r).length := by rw [subRow_length, hr.2]; omega
      rw [rdi hl]
      simp [subRow]
    show ixor (dotU (subRow f x r) v i) (imul (rd (subRow f x r) (i : Int)) (v i)) = ixor (ixor (dotU r v i) (imul (rd r (i : Int)) (v i))) (imul f (ixor (dotU x v i) (imul (rd x (i : Int)) (v i))))
    rw [dotU_sub hf hr hx hv i (by omega), e, xor_imul (hr.at (by omega)) (isB_mul _ hf) (hv i), imul_xor, imul_assoc hf (hx.at (by omega)) (hv i), ixor_four]
theorem dotU_mul {w : Nat} {c : Int} {r : List Int} {v : Vec} (hc : isB c = true) (hr : RowB w r) (hv : IsV v) : ∀ i, i ≤ w → dotU (mulRow c r) v i = imul c (dotU r v i)
  | 0, _ => by show (0 : Int) = imul c 0; rw [imul_zero_right]
  | i + 1, h => by
    have e : rd (mulRow c r) (i : Int) = imul c (rd r (i : Int)) := by
      have hl : i < (mulRow c r).length := by rw [mulRow_length, hr.2]; omega
      rw [rdi hl]
      simp [mulRow]
    show ixor (dotU (mulRow c r) v i) (imul (rd (mulRow c r) (i : Int)) (v i)) = imul c (ixor (dotU r v i) (imul (rd r (i : Int)) (v i)))
    rw [dotU_mul hc hr hv i (by omega), e, imul_xor, imul_assoc hc (hr.at (by omega)) (hv i)]
theorem dotU_add {w : Nat} {r : List Int} {u v : Vec} (hr : RowB w r) : ∀ i, i ≤ w → dotU r (fun j => ixor (u j) (v j)) i = ixor (dotU r u i) (dotU r v i)
  | 0, _ => (by show (0 : Int) = ixor 0 0; rfl)
  | i + 1, h => by
    show ixor (dotU r _ i) (imul (rd r (i : Int)) (ixor (u i) (v i))) = ixor (ixor (dotU r u i) (imul (rd r (i : Int)) (u i))) (ixor (dotU r v i) (imul (rd r (i : Int)) (v i)))
    rw [dotU_add hr i (by omega), imul_xor, ixor_four]
/-- What leads: all before it is 0. -/
theorem fst_zero (r : List Int) {i : Nat} (h : i < fstIdx r) : rd r (i : Int) = 0 := by
  have hl : i < r.length := Nat.lt_of_lt_of_le h (fstIdx_le r)
  rw [rdi hl]
  have := List.not_of_lt_findIdx h
  simpa using this
theorem fst_ne (r : List Int) (h : fstIdx r < r.length) : rd r ((fstIdx r : Nat) : Int) ≠ 0 := by
  rw [rdi h]
  have := List.findIdx_getElem (w := h) (p := fun x => x != 0) (xs := r)
  intro e
  have h2 : (r[fstIdx r] != 0) = true := this
  rw [e] at h2
  cases h2
theorem fst_of {r : List Int} {p : Nat} (hp : p < r.length) (h0 : ∀ i, i < p → rd r (i : Int) = 0) (h1 : rd r (p : Int) ≠ 0) : fstIdx r = p := by
  rcases Nat.lt_trichotomy (fstIdx r) p with h | h | h
  · exact absurd (h0 _ h) (fst_ne r (by omega))
  · exact h
  · exact absurd (fst_zero r h) h1
theorem dotU_below {w : Nat} {r : List Int} {v : Vec} (hr : RowB w r) (hv : IsV v) {p : Nat} (h0 : ∀ i, i < p → rd r (i : Int) = 0) : ∀ i, i ≤ p → dotU r v i = 0
  | 0, _ => rfl
  | i + 1, h => by
    show ixor (dotU r v i) _ = 0
    rw [dotU_below hr hv h0 i (by omega), h0 i (by omega), imul_zero_left (hv i)]
    rfl
theorem dotU_zeros {r : List Int} {v : Vec} {p : Nat} : ∀ i, p ≤ i → (∀ j, p ≤ j → j < i → v j = 0) → isB (dotU r v p) = true → dotU r v i = dotU r v p
  | 0, h, _, _ => by obtain rfl : p = 0 := by omega
                     rfl
  | i + 1, h, hz, hb => by
    by_cases e : p = i + 1
    · rw [e]
    · have ih := dotU_zeros i (by omega) (fun j h1 h2 => hz j h1 (by omega)) hb
      show ixor (dotU r v i) (imul _ (v i)) = _
      rw [ih, hz i (by omega) (by omega), imul_zero_right, ixor_zero_right hb]
/-- Rows that lead at different places. -/
structure Leads (w : Nat) (S : List (List Int)) : Prop where
  rows : ∀ r ∈ S, RowB w r ∧ fstIdx r < w
  apart : (S.map fstIdx).Nodup
def Ker (w : Nat) (S : List (List Int)) (v : Vec) : Prop := ∀ r ∈ S, dotU r v w = 0
/-- Only 0 is sent to 0 by all rows. -/
def Full (w : Nat) (S : List (List Int)) : Prop := ∀ v, IsV v → Ker w S v → ∀ i, i < w → v i = 0
theorem nodup_sub {α : Type} [DecidableEq α] : ∀ (a l : List α), a.Nodup → (∀ x ∈ a, x ∈ l) → a.length ≤ l.length
  | [], _, _, _ => Nat.zero_le _
  | x :: a, l, hn, hs => by
    have hn := List.nodup_cons.1 hn
    have hx := hs x List.mem_cons_self
    have := nodup_sub a (l.erase x) hn.2 (fun y hy => (List.mem_erase_of_ne (fun (e : y = x) => hn.1 (e ▸ hy))).2 (hs y (List.mem_cons_of_mem _ hy)))
    rw [List.length_erase_of_mem hx] at this
    have hp := List.length_pos_of_mem hx
    simp only [List.length_cons]
    omega
theorem nodup_inj {α β : Type} {f : α → β} : ∀ {S : List α}, (S.map f).Nodup → ∀ a ∈ S, ∀ b ∈ S, f a = f b → a = b
  | [], _, a, ha, _, _, _ => by cases ha
  | x :: S, hn, a, ha, b, hb, e => by
    rw [List.map_cons] at hn
    have hn := List.nodup_cons.1 hn
    rcases List.mem_cons.1 ha with h1 | h1
    · rcases List.mem_cons.1 hb with h2 | h2
      · rw [h1, h2]
      · exact absurd (h1 ▸ e ▸ List.mem_map_of_mem h2) hn.1
    · rcases List.mem_cons.1 hb with h2 | h2
      · exact absurd (h2 ▸ e ▸ List.mem_map_of_mem h1) hn.1
      · exact nodup_inj hn.2 a h1 b h2 e
theorem Leads.all {w : Nat} {S : List (List Int)} (h : Leads w S) (hl : S.length = w) {p : Nat} (hp : p < w) : ∃ r ∈ S, fstIdx r = p := by
  by_cases hm : p ∈ S.map fstIdx
  · obtain ⟨r, hr, e⟩ := List.mem_map.1 hm
    exact ⟨r, hr, e⟩
  · have := nodup_sub (p :: S.map fstIdx) (List.range w) (List.nodup_cons.2 ⟨hm, h.apart⟩) (fun q hq => by
      rcases List.mem_cons.1 hq with rfl | hq
      · exact List.mem_range.2 hp
      · obtain ⟨r, hr, rfl⟩ := List.mem_map.1 hq
        exact List.mem_range.2 (h.rows r hr).2)
    simp [hl] at this
    omega
theorem Leads.missing {w : Nat} {S : List (List Int)} (h : Leads w S) (hl : S.length < w) : ∃ p, p < w ∧ ∀ r ∈ S, fstIdx r ≠ p := by
  by_cases hc : ∃ p, p < w ∧ p ∉ S.map fstIdx
  · obtain ⟨p, hp, hn⟩ := hc
    exact ⟨p, hp, fun r hr e => hn (List.mem_map.2 ⟨r, hr, e⟩)⟩
  · have := nodup_sub (List.range w) (S.map fstIdx) List.nodup_range (fun p hp => by
      by_cases h3 : p ∈ S.map fstIdx
      · exact h3
      · exact absurd ⟨p, List.mem_range.1 hp, h3⟩ hc)
    simp at this
    omega
theorem Leads.full {w : Nat} {S : List (List Int)} (h : Leads w S) (hl : S.length = w) : Full w S := by
  intro v hv hk
  have key : ∀ n, n ≤ w → ∀ i, w - n ≤ i → i < w → v i = 0 := by
    intro n
    induction n with
    | zero => intro _ i h1 h2; omega
    | succ n ih =>
      intro hn i h1 h2
      by_cases e : i = w - (n + 1)
      · obtain ⟨r, hr, he⟩ := h.all hl h2
        obtain ⟨hb, hf⟩ := h.rows r hr
        have h3 := hk r hr
        have h4 := dotU_zeros (r := r) (v := v) (p := i + 1) w (by omega) (fun j h5 h6 => ih (by omega) j (by omega) h6) (dotU_isB hb (i + 1) (by omega))
        rw [h3] at h4
        have h5 : dotU r v (i + 1) = ixor (dotU r v i) (imul (rd r (i : Int)) (v i)) := rfl
        rw [dotU_below hb hv (p := i) (fun j hj => fst_zero r (by omega)) i (Nat.le_refl _), ixor_zero (isB_mul _ (hb.at h2)), ← h4] at h5
        rcases imul_eq_zero (hb.at h2) (hv i) h5.symm with h6 | h6
        · exact absurd h6 (by have := fst_ne r (by rw [hb.2]; omega); rw [he] at this; exact this)
        · exact h6
      · exact ih (by omega) i (by omega) h2
  exact fun i hi => key w (Nat.le_refl _) i (by omega) hi
/-- What is sent to 0 by rows that leave a place free. -/
theorem Leads.free {w : Nat} {S : List (List Int)} (h : Leads w S) {p : Nat} (hp : p < w) (hfree : ∀ r ∈ S, fstIdx r ≠ p) : ∃ v, IsV v ∧ Ker w S v ∧ v p = 1 := by
  -- from the last place down: the places from w - n on are told so that all rows that lead there are met
  have key : ∀ n, n ≤ w → ∃ v : Vec, IsV v ∧ (∀ r ∈ S, w - n ≤ fstIdx r → dotU r v w = 0) ∧ (w - n ≤ p → v p = 1) ∧ (∀ i, i < w - n → v i = 0) := by
    intro n
    induction n with
    | zero => exact fun _ => ⟨fun _ => 0, fun _ => rfl, fun r hr h1 => by have := (h.rows r hr).2; omega, fun h1 => by omega, fun _ _ => rfl⟩
    | succ n ih =>
      intro hn
      obtain ⟨v, hv, hk, h1, h0⟩ := ih (by omega)
      obtain ⟨q, hq⟩ : ∃ q, q = w - (n + 1) := ⟨_, rfl⟩
      have hqw : q < w := by omega
      -- the value at q
      have main : ∃ c : Int, isB c = true ∧ (q = p → c = 1) ∧ ∀ r ∈ S, fstIdx r = q → ixor (dotU r v w) (imul (rd r (q : Int)) c) = 0 := by
        by_cases e : q = p
        · exact ⟨1, rfl, fun _ => rfl, fun r hr he => absurd (he.trans e) (hfree r hr)⟩
        · by_cases hx : ∃ r ∈ S, fstIdx r = q
          · obtain ⟨r, hr, he⟩ := hx
            obtain ⟨hb, hf⟩ := h.rows r hr
            have hbq := hb.at hqw
            have hne : rd r (q : Int) ≠ 0 := by have := fst_ne r (by rw [hb.2]; omega); rwa [he] at this
            have hd := dotU_isB (x := v) hb w (Nat.le_refl _)
            refine ⟨imul (iinv (rd r (q : Int))) (dotU r v w), isB_mul _ (isB_inv _), fun h => absurd h e, fun r' hr' he' => ?_⟩
            have : r' = r := nodup_inj h.apart r' hr' r hr (he'.trans he.symm)
            subst this
            rw [← imul_assoc hbq (isB_inv _) hd, imul_comm hbq (isB_inv _), imul_inv hbq hne, imul_one_left hd, ixor_self]
          · exact ⟨0, rfl, fun h => absurd h e, fun r hr he => absurd ⟨r, hr, he⟩ hx⟩
      obtain ⟨c, hc, hcp, hcr⟩ := main
      have hadd : ∀ r ∈ S, q ≤ fstIdx r ∨ True → dotU r (fun i => if i = q then c else v i) w = ixor (dotU r v w) (imul (rd r (q : Int)) c) := by
        intro r hr _
        obtain ⟨hb, _⟩ := h.rows r hr
        have he : dotU r (fun i => if i = q then c else v i) w = dotU r (fun i => ixor (v i) (if i = q then c else 0)) w := dotU_congr w (fun j hj => by
          by_cases e : j = q
          · subst e; rw [if_pos rfl, if_pos rfl, h0 j (by omega), ixor_zero hc]
          · rw [if_neg e, if_neg e, ixor_zero_right (hv j)])
        rw [he, dotU_add hb w (Nat.le_refl _)]
        congr 1
        have hone : ∀ i, i ≤ w → dotU r (fun i => if i = q then c else 0) i = if q < i then imul (rd r (q : Int)) c else 0 := by
          intro i
          induction i with
          | zero => intro _; rw [if_neg (by omega)]; rfl
          | succ i ih2 =>
            intro hi
            show ixor (dotU r _ i) (imul (rd r (i : Int)) (if i = q then c else 0)) = _
            rw [ih2 (by omega)]
            by_cases e : i = q
            · subst e
              rw [if_neg (by omega), if_pos rfl, if_pos (by omega), ixor_zero (isB_mul _ (hb.at (by omega)))]
            · rw [if_neg e, imul_zero_right]
              by_cases e2 : q < i
              · rw [if_pos e2, if_pos (by omega), ixor_zero_right (isB_mul _ (hb.at hqw))]
              · rw [if_neg e2, if_neg (by omega)]; rfl
        rw [hone w (Nat.le_refl _), if_pos hqw]
      refine ⟨fun i => if i = q then c else v i, fun i => ?_, fun r hr hle => ?_, fun hle => ?_, fun i hi => ?_⟩
      · by_cases e : i = q
        · simp only [e, if_true]; exact hc
        · simp only [e, if_false]; exact hv i
      · rw [hadd r hr (.inr trivial)]
        by_cases e : fstIdx r = q
        · exact hcr r hr e
        · have hz : rd r (q : Int) = 0 := fst_zero r (by omega)
          rw [hk r hr (by omega), hz, imul_zero_left hc]
          rfl
      · by_cases e : p = q
        · simp only [e, if_true]; exact hcp e.symm
        · simp only [e, if_false]; exact h1 (by omega)
      · have e : i ≠ q := by omega
        simp only [e, if_false]; exact h0 i (by omega)
  obtain ⟨v, hv, hk, h1, _⟩ := key w (Nat.le_refl _)
  exact ⟨v, hv, fun r hr => hk r hr (by omega), h1 (by omega)⟩
theorem Full.mono {w : Nat} {S T : List (List Int)} (h : Full w S) (hs : ∀ v, IsV v → Ker w T v → Ker w S v) : Full w T := fun v hv hk => h v hv (hs v hv hk)
end Go.Proofs.YtkadfidmfnpohaaDoor.XB

namespace Go.Proofs.YtkadfidmfnpohaaDoor.XB
open Go.RowKit Go.Proofs.YtkadfidmfnpohaaDoorW.PrintWords Go.Proofs.YtkadfidmfnpohaaDoorW.PrintLast Go.Proofs.YtkadfidmfnpohaaDoorW.PrintMore
set_option linter.unusedVariables false
set_option linter.unusedSimpArgs false
def Lead1 (st : St) : Prop := ∀ x ∈ st, rd x.1 ((fstIdx x.1 : Nat) : Int) = 1
def Cleared (st : St) : Prop := st.Pairwise fun a b => rd b.1 ((fstIdx a.1 : Nat) : Int) = 0
theorem redStep_row {w : Nat} {a x : List Int × ByteArray} (ha : RowB w a.1) (hx : RowB w x.1) (hf : fstIdx x.1 < w) : RowB w (redStep a x).1 := by
 unfold redStep
 split
 ·exact ha
 ·exact ⟨all_isB_sub ha.1 (ha.at hf), by rw [subRow_length]; exact ha.2⟩
theorem redStep_dot {w : Nat} {a x : List Int × ByteArray} {v : Vec} (ha : RowB w a.1) (hx : RowB w x.1) (hf : fstIdx x.1 < w) (hv : IsV v) (h0 : dotU x.1 v w = 0) : dotU (redStep a x).1 v w = dotU a.1 v w := by
 unfold redStep
 split
 ·rfl
 ·show dotU (subRow _ x.1 a.1) v w = _
  rw [dotU_sub (ha.at hf) ha hx hv w (Nat.le_refl _), h0, imul_zero_right, ixor_zero_right (dotU_isB ha w (Nat.le_refl _))]
theorem redStep_at {w : Nat} {a x : List Int × ByteArray} (ha : RowB w a.1) (hx : RowB w x.1) (hf : fstIdx x.1 < w) (h1 : rd x.1 ((fstIdx x.1 : Nat) : Int) = 1) :
  rd (redStep a x).1 ((fstIdx x.1 : Nat) : Int) = 0 ∧ ∀ z, z < w → rd x.1 (z : Int) = 0 → rd a.1 (z : Int) = 0 → rd (redStep a x).1 (z : Int) = 0 := by
 unfold redStep
 split
 ·rename_i h; exact ⟨h, fun z _ _ h => h⟩
 ·have key : ∀ z, z < w → rd (subRow (rd a.1 ((fstIdx x.1 : Nat) : Int)) x.1 a.1) (z : Int) = ixor (rd a.1 (z : Int)) (imul (rd a.1 ((fstIdx x.1 : Nat) : Int)) (rd x.1 (z : Int))) := by
   intro z hz
   rw [rdi (by rw [subRow_length, ha.2]; exact hz)]
   simp [subRow]
  refine ⟨?_, fun z hz h2 h3 => ?_⟩
  ·show rd (subRow _ x.1 a.1) _ = 0
   rw [key _ hf, h1, imul_comm (ha.at hf) rfl, imul_one_left (ha.at hf), ixor_self]
  ·show rd (subRow _ x.1 a.1) _ = 0
   rw [key z hz, h2, h3, imul_zero_right]
   rfl
theorem redRow_row {w : Nat} : ∀ {st : St} {a}, (∀ x ∈ st, RowB w x.1 ∧ fstIdx x.1 < w) → RowB w a.1 → RowB w (redRow st a).1
 | [], _, _, ha => ha
 | x :: st, a, h, ha => redRow_row (st := st) (fun y hy => h y (List.mem_cons_of_mem _ hy)) (redStep_row ha (h x List.mem_cons_self).1 (h x List.mem_cons_self).2)
theorem redRow_dot {w : Nat} {v : Vec} (hv : IsV v) : ∀ {st : St} {a}, (∀ x ∈ st, RowB w x.1 ∧ fstIdx x.1 < w) → RowB w a.1 → (∀ x ∈ st, dotU x.1 v w = 0) → dotU (redRow st a).1 v w = dotU a.1 v w
 | [], _, _, _, _ => rfl
 | x :: st, a, h, ha, h0 => by
  have hx := h x List.mem_cons_self
  have e := redRow_dot hv (st := st) (a := redStep a x) (fun y hy => h y (List.mem_cons_of_mem _ hy)) (redStep_row ha hx.1 hx.2) (fun y hy => h0 y (List.mem_cons_of_mem _ hy))
  exact e.trans (redStep_dot ha hx.1 hx.2 hv (h0 x List.mem_cons_self))
theorem redRow_at {w : Nat} : ∀ {st : St} {a} (Z : Nat → Prop), (∀ x ∈ st, RowB w x.1 ∧ fstIdx x.1 < w) → Lead1 st → Cleared st → RowB w a.1 → (∀ z, Z z → z < w ∧ rd a.1 (z : Int) = 0 ∧ ∀ x ∈ st, rd x.1 (z : Int) = 0) →
  (∀ z, Z z → rd (redRow st a).1 (z : Int) = 0) ∧ ∀ x ∈ st, rd (redRow st a).1 ((fstIdx x.1 : Nat) : Int) = 0
 | [], _, _, _, _, _, _, hZ => ⟨fun z hz => (hZ z hz).2.1, fun x hx => by cases hx⟩
 | x :: st, a, Z, h, h1, hc, ha, hZ => by
  have hx := h x List.mem_cons_self
  have hcl := List.pairwise_cons.1 hc
  have hs := redStep_at ha hx.1 hx.2 (h1 x List.mem_cons_self)
  obtain ⟨e1, e2⟩ := redRow_at (st := st) (a := redStep a x) (fun z => Z z ∨ z = fstIdx x.1) (fun y hy => h y (List.mem_cons_of_mem _ hy)) (fun y hy => h1 y (List.mem_cons_of_mem _ hy)) hcl.2 (redStep_row ha hx.1 hx.2) (fun z hz => by
   rcases hz with hz | rfl
   ·obtain ⟨h2, h3, h4⟩ := hZ z hz
    exact ⟨h2, hs.2 z h2 (h4 x List.mem_cons_self) h3, fun y hy => h4 y (List.mem_cons_of_mem _ hy)⟩
   ·exact ⟨hx.2, hs.1, fun y hy => hcl.1 y hy⟩)
  refine ⟨fun z hz => e1 z (.inl hz), fun y hy => ?_⟩
  rcases List.mem_cons.1 hy with rfl | hy
  ·exact e1 _ (.inr rfl)
  ·exact e2 y hy
structure Stairs (w : Nat) (st : St) : Prop where
 rows : ∀ x ∈ st, RowB w x.1 ∧ fstIdx x.1 < w
 apart : (st.map fun x => fstIdx x.1).Nodup
 one : Lead1 st
 clear : Cleared st
theorem Stairs.leads {w : Nat} {st : St} (h : Stairs w st) : Leads w (st.map Prod.fst) :=
 ⟨fun r hr => by obtain ⟨x, hx, rfl⟩ := List.mem_map.1 hr; exact h.rows x hx, by rw [List.map_map]; exact h.apart⟩
theorem Stairs.nil (w : Nat) : Stairs w [] := ⟨fun x hx => (by cases hx), List.nodup_nil, fun x hx => (by cases hx), List.Pairwise.nil⟩
/-- A row more. -/
theorem addSt_some {w : Nat} {st : St} (h : Stairs w st) {row : List Int} {part : ByteArray} (hr : RowB w row) {x} (he : addSt st row part = some x) :
  Stairs w (st ++ [x]) ∧ ∀ v, IsV v → (∀ y ∈ st, dotU y.1 v w = 0) → (dotU x.1 v w = 0 ↔ dotU row v w = 0) := by
 have hB := redRow_row (a := (row, part)) h.rows hr
 have hat := (redRow_at (a := (row, part)) (fun _ => False) h.rows h.one h.clear hr (fun z hz => hz.elim)).2
 have hdot := fun v hv h0 => redRow_dot (v := v) hv (a := (row, part)) h.rows hr h0
 unfold addSt at he
 generalize redRow st (row, part) = rr at *
 obtain ⟨r, q⟩ := rr
 dsimp only at *
 by_cases e : fstIdx r = r.length
 ·rw [if_pos e] at he; cases he
 ·rw [if_neg e] at he
  obtain rfl := (Option.some.inj he).symm
  have hfl : fstIdx r < r.length := by have := fstIdx_le r; omega
  have hfw : fstIdx r < w := by rw [← hB.2]; exact hfl
  have hne := fst_ne r hfl
  have hrf := hB.at hfw
  have hcB : isB (iinv (rd r ((fstIdx r : Nat) : Int))) = true := isB_inv _
  have hget : ∀ z, z < w → rd (mulRow (iinv (rd r ((fstIdx r : Nat) : Int))) r) (z : Int) = imul (iinv (rd r ((fstIdx r : Nat) : Int))) (rd r (z : Int)) := by
   intro z hz
   rw [rdi (by rw [mulRow_length, hB.2]; exact hz)]
   simp [mulRow]
  have hone : rd (mulRow (iinv (rd r ((fstIdx r : Nat) : Int))) r) ((fstIdx r : Nat) : Int) = 1 := by rw [hget _ hfw, imul_inv hrf hne]
  have hfst : fstIdx (mulRow (iinv (rd r ((fstIdx r : Nat) : Int))) r) = fstIdx r := by
   refine fst_of (by rw [mulRow_length]; exact hfl) (fun i hi => ?_) (by rw [hone]; decide)
   rw [hget i (by omega), fst_zero r hi, imul_zero_right]
  have hnew : RowB w (mulRow (iinv (rd r ((fstIdx r : Nat) : Int))) r) := ⟨all_isB_mul hcB, by rw [mulRow_length]; exact hB.2⟩
  refine ⟨⟨fun y hy => ?_, ?_, fun y hy => ?_, ?_⟩, fun v hv h0 => ?_⟩
  ·rcases List.mem_append.1 hy with hy | hy
   ·exact h.rows y hy
   ·obtain rfl := List.mem_singleton.1 hy
    exact ⟨hnew, by dsimp only; rw [hfst]; exact hfw⟩
  ·rw [List.map_append, List.nodup_append]
   refine ⟨h.apart, by simp, fun p hp p' hp' => ?_⟩
   obtain ⟨y, hy, rfl⟩ := List.mem_map.1 hp
   simp only [List.map_cons, List.map_nil, List.mem_singleton] at hp'
   rw [hp', hfst]
   intro hc
   have := hat y hy
   rw [hc] at this
   exact hne this
  ·rcases List.mem_append.1 hy with hy | hy
   ·exact h.one y hy
   ·obtain rfl := List.mem_singleton.1 hy
    dsimp only
    rw [hfst]; exact hone
  ·refine List.pairwise_append.2 ⟨h.clear, List.pairwise_singleton _ _, fun a ha b hb => ?_⟩
   obtain rfl := List.mem_singleton.1 hb
   dsimp only
   rw [hget _ (h.rows a ha).2, hat a ha, imul_zero_right]
  ·dsimp only
   rw [dotU_mul hcB hB hv w (Nat.le_refl _), ← hdot v hv h0]
   constructor
   ·intro hz
    rcases imul_eq_zero hcB (dotU_isB hB w (Nat.le_refl _)) hz with e2 | e2
    ·have := imul_inv hrf hne
     rw [e2, imul_zero_left hrf] at this
     cases this
    ·exact e2
   ·intro hz
    rw [hz, imul_zero_right]
theorem addSt_none {w : Nat} {st : St} (h : Stairs w st) {row : List Int} {part : ByteArray} (hr : RowB w row) (he : addSt st row part = none) :
  ∀ v, IsV v → (∀ y ∈ st, dotU y.1 v w = 0) → dotU row v w = 0 := by
 intro v hv h0
 have hB := redRow_row (a := (row, part)) h.rows hr
 rw [← redRow_dot hv (a := (row, part)) h.rows hr h0]
 unfold addSt at he
 generalize redRow st (row, part) = rr at *
 obtain ⟨r, q⟩ := rr
 dsimp only at *
 by_cases e : fstIdx r = r.length
 ·exact dotU_below hB hv (p := w) (fun i hi => fst_zero r (by rw [e, hB.2]; exact hi)) w (Nat.le_refl _)
 ·rw [if_neg e] at he; cases he
/-! rows of a set of pieces -/
def selRows (rows : List (List Int)) (mask : Nat) : Nat → List (List Int)
 | 0 => []
 | n + 1 => if (mask >>> n) % 2 = 1 then selRows rows mask n ++ [rd_L4 rows (n : Int)] else selRows rows mask n
theorem ker_append {w : Nat} {S T : List (List Int)} {v : Vec} : Ker w (S ++ T) v ↔ Ker w S v ∧ Ker w T v := by
 unfold Ker
 constructor
 ·exact fun h => ⟨fun r hr => h r (List.mem_append_left _ hr), fun r hr => h r (List.mem_append_right _ hr)⟩
 ·rintro ⟨h1, h2⟩ r hr
  rcases List.mem_append.1 hr with hr | hr
  ·exact h1 r hr
  ·exact h2 r hr
theorem ker_map {w : Nat} {st : St} {v : Vec} : Ker w (st.map Prod.fst) v ↔ ∀ y ∈ st, dotU y.1 v w = 0 := by
 unfold Ker
 constructor
 ·exact fun h y hy => h _ (List.mem_map_of_mem hy)
 ·intro h r hr
  obtain ⟨y, hy, rfl⟩ := List.mem_map.1 hr
  exact h y hy
theorem collect_inv {w mask : Nat} {rows : List (List Int)} {pieces : List ByteArray} (hrows : ∀ k : Nat, k < rows.length → RowB w (rd_L4 rows (k : Int))) :
  ∀ n, n ≤ rows.length → Stairs w (collectUpto w mask rows pieces n) ∧ (∀ v, IsV v → Ker w (selRows rows mask n) v → Ker w ((collectUpto w mask rows pieces n).map Prod.fst) v) ∧
   ((collectUpto w mask rows pieces n).length < w → ∀ v, IsV v → Ker w ((collectUpto w mask rows pieces n).map Prod.fst) v → Ker w (selRows rows mask n) v) := by
 intro n
 induction n with
 | zero => intro _; exact ⟨Stairs.nil w, fun v _ h r hr => (by cases hr), fun _ v _ h r hr => (by cases hr)⟩
 | succ n ih =>
  intro hn
  obtain ⟨h1, h2, h3⟩ := ih (by omega)
  have hr := hrows n (by omega)
  simp only [collectUpto, selRows]
  by_cases hb : (mask >>> n) % 2 = 1
  ·rw [if_pos hb]
   by_cases hl : (collectUpto w mask rows pieces n).length < w
   ·rw [if_pos ⟨hb, hl⟩]
    cases he : addSt (collectUpto w mask rows pieces n) (rd_L4 rows (n : Int)) (rdOf ByteArray.empty pieces (n : Int)) with
    | none =>
     have hz := addSt_none h1 hr he
     simp only [Option.toList_none, List.append_nil]
     refine ⟨h1, fun v hv hk => h2 v hv (ker_append.1 hk).1, fun _ v hv hk => ker_append.2 ⟨h3 hl v hv hk, fun r hr2 => ?_⟩⟩
     obtain rfl := List.mem_singleton.1 hr2
     exact hz v hv (ker_map.1 hk)
    | some x =>
     obtain ⟨h4, h5⟩ := addSt_some h1 hr he
     simp only [Option.toList_some]
     refine ⟨h4, fun v hv hk => ?_, fun _ v hv hk => ?_⟩
     ·obtain ⟨k1, k2⟩ := ker_append.1 hk
      have k3 := h2 v hv k1
      rw [List.map_append]
      refine ker_append.2 ⟨k3, fun r hr2 => ?_⟩
      obtain rfl := List.mem_singleton.1 hr2
      exact (h5 v hv (ker_map.1 k3)).2 (k2 _ (List.mem_singleton.2 rfl))
     ·rw [List.map_append] at hk
      obtain ⟨k1, k2⟩ := ker_append.1 hk
      refine ker_append.2 ⟨h3 hl v hv k1, fun r hr2 => ?_⟩
      obtain rfl := List.mem_singleton.1 hr2
      exact (h5 v hv (ker_map.1 k1)).1 (k2 _ (List.mem_singleton.2 rfl))
   ·rw [if_neg (fun h => hl h.2)]
    exact ⟨h1, fun v hv hk => h2 v hv (ker_append.1 hk).1, fun h => absurd h hl⟩
  ·rw [if_neg hb, if_neg (fun h => hb h.1)]
   exact ⟨h1, h2, h3⟩
/-- A set of pieces suffices if only 0 is sent to 0 by its rows. -/
theorem collect_iff {w mask : Nat} {rows : List (List Int)} {pieces : List ByteArray} (hrows : ∀ k : Nat, k < rows.length → RowB w (rd_L4 rows (k : Int))) :
  (collectUpto w mask rows pieces rows.length).length = w ↔ Full w (selRows rows mask rows.length) := by
 obtain ⟨h1, h2, h3⟩ := collect_inv (mask := mask) (pieces := pieces) hrows rows.length (Nat.le_refl _)
 have hle := collectUpto_length w mask rows pieces rows.length
 constructor
 ·intro h
  exact (h1.leads.full (by rw [List.length_map]; exact h)).mono h2
 ·intro hf
  by_cases e : (collectUpto w mask rows pieces rows.length).length = w
  ·exact e
  ·have hlt : (collectUpto w mask rows pieces rows.length).length < w := by omega
   obtain ⟨p, hp, hm⟩ := h1.leads.missing (by rw [List.length_map]; exact hlt)
   obtain ⟨v, hv, hk, hv1⟩ := h1.leads.free hp hm
   have := hf v hv (h3 hlt v hv hk) p hp
   rw [hv1] at this
   cases this
/-! pieces that fit -/
/-! solving -/
theorem only_dot {w : Nat} {r : List Int} {q : Nat} {c : Int} (hr : RowB w r) (hc : isB c = true) (hq : q < w) : ∀ i, i ≤ w → dotU r (fun i => if i = q then c else 0) i = if q < i then imul (rd r (q : Int)) c else 0 := by
 intro i
 induction i with
 | zero => intro _; rw [if_neg (by omega)]; rfl
 | succ i ih =>
  intro hi
  show ixor (dotU r _ i) (imul (rd r (i : Int)) (if i = q then c else 0)) = _
  rw [ih (by omega)]
  by_cases e : i = q
  ·subst e
   rw [if_neg (by omega), if_pos rfl, if_pos (by omega), ixor_zero (isB_mul _ (hr.at (by omega)))]
  ·rw [if_neg e, imul_zero_right]
   by_cases e2 : q < i
   ·rw [if_pos e2, if_pos (by omega), ixor_zero_right (isB_mul _ (hr.at hq))]
   ·rw [if_neg e2, if_neg (by omega)]; rfl
end Go.Proofs.YtkadfidmfnpohaaDoor.XB

namespace Go.Proofs.YtkadfidmfnpohaaDoor.XB
open Go.RowKit Go.Proofs.YtkadfidmfnpohaaDoorW.PrintWords Go.Proofs.YtkadfidmfnpohaaDoorW.PrintLast Go.Proofs.YtkadfidmfnpohaaDoorW.PrintMore
set_option linter.unusedVariables false
set_option linter.unusedSimpArgs false
theorem rinv_from (a : Nat) (ha : a < 256) (h0 : a ≠ 0) : ∀ j x : Nat, x + j = QGF.invN a → 1 ≤ x → Ev (fun k => quietusref04_Inv.l0 k (a : Int) (x : Int)) ((QGF.invN a : Nat) : Int) := by
 have hi := QGF.inv_lt (a := a)
 intro j
 induction j with
 | zero =>
  intro x hx h1
  have hb := rmul_ev (isB_nat ha) (isB_nat (n := x) (by omega))
  refine Ev.step (f := fun k => (quietusref04_Mul.f k (a : Int) (x : Int)).bind fun t => if t = 1 then some (x : Int) else quietusref04_Inv.l0 k (a : Int) ((x + 1 : Nat) : Int)) (fun k => ?_) (Ev.bind hb ?_)
  ·simp only [quietusref04_Inv.l0]
   rw [if_pos (by omega), show ((x : Int) % 256) = (x : Int) by omega, wrap_succ (by omega)]
  ·have e : imul (a : Int) (x : Int) = 1 := by
    show ((QGF.mulN a x : Nat) : Int) = 1
    rw [show x = QGF.invN a by omega, QGF.mul_inv ha h0]; rfl
   simp only [e, if_true]
   rw [show x = QGF.invN a by omega]
   exact Ev.now _
 | succ j ih =>
  intro x hx h1
  have hb := rmul_ev (isB_nat ha) (isB_nat (n := x) (by omega))
  refine Ev.step (f := fun k => (quietusref04_Mul.f k (a : Int) (x : Int)).bind fun t => if t = 1 then some (x : Int) else quietusref04_Inv.l0 k (a : Int) ((x + 1 : Nat) : Int)) (fun k => ?_) (Ev.bind hb ?_)
  ·simp only [quietusref04_Inv.l0]
   rw [if_pos (by omega), show ((x : Int) % 256) = (x : Int) by omega, wrap_succ (by omega)]
  ·have e : ¬ imul (a : Int) (x : Int) = 1 := by
    intro h
    have h : ((QGF.mulN a x : Nat) : Int) = 1 := h
    have := QGF.inv_unique ha (show x < 256 by omega) (by omega)
    omega
   simp only [e, if_false]
   exact ih (x + 1) (by omega) (by omega)
theorem rinv_ev {a : Int} (ha : isB a = true) (h0 : a ≠ 0) : Ev (fun k => quietusref04_Inv.f k a) (iinv a) := by
 obtain ⟨m, rfl, hm⟩ := isB_ex ha
 have h1 : QGF.invN m ≠ 0 := QGF.inv_ne hm (by omega)
 exact Ev.congr (f := fun k => quietusref04_Inv.l0 k (m : Int) ((1 : Nat) : Int)) (fun k => by unfold quietusref04_Inv.f; rfl) (rinv_from m hm (by omega) (QGF.invN m - 1) 1 (by omega) (Nat.le_refl _))
/-! a row from which a multiple of another is taken -/
def lessRow (r P : List Int) (z : Nat) : List Int := subRow (imul (rd r (z : Int)) (iinv (rd P (z : Int)))) P r
theorem rless_from (w : Nat) (hw : w ≤ 1000000) (r P : List Int) (f : Int) (hf : isB f = true) (hr : RowB w r) (hP : RowB w P) : ∀ n i, i + n = w → Ev (fun k => quietusref07_less.l0 k r P f ((List.range i).map fun (i : Nat) => ixor (rd r (i : Int)) (imul f (rd P (i : Int)))) (i : Int)) (subRow f P r) := by
 have h1 := hr.2; have h2 := hP.2
 intro n
 induction n with
 | zero =>
  intro i hi
  refine Ev.step (f := fun _ => some (subRow f P r)) (fun k => ?_) (Ev.now _)
  simp only [quietusref07_less.l0]
  rw [if_neg (by omega), show i = r.length by omega]
  rfl
 | succ n ih =>
  intro i hi
  have hnx := ih (i + 1) (by omega)
  rw [snoc_map] at hnx
  have hlen : ((List.range i).map fun (i : Nat) => ixor (rd r (i : Int)) (imul f (rd P (i : Int)))).length < 140737488355328 := by simp; omega
  refine Ev.step (f := fun k => (quietusref04_Mul.f k f (rd P (i : Int))).bind fun t => quietusref07_less.l0 k r P f (((List.range i).map fun (i : Nat) => ixor (rd r (i : Int)) (imul f (rd P (i : Int)))) ++ [Go.bits .xor .u8 (rd r (i : Int)) t]) ((i + 1 : Nat) : Int)) (fun k => ?_) (Ev.bind (rmul_ev hf (hP.at (by omega))) ?_)
  ·simp only [quietusref07_less.l0]
   rw [if_pos (by omega), if_pos (by omega), if_pos (by omega)]
   simp only [if_pos hlen]
   rw [wrap_succ (by omega)]
  ·rw [bits_xor_u8 (hr.at (by omega)) (isB_mul _ hf)]
   exact hnx
theorem rless_ev (w : Nat) (hw : w ≤ 1000000) (r P : List Int) (z : Nat) (hz : z < w) (hr : RowB w r) (hP : RowB w P) (h0 : rd P (z : Int) ≠ 0) : Ev (fun k => quietusref07_less.f k r P (z : Int)) (lessRow r P z) := by
 have h1 := hr.2; have h2 := hP.2
 refine Ev.congr (f := fun k => (quietusref04_Inv.f k (rd P (z : Int))).bind fun t => (quietusref04_Mul.f k (rd r (z : Int)) t).bind fun t2 => quietusref07_less.l0 k r P t2 ([] : List Int) 0) (fun k => ?_) (Ev.bind (rinv_ev (hP.at hz) h0) (Ev.bind (rmul_ev (hr.at hz) (isB_inv _)) ?_))
 ·unfold quietusref07_less.f
  rw [if_pos (by omega), if_pos (by omega), if_pos (by omega)]
 ·exact rless_from w hw r P _ (isB_mul _ (hr.at hz)) hr hP w 0 (Nat.zero_add _)
theorem lessRow_row {w : Nat} {r P : List Int} {z : Nat} (hz : z < w) (hr : RowB w r) : RowB w (lessRow r P z) := ⟨all_isB_sub hr.1 (isB_mul _ (hr.at hz)), by unfold lessRow; rw [subRow_length]; exact hr.2⟩
theorem lessRow_at {w : Nat} {r P : List Int} {z : Nat} (hz : z < w) (hr : RowB w r) (hP : RowB w P) (h0 : rd P (z : Int) ≠ 0) : rd (lessRow r P z) (z : Int) = 0 := by
 unfold lessRow
 rw [rdi (by rw [subRow_length, hr.2]; exact hz)]
 simp only [subRow, List.getElem_map, List.getElem_range]
 rw [imul_assoc (hr.at hz) (isB_inv _) (hP.at hz), imul_inv (hP.at hz) h0, imul_comm (hr.at hz) rfl, imul_one_left (hr.at hz), ixor_self]
theorem lessRow_below {w : Nat} {r P : List Int} {z i : Nat} (hz : z < w) (hi : i < w) (hr : RowB w r) (h1 : rd r (i : Int) = 0) (h2 : rd P (i : Int) = 0) : rd (lessRow r P z) (i : Int) = 0 := by
 unfold lessRow
 rw [rdi (by rw [subRow_length, hr.2]; exact hi)]
 simp only [subRow, List.getElem_map, List.getElem_range]
 rw [h1, h2, imul_zero_right]
 rfl
theorem lessRow_dot {w : Nat} {r P : List Int} {z : Nat} (hz : z < w) (hr : RowB w r) (hP : RowB w P) {v : Vec} (hv : IsV v) (h0 : dotU P v w = 0) : dotU (lessRow r P z) v w = dotU r v w := by
 unfold lessRow
 rw [dotU_sub (isB_mul _ (hr.at hz)) hr hP hv w (Nat.le_refl _), h0, imul_zero_right, ixor_zero_right (dotU_isB hr w (Nat.le_refl _))]
/-! the rank, plainly -/
def pivFrom (l : List (List Int)) (z : Nat) : Nat → Nat → Nat
 | i, 0 => i
 | i, n + 1 => if rd (rd_L4 l (i : Int)) (z : Int) = 0 then pivFrom l z (i + 1) n else i
def restFrom (l : List (List Int)) (p z : Nat) : Nat → Nat → List (List Int)
 | _, 0 => []
 | i, n + 1 => if i = p then restFrom l p z (i + 1) n else lessRow (rd_L4 l (i : Int)) (rd_L4 l (p : Int)) z :: restFrom l p z (i + 1) n
def rkFrom : Nat → Nat → List (List Int) → Nat
 | 0, _, _ => 0
 | n + 1, z, l => if pivFrom l z 0 l.length = l.length then rkFrom n (z + 1) l else 1 + rkFrom n (z + 1) (restFrom l (pivFrom l z 0 l.length) z 0 l.length)
theorem rkFrom_le : ∀ n z l, rkFrom n z l ≤ n
 | 0, _, _ => Nat.le_refl _
 | n + 1, z, l => by
  simp only [rkFrom]
  split
  ·have := rkFrom_le n (z + 1) l; omega
  ·have := rkFrom_le n (z + 1) (restFrom l (pivFrom l z 0 l.length) z 0 l.length); omega
theorem piv_spec (l : List (List Int)) (z : Nat) : ∀ n i, i ≤ pivFrom l z i n ∧ pivFrom l z i n ≤ i + n ∧ (∀ t : Nat, i ≤ t → t < pivFrom l z i n → rd (rd_L4 l (t : Int)) (z : Int) = 0) ∧ (pivFrom l z i n < i + n → rd (rd_L4 l ((pivFrom l z i n : Nat) : Int)) (z : Int) ≠ 0) := by
 intro n
 induction n with
 | zero => intro i; simp only [pivFrom]; exact ⟨Nat.le_refl _, Nat.le_refl _, fun t h1 h2 => by omega, fun h => by omega⟩
 | succ n ih =>
  intro i
  simp only [pivFrom]
  by_cases e : rd (rd_L4 l (i : Int)) (z : Int) = 0
  ·rw [if_pos e]
   obtain ⟨h1, h2, h3, h4⟩ := ih (i + 1)
   refine ⟨by omega, by omega, fun t h5 h6 => ?_, fun h => h4 (by omega)⟩
   by_cases e2 : t = i
   ·subst e2; exact e
   ·exact h3 t (by omega) h6
  ·rw [if_neg e]
   exact ⟨Nat.le_refl _, by omega, fun t h1 h2 => by omega, fun _ => e⟩
theorem mem_rest {l : List (List Int)} {p z : Nat} {x : List Int} : ∀ n i, x ∈ restFrom l p z i n ↔ ∃ t, i ≤ t ∧ t < i + n ∧ t ≠ p ∧ x = lessRow (rd_L4 l (t : Int)) (rd_L4 l (p : Int)) z := by
 intro n
 induction n with
 | zero => intro i; simp only [restFrom]; exact ⟨fun h => (by cases h), fun ⟨t, h1, h2, _⟩ => by omega⟩
 | succ n ih =>
  intro i
  simp only [restFrom]
  by_cases e : i = p
  ·rw [if_pos e, ih (i + 1)]
   constructor
   ·rintro ⟨t, h1, h2, h3, h4⟩; exact ⟨t, by omega, by omega, h3, h4⟩
   ·rintro ⟨t, h1, h2, h3, h4⟩; exact ⟨t, by omega, by omega, h3, h4⟩
  ·rw [if_neg e, List.mem_cons, ih (i + 1)]
   constructor
   ·rintro (h | ⟨t, h1, h2, h3, h4⟩)
    ·exact ⟨i, Nat.le_refl _, by omega, e, h⟩
    ·exact ⟨t, by omega, by omega, h3, h4⟩
   ·rintro ⟨t, h1, h2, h3, h4⟩
    by_cases e2 : t = i
    ·subst e2; exact .inl h4
    ·exact .inr ⟨t, by omega, by omega, h3, h4⟩
theorem rest_length (l : List (List Int)) (p z : Nat) : ∀ n i, (restFrom l p z i n).length ≤ n := by
 intro n
 induction n with
 | zero => intro i; simp [restFrom]
 | succ n ih =>
  intro i
  simp only [restFrom]
  split
  ·have := ih (i + 1); omega
  ·have := ih (i + 1); simp; omega
theorem rdL_at {l : List (List Int)} {t : Nat} (h : t < l.length) : rd_L4 l (t : Int) ∈ l := by
 have : rd_L4 l (t : Int) = l[t] := by simp [rd_L4, List.getD_eq_getElem?_getD, List.getElem?_eq_getElem h]
 rw [this]; exact List.getElem_mem h
theorem mem_rdL {l : List (List Int)} {r : List Int} (h : r ∈ l) : ∃ t : Nat, t < l.length ∧ r = rd_L4 l (t : Int) := by
 obtain ⟨t, ht, rfl⟩ := List.mem_iff_getElem.1 h
 exact ⟨t, ht, by simp [rd_L4, List.getD_eq_getElem?_getD, List.getElem?_eq_getElem ht]⟩
def FullFrom (w z : Nat) (l : List (List Int)) : Prop := ∀ v, IsV v → Ker w l v → ∀ i, z ≤ i → i < w → v i = 0
theorem rk_iff (w : Nat) : ∀ n z l, z + n = w → (∀ r ∈ l, RowB w r ∧ ∀ i, i < z → rd r (i : Int) = 0) → (rkFrom n z l = n ↔ FullFrom w z l) := by
 intro n
 induction n with
 | zero => intro z l hz _; exact ⟨fun _ v _ _ i h1 h2 => by omega, fun _ => rfl⟩
 | succ n ih =>
  intro z l hz hl
  have hzw : z < w := by omega
  obtain ⟨_, p2, p3, p4⟩ := piv_spec l z l.length 0
  simp only [rkFrom]
  by_cases e : pivFrom l z 0 l.length = l.length
  ·rw [if_pos e]
   constructor
   ·intro h; have := rkFrom_le n (z + 1) l; omega
   ·intro hf
    exfalso
    have h1 : IsV (fun i => if i = z then (1 : Int) else 0) := fun i => by
     by_cases e : i = z <;> simp only [e, if_true, if_false] <;> rfl
    have := hf _ h1 (fun r hr => by
     obtain ⟨t, ht, rfl⟩ := mem_rdL hr
     rw [only_dot (hl _ hr).1 rfl hzw w (Nat.le_refl _), if_pos hzw, p3 t (Nat.zero_le _) (by omega), imul_zero_left rfl]) z (Nat.le_refl _) hzw
    simp at this
  ·rw [if_neg e]
   generalize pivFrom l z 0 l.length = p at *
   have hpl : p < l.length := by omega
   have hPm := rdL_at hpl
   obtain ⟨hPB, hP0⟩ := hl _ hPm
   have hPz := p4 (by omega)
   have hrest : ∀ r ∈ restFrom l p z 0 l.length, RowB w r ∧ ∀ i, i < z + 1 → rd r (i : Int) = 0 := by
    intro r hr
    obtain ⟨t, _, ht, _, rfl⟩ := (mem_rest l.length 0).1 hr
    obtain ⟨h1, h2⟩ := hl _ (rdL_at (show t < l.length by omega))
    refine ⟨lessRow_row hzw h1, fun i hi => ?_⟩
    by_cases e2 : i = z
    ·subst e2; exact lessRow_at hzw h1 hPB hPz
    ·exact lessRow_below hzw (by omega) h1 (h2 i (by omega)) (hP0 i (by omega))
   have ih := ih (z + 1) (restFrom l p z 0 l.length) (by omega) hrest
   have hiff : (1 + rkFrom n (z + 1) (restFrom l p z 0 l.length) = n + 1) ↔ (rkFrom n (z + 1) (restFrom l p z 0 l.length) = n) := by omega
   rw [hiff, ih]
   have hker : ∀ v, IsV v → (Ker w l v ↔ (dotU (rd_L4 l (p : Int)) v w = 0 ∧ Ker w (restFrom l p z 0 l.length) v)) := by
    intro v hv
    constructor
    ·intro hk
     have h0 := hk _ hPm
     refine ⟨h0, fun r hr => ?_⟩
     obtain ⟨t, _, ht, _, rfl⟩ := (mem_rest l.length 0).1 hr
     have hm := rdL_at (show t < l.length by omega)
     rw [lessRow_dot hzw (hl _ hm).1 hPB hv h0]
     exact hk _ hm
    ·rintro ⟨h0, hk⟩ r hr
     obtain ⟨t, ht, rfl⟩ := mem_rdL hr
     by_cases e2 : t = p
     ·subst e2; exact h0
     ·rw [← lessRow_dot hzw (hl _ hr).1 hPB hv h0]
      exact hk _ ((mem_rest l.length 0).2 ⟨t, Nat.zero_le _, by omega, e2, rfl⟩)
   constructor
   ·intro hf v hv hk i hi1 hi2
    obtain ⟨h0, hk2⟩ := (hker v hv).1 hk
    by_cases e2 : i = z
    ·subst e2
     have h1 := dotU_zeros (r := rd_L4 l (p : Int)) (v := v) (p := i + 1) w (by omega) (fun j h2 h3 => hf v hv hk2 j h2 h3) (dotU_isB hPB (i + 1) (by omega))
     rw [h0] at h1
     have h2 : dotU (rd_L4 l (p : Int)) v (i + 1) = ixor (dotU (rd_L4 l (p : Int)) v i) (imul (rd (rd_L4 l (p : Int)) (i : Int)) (v i)) := rfl
     rw [dotU_below hPB hv hP0 i (Nat.le_refl _), ixor_zero (isB_mul _ (hPB.at hi2)), ← h1] at h2
     rcases imul_eq_zero (hPB.at hi2) (hv i) h2.symm with h3 | h3
     ·exact absurd h3 hPz
     ·exact h3
    ·exact hf v hv hk2 i (by omega) hi2
   ·intro hf v hv hk i hi1 hi2
    obtain ⟨c, hc⟩ : ∃ c, c = imul (iinv (rd (rd_L4 l (p : Int)) (z : Int))) (dotU (rd_L4 l (p : Int)) (fun i => if i = z then 0 else v i) w) := ⟨_, rfl⟩
    have hcB : isB c = true := by rw [hc]; exact isB_mul _ (isB_inv _)
    have hv0 : IsV (fun i => if i = z then 0 else v i) := fun i => by
     by_cases e : i = z
     ·simp only [e, if_true]; rfl
     ·simp only [e, if_false]; exact hv i
    have hv1 : IsV (fun i => if i = z then c else 0) := fun i => by
     by_cases e : i = z
     ·simp only [e, if_true]; exact hcB
     ·simp only [e, if_false]; rfl
    have hv2 : IsV (fun i => if i = z then c else v i) := fun i => by
     by_cases e : i = z
     ·simp only [e, if_true]; exact hcB
     ·simp only [e, if_false]; exact hv i
    have hsum : ∀ r, RowB w r → dotU r (fun i => if i = z then c else v i) w = ixor (dotU r (fun i => if i = z then 0 else v i) w) (imul (rd r (z : Int)) c) := by
     intro r hr
     have e1 : dotU r (fun i => if i = z then c else v i) w = dotU r (fun i => ixor (if i = z then 0 else v i) (if i = z then c else 0)) w := dotU_congr w (fun j hj => by
      by_cases e : j = z
      ·simp only [e, if_true]; rw [ixor_zero hcB]
      ·simp only [e, if_false]; rw [ixor_zero_right (hv j)])
     rw [e1, dotU_add (u := fun i => if i = z then 0 else v i) (v := fun i => if i = z then c else 0) hr w (Nat.le_refl _), only_dot hr hcB hzw w (Nat.le_refl _), if_pos hzw]
    have hpz := hPB.at hzw
    have hd := dotU_isB (x := fun i => if i = z then 0 else v i) hPB w (Nat.le_refl _)
    have hP : dotU (rd_L4 l (p : Int)) (fun i => if i = z then c else v i) w = 0 := by
     rw [hsum _ hPB, hc, ← imul_assoc hpz (isB_inv _) hd, imul_comm hpz (isB_inv _), imul_inv hpz hPz, imul_one_left hd, ixor_self]
    have hR : Ker w (restFrom l p z 0 l.length) (fun i => if i = z then c else v i) := by
     intro r hr
     obtain ⟨hrB, hr0⟩ := hrest r hr
     have hrz := hr0 z (Nat.lt_succ_self z)
     have e1 : dotU r (fun i => if i = z then c else v i) w = dotU r v w := by
      rw [hsum r hrB, hrz, imul_zero_left hcB, ixor_zero_right (dotU_isB hrB w (Nat.le_refl _))]
      have e2 : dotU r v w = dotU r (fun i => ixor (if i = z then 0 else v i) (if i = z then v z else 0)) w := dotU_congr w (fun j hj => by
       by_cases e : j = z
       ·subst e; simp only [if_true]; rw [ixor_zero (hv j)]
       ·simp only [e, if_false]; rw [ixor_zero_right (hv j)])
      rw [e2, dotU_add (u := fun i => if i = z then 0 else v i) (v := fun i => if i = z then v z else 0) hrB w (Nat.le_refl _), only_dot hrB (hv z) hzw w (Nat.le_refl _), if_pos hzw, hrz, imul_zero_left (hv z), ixor_zero_right (dotU_isB hrB w (Nat.le_refl _))]
     rw [e1]; exact hk r hr
    have := hf _ hv2 ((hker _ hv2).2 ⟨hP, hR⟩) i (by omega) hi2
    have e : i ≠ z := by omega
    simpa only [e, if_false] using this
/-! the reference's Rank -/
theorem rrank_l2 (w : Nat) (hw : w ≤ 30) (l : List (List Int)) (hl : ∀ r ∈ l, RowB w r) (hll : l.length ≤ 100) (rank z p : Nat) (hz : z < w) (hp : p < l.length) (hP : rd (rd_L4 l (p : Int)) (z : Int) ≠ 0) (R : Int) :
  ∀ n i acc, i + n = l.length → acc.length ≤ i → Ev (fun k => quietusref07_Rank.l0 k (w : Int) (acc ++ restFrom l p z i n) (rank : Int) ((z + 1 : Nat) : Int)) R → Ev (fun k => quietusref07_Rank.l2 k (w : Int) l (rank : Int) (z : Int) (p : Int) acc (i : Int)) R := by
 intro n
 induction n with
 | zero =>
  intro i acc hi hacc hR
  refine Ev.step (f := fun k => quietusref07_Rank.l0 k (w : Int) acc (rank : Int) ((z + 1 : Nat) : Int)) (fun k => ?_) (by simpa [restFrom] using hR)
  simp only [quietusref07_Rank.l2]
  rw [if_neg (by omega), wrap_succ (by omega)]
 | succ n ih =>
  intro i acc hi hacc hR
  simp only [restFrom] at hR
  by_cases e : i = p
  ·rw [if_pos e] at hR
   refine Ev.step (f := fun k => quietusref07_Rank.l2 k (w : Int) l (rank : Int) (z : Int) (p : Int) acc ((i + 1 : Nat) : Int)) (fun k => ?_) (ih (i + 1) acc (by omega) (by omega) hR)
   simp only [quietusref07_Rank.l2]
   rw [if_pos (by omega), if_pos (by omega), wrap_succ (by omega)]
  ·rw [if_neg e] at hR
   have hi' := rdL_at (show i < l.length by omega)
   have hp' := rdL_at hp
   refine Ev.step (f := fun k => (quietusref07_less.f k (rd_L4 l (i : Int)) (rd_L4 l (p : Int)) (z : Int)).bind fun t => quietusref07_Rank.l2 k (w : Int) l (rank : Int) (z : Int) (p : Int) (acc ++ [t]) ((i + 1 : Nat) : Int)) (fun k => ?_) (Ev.bind (rless_ev w (by omega) _ _ z hz (hl _ hi') (hl _ hp') hP) (ih (i + 1) _ (by omega) (by simp; omega) ?_))
   ·have hlen : acc.length < 5864062014805 := by omega
    simp only [quietusref07_Rank.l2]
    rw [if_pos (by omega), if_neg (by omega), if_pos (by omega), if_pos (by omega), if_pos (by omega)]
    simp only [if_pos hlen]
    rw [wrap_succ (by omega)]
   ·rw [List.append_assoc]; exact hR
theorem rrank_l1 (w : Nat) (hw : w ≤ 30) (l : List (List Int)) (hl : ∀ r ∈ l, RowB w r) (hll : l.length ≤ 100) (rank z : Nat) (hrank : rank ≤ 30) (hz : z < w) (R : Int)
  (hnone : pivFrom l z 0 l.length = l.length → Ev (fun k => quietusref07_Rank.l0 k (w : Int) l (rank : Int) ((z + 1 : Nat) : Int)) R)
  (hsome : pivFrom l z 0 l.length < l.length → Ev (fun k => quietusref07_Rank.l0 k (w : Int) (restFrom l (pivFrom l z 0 l.length) z 0 l.length) ((rank + 1 : Nat) : Int) ((z + 1 : Nat) : Int)) R) :
  ∀ n i, i + n = l.length → pivFrom l z i n = pivFrom l z 0 l.length → Ev (fun k => quietusref07_Rank.l1 k (w : Int) l (rank : Int) (z : Int) (-1) (i : Int)) R := by
 intro n
 induction n with
 | zero =>
  intro i hi hpv
  refine Ev.step (f := fun k => quietusref07_Rank.j2 k (w : Int) l (rank : Int) (z : Int) (-1) (i : Int) false) (fun k => ?_) (Ev.step (f := fun k => quietusref07_Rank.l0 k (w : Int) l (rank : Int) ((z + 1 : Nat) : Int)) (fun k => ?_) (hnone ?_))
  ·simp only [quietusref07_Rank.l1]
   rw [if_neg (by omega)]
  ·simp only [quietusref07_Rank.j2]
   rw [if_neg (by decide), if_pos (by decide), wrap_succ (by omega)]
  ·rw [← hpv]; simp only [pivFrom]; omega
 | succ n ih =>
  intro i hi hpv
  have hi' := rdL_at (show i < l.length by omega)
  have hrl := (hl _ hi').2
  by_cases e : rd (rd_L4 l (i : Int)) (z : Int) = 0
  ·refine Ev.step (f := fun k => quietusref07_Rank.j2 k (w : Int) l (rank : Int) (z : Int) (-1) (i : Int) true) (fun k => ?_) (Ev.step (f := fun k => quietusref07_Rank.l1 k (w : Int) l (rank : Int) (z : Int) (-1) ((i + 1 : Nat) : Int)) (fun k => ?_) (ih (i + 1) (by omega) ?_))
   ·simp only [quietusref07_Rank.l1]
    rw [if_pos (by omega)]
    rfl
   ·simp only [quietusref07_Rank.j2, if_true]
    rw [if_pos (by omega), if_pos (by omega), if_pos (by omega), if_pos (by omega), if_pos e, wrap_succ (by omega)]
   ·rw [← hpv]; simp only [pivFrom]; rw [if_pos e]
  ·have hpi : pivFrom l z 0 l.length = i := by rw [← hpv]; simp only [pivFrom]; rw [if_neg e]
   have hs := hsome (by omega)
   rw [hpi] at hs
   have h2 := rrank_l2 w hw l hl hll (rank + 1) z i hz (by omega) e R l.length 0 [] (Nat.zero_add _) (Nat.zero_le _) hs
   refine Ev.step (f := fun k => quietusref07_Rank.j2 k (w : Int) l (rank : Int) (z : Int) (-1) (i : Int) true) (fun k => ?_) (Ev.step (f := fun k => quietusref07_Rank.l1 k (w : Int) l (rank : Int) (z : Int) (i : Int) ((i + 1 : Nat) : Int)) (fun k => ?_) (Ev.step (f := fun k => quietusref07_Rank.j2 k (w : Int) l (rank : Int) (z : Int) (i : Int) ((i + 1 : Nat) : Int) false) (fun k => ?_) (Ev.step (f := fun k => quietusref07_Rank.l2 k (w : Int) l ((rank + 1 : Nat) : Int) (z : Int) (i : Int) [] ((0 : Nat) : Int)) (fun k => ?_) h2)))
   ·simp only [quietusref07_Rank.l1]
    rw [if_pos (by omega)]
    rfl
   ·simp only [quietusref07_Rank.j2, if_true]
    rw [if_pos (by omega), if_pos (by omega), if_pos (by omega), if_pos (by omega), if_neg e, wrap_succ (by omega)]
   ·simp only [quietusref07_Rank.l1]
    have : decide ((i : Int) < 0) = false := decide_eq_false (by omega)
    rw [this, ite_self]
   ·simp only [quietusref07_Rank.j2]
    rw [if_neg (by decide), if_neg (by omega), wrap_succ (by omega)]
    rfl
theorem rrank_l0 (w : Nat) (hw : w ≤ 30) : ∀ n z l rank, z + n = w → (∀ r ∈ l, RowB w r) → l.length ≤ 100 → rank ≤ z → Ev (fun k => quietusref07_Rank.l0 k (w : Int) l (rank : Int) (z : Int)) ((rank + rkFrom n z l : Nat) : Int) := by
 intro n
 induction n with
 | zero =>
  intro z l rank hz _ _ _
  refine Ev.step (f := fun _ => some (rank : Int)) (fun k => ?_) (Ev.now _)
  simp only [quietusref07_Rank.l0]
  rw [if_neg (by omega)]
 | succ n ih =>
  intro z l rank hz hl hll hrank
  refine Ev.step (f := fun k => quietusref07_Rank.l1 k (w : Int) l (rank : Int) (z : Int) (-1) ((0 : Nat) : Int)) (fun k => ?_) (rrank_l1 w hw l hl hll rank z (by omega) (by omega) _ (fun h => ?_) (fun h => ?_) l.length 0 (Nat.zero_add _) rfl)
  ·simp only [quietusref07_Rank.l0]
   rw [if_pos (by omega)]
   rfl
  ·simp only [rkFrom]
   rw [if_pos h]
   exact ih (z + 1) l rank (by omega) hl hll (by omega)
  ·simp only [rkFrom]
   rw [if_neg (by omega), ← Nat.add_assoc]
   refine ih (z + 1) _ (rank + 1) (by omega) (fun r hr => ?_) ?_ (by omega)
   ·obtain ⟨t, _, ht, _, rfl⟩ := (mem_rest l.length 0).1 hr
    exact lessRow_row (by omega) (hl _ (rdL_at (by omega)))
   ·have := rest_length l (pivFrom l z 0 l.length) z l.length 0; omega
theorem rrank_ev (w : Nat) (hw : w ≤ 30) (l : List (List Int)) (hl : ∀ r ∈ l, RowB w r) (hll : l.length ≤ 100) : Ev (fun k => quietusref07_Rank.f k l (w : Int)) ((rkFrom w 0 l : Nat) : Int) := by
 refine Ev.congr (f := fun k => quietusref07_Rank.l0 k (w : Int) l ((0 : Nat) : Int) ((0 : Nat) : Int)) (fun k => by unfold quietusref07_Rank.f; rfl) (ev_eq (rrank_l0 w hw w 0 l 0 (Nat.zero_add _) hl hll (Nat.le_refl _)) (by rw [Nat.zero_add]))
theorem rank_full {w : Nat} {l : List (List Int)} (hl : ∀ r ∈ l, RowB w r) : rkFrom w 0 l = w ↔ Full w l := by
 rw [rk_iff w w 0 l (Nat.zero_add _) (fun r hr => ⟨hl r hr, fun i hi => absurd hi (Nat.not_lt_zero i)⟩)]
 exact ⟨fun h v hv hk i hi => h v hv hk i (Nat.zero_le _) hi, fun h v hv hk i _ hi => h v hv hk i hi⟩

set_option linter.unusedSimpArgs false
theorem half_shift (x i : Nat) : (x >>> i) / 2 = x >>> (i + 1) := by
 rw [Nat.shiftRight_eq_div_pow, Nat.shiftRight_eq_div_pow, Nat.div_div_eq_div_mul, Nat.pow_succ]
theorem rin_from (x n : Nat) (hx : x < 2 ^ 62) (hn : n ≤ 64) : ∀ j i, i + j = n → Ev (fun k => quietusref07_In.l0 k ((x >>> i : Nat) : Int) (n : Int) (i : Int)) (decide ((x >>> n) % 2 = 1)) := by
 intro j
 induction j with
 | zero =>
  intro i hi
  obtain rfl : i = n := by omega
  refine Ev.step (f := fun _ => some (decide ((x >>> i) % 2 = 1))) (fun k => ?_) (Ev.now _)
  generalize x >>> i = y
  simp only [quietusref07_In.l0]
  rw [if_neg (by omega), Int.tmod_eq_emod_of_nonneg (by omega)]
  congr 1
  rw [Bool.eq_iff_iff, beq_iff_eq, decide_eq_true_eq]
  omega
 | succ j ih =>
  intro i hi
  have hle : x >>> i ≤ x := Nat.shiftRight_le x i
  have hnx := ih (i + 1) (by omega)
  rw [← half_shift] at hnx
  generalize x >>> i = y at *
  have e : wrap64 (Int.tdiv ((y : Nat) : Int) 2) = ((y / 2 : Nat) : Int) := by
   rw [Int.tdiv_eq_ediv_of_nonneg (by omega)]
   unfold wrap64; omega
  refine Ev.step (f := fun k => quietusref07_In.l0 k ((y / 2 : Nat) : Int) (n : Int) ((i + 1 : Nat) : Int)) (fun k => ?_) hnx
  simp only [quietusref07_In.l0]
  rw [if_pos (by omega), e, wrap_succ (by omega)]
theorem rin_ev (x n : Nat) (hx : x < 2 ^ 62) (hn : n ≤ 64) : Ev (fun k => quietusref07_In.f k (x : Int) (n : Int)) (decide ((x >>> n) % 2 = 1)) :=
 Ev.congr (f := fun k => quietusref07_In.l0 k ((x >>> 0 : Nat) : Int) (n : Int) ((0 : Nat) : Int)) (fun k => by unfold quietusref07_In.f; rfl) (rin_from x n hx hn n 0 (Nat.zero_add _))
theorem rbit_from (n : Nat) (hn : n ≤ 60) : ∀ j i, i + j = n → Ev (fun k => quietusref07_Bit.l0 k (n : Int) ((2 ^ i : Nat) : Int) (i : Int)) ((2 ^ n : Nat) : Int) := by
 intro j
 induction j with
 | zero =>
  intro i hi
  obtain rfl : i = n := by omega
  refine Ev.step (f := fun _ => some ((2 ^ i : Nat) : Int)) (fun k => ?_) (Ev.now _)
  simp only [quietusref07_Bit.l0]
  rw [if_neg (by omega)]
 | succ j ih =>
  intro i hi
  have hp : 2 ^ (i + 1) ≤ 2 ^ 60 := Nat.pow_le_pow_right (by decide) (by omega)
  have hs : 2 ^ (i + 1) = 2 * 2 ^ i := by rw [Nat.pow_succ, Nat.mul_comm]
  have e : wrap64 (2 * ((2 ^ i : Nat) : Int)) = ((2 ^ (i + 1) : Nat) : Int) := by
   rw [hs] at hp ⊢
   generalize 2 ^ i = z at *
   unfold wrap64; omega
  refine Ev.step (f := fun k => quietusref07_Bit.l0 k (n : Int) ((2 ^ (i + 1) : Nat) : Int) ((i + 1 : Nat) : Int)) (fun k => ?_) (ih (i + 1) (by omega))
  simp only [quietusref07_Bit.l0]
  rw [if_pos (by omega), e, wrap_succ (by omega)]
theorem rbit_ev (n : Nat) (hn : n ≤ 60) : Ev (fun k => quietusref07_Bit.f k (n : Int)) ((2 ^ n : Nat) : Int) :=
 Ev.congr (f := fun k => quietusref07_Bit.l0 k (n : Int) ((2 ^ 0 : Nat) : Int) ((0 : Nat) : Int)) (fun k => by unfold quietusref07_Bit.f; rfl) (rbit_from n hn n 0 (Nat.zero_add _))
/-- How many pieces of the first n a set has. -/
def bitsUpto (x : Nat) : Nat → Nat
 | 0 => 0
 | n + 1 => bitsUpto x n + (x >>> n) % 2
theorem bitsUpto_low (x : Nat) : ∀ n, bitsUpto x (n + 1) = x % 2 + bitsUpto (x / 2) n
 | 0 => by simp [bitsUpto]
 | n + 1 => by
  show bitsUpto x (n + 1) + (x >>> (n + 1)) % 2 = x % 2 + (bitsUpto (x / 2) n + ((x / 2) >>> n) % 2)
  rw [bitsUpto_low x n]
  have : x >>> (n + 1) = (x / 2) >>> n := by rw [Nat.shiftRight_eq_div_pow, Nat.shiftRight_eq_div_pow, Nat.div_div_eq_div_mul, Nat.pow_succ, Nat.mul_comm]
  rw [this]; omega
theorem bitsUpto_zero : ∀ n, bitsUpto 0 n = 0
 | 0 => rfl
 | n + 1 => by show bitsUpto 0 n + (0 >>> n) % 2 = 0; rw [bitsUpto_zero n]; simp
theorem ones_bits : ∀ m, m < 1024 → onesOf m = ((bitsUpto m 10 : Nat) : Int) := fun m hm => of_decide_eq_true (QGF.allN_spec (n := 1024) (p := fun m => decide (onesOf m = ((bitsUpto m 10 : Nat) : Int))) (by decide +kernel) m hm)
/-! can it be recovered -/
def canB (d : Int) (l : List (List Int)) (m mask : Int) : Bool := (collectOk (rowsFor d l m) mask []).isSome
theorem rowsOf_rd {D M : Nat} {l : List (List Int)} {t : Nat} (h : t < D + l.length + M) : rd_L4 (rowsOf D l M) (t : Int) = rowAt D l t := by
 rw [rowsOf_eq]
 simp [rd_L4, List.getD_eq_getElem?_getD, h]
theorem rowsOf_length (D M : Nat) (l : List (List Int)) : (rowsOf D l M).length = D + l.length + M := by rw [rowsOf_eq]; simp
theorem rowAt_row (D : Nat) (l : List (List Int)) (t : Nat) : RowB D (rowAt D l t) := ⟨rowAt_isB D l t, rowAt_length D l t⟩
theorem rowWidth_rows {D M : Nat} {l : List (List Int)} (h : 0 < D) : rowWidth (rowsOf D l M) = D := by
 unfold rowWidth
 rw [rowsOf_rd (by omega), rowAt_length]
theorem rowsOf_rowB {D M : Nat} {l : List (List Int)} (k : Nat) (hk : k < (rowsOf D l M).length) : RowB D (rd_L4 (rowsOf D l M) (k : Int)) := by
 rw [rowsOf_length] at hk
 rw [rowsOf_rd hk]
 exact rowAt_row D l k
theorem okRows_rows {D M : Nat} {l : List (List Int)} (h1 : 1 ≤ D) (h2 : D ≤ 16) (h3 : D + l.length + M ≤ 24) : okRows (rowsOf D l M) = true := by
 unfold okRows
 rw [rowWidth_rows (by omega), rowsOf_length]
 simp only [Bool.and_eq_true, Bool.or_eq_true, decide_eq_true_eq, List.all_eq_true]
 refine ⟨⟨⟨h3, .inl h1⟩, h2⟩, fun r hr => ?_⟩
 rw [rowsOf_eq] at hr
 obtain ⟨t, _, rfl⟩ := List.mem_map.1 hr
 exact ⟨fun x hx => List.all_eq_true.1 (rowAt_isB D l t) x hx, rowAt_length D l t⟩
theorem CodeOk.bounds {D M : Nat} {l : List (List Int)} (h : CodeOk (D : Int) l (M : Int)) : 1 ≤ D ∧ D ≤ 16 ∧ M ≤ 4 ∧ D + l.length + M ≤ 24 := by
 have h1 := h.d1; have h2 := h.d2; have h3 := h.m2; have h4 := h.sum
 omega
theorem canB_iff {D M : Nat} {l : List (List Int)} (hc : chk (D : Int) l (M : Int) = 0) (mask : Int) :
  canB (D : Int) l (M : Int) mask = true ↔ 0 ≤ mask ∧ mask < ((2 ^ (D + l.length + M) : Nat) : Int) ∧ Full D (selRows (rowsOf D l M) mask.toNat (D + l.length + M)) := by
 obtain ⟨h1, h2, h3, h4⟩ := (chk_ok hc).bounds
 have hrf : rowsFor (D : Int) l (M : Int) = rowsOf D l M := by unfold rowsFor; rw [if_pos hc]; rfl
 have hci := collect_iff (w := D) (mask := mask.toNat) (pieces := []) (rows := rowsOf D l M) rowsOf_rowB
 have hle := collectUpto_length D mask.toNat (rowsOf D l M) [] (rowsOf D l M).length
 unfold canB collectOk collectSt
 rw [hrf, rowWidth_rows (by omega)]
 rw [rowsOf_length] at hci hle ⊢
 have hp : ((2 : Int) ^ (D + l.length + M)) = ((2 ^ (D + l.length + M) : Nat) : Int) := by simp
 rw [hp]
 by_cases c1 : D + l.length + M = 0 ∨ mask < 0 ∨ ((2 ^ (D + l.length + M) : Nat) : Int) ≤ mask
 ·rw [if_pos c1]
  constructor
  ·intro h; cases h
  ·rintro ⟨h5, h6, _⟩; omega
 ·rw [if_neg c1]
  by_cases c2 : (collectUpto D mask.toNat (rowsOf D l M) [] (D + l.length + M)).length < D
  ·rw [if_pos c2]
   constructor
   ·intro h; cases h
   ·rintro ⟨_, _, h7⟩
    have := hci.2 h7; omega
  ·rw [if_neg c2]
   constructor
   ·intro _
    exact ⟨by omega, by omega, hci.1 (by omega)⟩
   ·intro _; rfl
theorem canB_err {d : Int} {l : List (List Int)} {m mask : Int} (h : chk d l m ≠ 0) : canB d l m mask = false := by
 unfold canB rowsFor
 rw [if_neg h]
 rfl
def setB (d : Int) (l : List (List Int)) (m mask : Int) : Bool := decide (0 ≤ mask) && decide (mask < ((2 ^ (piecesOf d l m).toNat : Nat) : Int))
theorem rset_ev (d : Int) (l : List (List Int)) (m mask : Int) (hs : Small l) : Ev (fun k => quietusref07_IsSet.f k d l m mask) (setB d l m mask) := by
 unfold setB
 by_cases h0 : 0 ≤ mask
 ·have hp : ∃ n : Nat, piecesOf d l m = (n : Int) ∧ n ≤ 24 := by
   unfold piecesOf
   by_cases e : chk d l m = 0
   ·have hok := chk_ok e
    obtain ⟨D, M, rfl, rfl⟩ := hok.nats
    obtain ⟨h1, h2, h3, h4⟩ := hok.bounds
    rw [if_pos e]
    exact ⟨D + l.length + M, by omega, h4⟩
   ·rw [if_neg e]; exact ⟨0, rfl, by decide⟩
  obtain ⟨n, hn, hn2⟩ := hp
  refine Ev.congr (f := fun k => (quietusref07_Pieces.f k d l m).bind fun t => (quietusref07_Bit.f k t).bind fun t2 => some (decide (mask < t2))) (fun k => by unfold quietusref07_IsSet.f; rw [if_pos h0]) (Ev.bind (rpieces_ev d l m hs) ?_)
  rw [hn, Int.toNat_natCast]
  refine Ev.bind (rbit_ev n (by omega)) ?_
  simp only [h0, decide_true, Bool.true_and]
  exact Ev.now _
 ·refine Ev.congr (f := fun _ => some false) (fun k => by unfold quietusref07_IsSet.f; rw [if_neg (by omega)]) (ev_eq (Ev.now false) ?_)
  simp [h0]
theorem selRows_length (rows : List (List Int)) (mask : Nat) : ∀ n, (selRows rows mask n).length ≤ n
 | 0 => Nat.le_refl _
 | n + 1 => by
  simp only [selRows]
  have := selRows_length rows mask n
  split
  ·simp; omega
  ·omega
theorem rrec_from (D M : Nat) (l : List (List Int)) (hs : Small l) (hc : chk (D : Int) l (M : Int) = 0) (x : Nat) (hx : x < 2 ^ 62) : ∀ n i, i + n = D + l.length + M →
  Ev (fun k => quietusref07_Recoverable.l0 k (x : Int) (selRows (rowsOf D l M) x i) (i : Int) (D : Int) l (M : Int)) (decide (rkFrom D 0 (selRows (rowsOf D l M) x (D + l.length + M)) = D)) := by
 have hok := chk_ok hc
 obtain ⟨h1, h2, h3, h4⟩ := hok.bounds
 have hp : piecesOf (D : Int) l (M : Int) = ((D + l.length + M : Nat) : Int) := by unfold piecesOf; rw [if_pos hc]; omega
 have hpe := rpieces_ev (D : Int) l (M : Int) hs
 rw [hp] at hpe
 have hun : ∀ i k, quietusref07_Recoverable.l0 (k + 1) (x : Int) (selRows (rowsOf D l M) x i) (i : Nat) (D : Int) l (M : Int) = (quietusref07_Pieces.f k (D : Int) l (M : Int)).bind fun t => if (i : Int) < t then ((quietusref07_In.f k (x : Int) (i : Int)).bind fun t220 => if t220 = true then (quietusref07_row.f k (D : Int) l (M : Int) (i : Int)).bind fun t221 => if (selRows (rowsOf D l M) x i).length < 5864062014805 then quietusref07_Recoverable.l0 k (x : Int) (selRows (rowsOf D l M) x i ++ [t221]) (wrap64 ((i : Int) + 1)) (D : Int) l (M : Int) else none else quietusref07_Recoverable.l0 k (x : Int) (selRows (rowsOf D l M) x i) (wrap64 ((i : Int) + 1)) (D : Int) l (M : Int)) else ((quietusref07_Rank.f k (selRows (rowsOf D l M) x i) (D : Int)).bind fun t219 => some (t219 == (D : Int))) := fun i k => by simp only [quietusref07_Recoverable.l0]
 intro n
 induction n with
 | zero =>
  intro i hi
  obtain rfl : i = D + l.length + M := by omega
  refine Ev.step (hun _) (Ev.bind hpe ?_)
  simp only [Int.lt_irrefl, if_false]
  have hl : ∀ r ∈ selRows (rowsOf D l M) x (D + l.length + M), RowB D r := by
   have : ∀ n, n ≤ D + l.length + M → ∀ r ∈ selRows (rowsOf D l M) x n, RowB D r := by
    intro n
    induction n with
    | zero => intro _ r hr; cases hr
    | succ n ih =>
     intro hn r hr
     simp only [selRows] at hr
     split at hr
     ·rcases List.mem_append.1 hr with hr | hr
      ·exact ih (by omega) r hr
      ·obtain rfl := List.mem_singleton.1 hr
       exact rowsOf_rowB n (by rw [rowsOf_length]; omega)
     ·exact ih (by omega) r hr
   exact this _ (Nat.le_refl _)
  refine Ev.bind (rrank_ev D (by omega) _ hl (by have := selRows_length (rowsOf D l M) x (D + l.length + M); omega)) (ev_eq (Ev.now _) ?_)
  rw [Bool.eq_iff_iff, beq_iff_eq, decide_eq_true_eq]
  omega
 | succ n ih =>
  intro i hi
  have hnx := ih (i + 1) (by omega)
  refine Ev.step (hun _) (Ev.bind hpe ?_)
  have hi2 : (i : Int) < ((D + l.length + M : Nat) : Int) := by omega
  simp only [hi2, if_true]
  refine Ev.bind (rin_ev x i hx (by omega)) ?_
  simp only [selRows] at hnx
  rw [wrap_succ (by omega)]
  by_cases e : (x >>> i) % 2 = 1
  ·rw [if_pos e] at hnx
   have hlen : (selRows (rowsOf D l M) x i).length < 5864062014805 := by have := selRows_length (rowsOf D l M) x i; omega
   simp only [e, decide_true, if_true, hlen]
   refine Ev.bind (rrow_ev D l (M : Int) hs (by omega) (by omega) hok.elems i (by omega)) ?_
   rw [rowsOf_rd (by omega)] at hnx
   exact hnx
  ·rw [if_neg e] at hnx
   simp only [e, decide_false, Bool.false_eq_true, if_false]
   exact hnx
theorem selRows_rowB {D M : Nat} {l : List (List Int)} {x : Nat} : ∀ n, n ≤ D + l.length + M → ∀ r ∈ selRows (rowsOf D l M) x n, RowB D r := by
 intro n
 induction n with
 | zero => intro _ r hr; cases hr
 | succ n ih =>
  intro hn r hr
  simp only [selRows] at hr
  split at hr
  ·rcases List.mem_append.1 hr with hr | hr
   ·exact ih (by omega) r hr
   ·obtain rfl := List.mem_singleton.1 hr
    exact rowsOf_rowB n (by rw [rowsOf_length]; omega)
  ·exact ih (by omega) r hr
theorem rrec_ev (d : Int) (l : List (List Int)) (m mask : Int) (hs : Small l) : Ev (fun k => quietusref07_Recoverable.f k d l m mask) (canB d l m mask) := by
 refine Ev.congr (f := fun k => (quietusref07_Check.f k d l m).bind fun t => if t = 0 then ((quietusref07_IsSet.f k d l m mask).bind fun t2 => if t2 = true then quietusref07_Recoverable.l0 k mask ([] : List (List Int)) 0 d l m else some false) else some false) (fun k => rfl) (Ev.bind (rchk_ev d l m hs) ?_)
 by_cases e : chk d l m = 0
 ·have hok := chk_ok e
  obtain ⟨D, M, rfl, rfl⟩ := hok.nats
  obtain ⟨h1, h2, h3, h4⟩ := hok.bounds
  simp only [e, if_true]
  refine Ev.bind (rset_ev (D : Int) l (M : Int) mask hs) ?_
  have hp : piecesOf (D : Int) l (M : Int) = ((D + l.length + M : Nat) : Int) := by unfold piecesOf; rw [if_pos e]; omega
  have hci := canB_iff e mask
  unfold setB
  rw [hp, Int.toNat_natCast]
  by_cases h0 : 0 ≤ mask ∧ mask < ((2 ^ (D + l.length + M) : Nat) : Int)
  ·obtain ⟨x, rfl⟩ := Int.eq_ofNat_of_zero_le h0.1
   have hpl : 2 ^ (D + l.length + M) ≤ 2 ^ 24 := Nat.pow_le_pow_right (by decide) h4
   have hx : x < 2 ^ (D + l.length + M) := by have := h0.2; omega
   simp only [h0.1, h0.2, decide_true, Bool.true_and, if_true]
   refine ev_eq (rrec_from D M l hs e x (by omega) _ 0 (Nat.zero_add _)) ?_
   rw [Bool.eq_iff_iff, decide_eq_true_eq, hci, rank_full (selRows_rowB _ (Nat.le_refl _)), Int.toNat_natCast]
   exact ⟨fun h => ⟨h0.1, h0.2, h⟩, fun h => h.2.2⟩
  ·have hf : canB (D : Int) l (M : Int) mask = false := by
    cases h : canB (D : Int) l (M : Int) mask
    ·rfl
    ·exact absurd ⟨(hci.1 h).1, (hci.1 h).2.1⟩ h0
   rw [hf]
   have : (decide (0 ≤ mask) && decide (mask < ((2 ^ (D + l.length + M) : Nat) : Int))) = false := by
    rw [Bool.eq_false_iff]
    intro h
    rw [Bool.and_eq_true, decide_eq_true_eq, decide_eq_true_eq] at h
    exact h0 h
   simp only [this, Bool.false_eq_true, if_false]
   exact Ev.now _
 ·rw [canB_err e]
  simp only [e, if_false]
  exact Ev.now _
end Go.Proofs.YtkadfidmfnpohaaDoor.XB

namespace Go.Proofs.YtkadfidmfnpohaaDoor.XB
open Go.RowKit Go.Proofs.YtkadfidmfnpohaaDoorW.PrintWords Go.Proofs.YtkadfidmfnpohaaDoorW.PrintLast Go.Proofs.YtkadfidmfnpohaaDoorW.PrintMore
set_option linter.unusedVariables false
set_option linter.unusedSimpArgs false
def canN (D : Nat) (l : List (List Int)) (M : Nat) (x : Nat) : Bool := canB (D : Int) l (M : Int) (x : Int)
/-! the reference's Distance -/
/-! what the law asks -/
def badAt (n : Nat) (pl : List Int) : Bool := pl.any fun x => decide (x < -1) || decide ((n : Int) ≤ x)
def badCh (ch : List Int) : Bool := ch.any fun c => decide (c < 0) || decide (16 < c)
def chk12 (d : Int) (l : List (List Int)) (m : Int) (pl ch : List Int) : Int :=
 if chk d l m = 0 then (if 12 < ch.length then 2 else if (pl.length : Int) = d + l.length + m then (if badAt ch.length pl = true then 1 else if badCh ch = true then 3 else 0) else 1) else chk d l m
theorem any_drop {p : Int → Bool} {l : List Int} {i : Nat} (h : i < l.length) : (l.drop i).any p = (p (rd l (i : Int)) || (l.drop (i + 1)).any p) := by
 rw [List.drop_eq_getElem_cons h, List.any_cons, rdi h]
theorem kchk_l1 (ch : List Int) (hc : ch.length ≤ 1000) : ∀ n i : Nat, i + n = ch.length → Ev (fun k => risk_Check.l1 k ch (ch.length : Int) (i : Int)) (if badCh (ch.drop i) = true then 3 else 0) := by
 intro n
 induction n with
 | zero =>
  intro i hi
  refine Ev.step (f := fun _ => some 0) (fun k => ?_) (ev_eq (Ev.now _) ?_)
  ·simp only [risk_Check.l1]; rw [if_neg (by omega)]
  ·rw [List.drop_of_length_le (by omega)]; rfl
 | succ n ih =>
  intro i hi
  have hlt : i < ch.length := by omega
  unfold badCh
  rw [any_drop hlt]
  by_cases e1 : rd ch (i : Int) < 0
  ·simp only [e1, decide_true, Bool.true_or, if_true]
   refine Ev.step (f := fun _ => some 3) (fun k => ?_) (Ev.now _)
   simp only [risk_Check.l1]; rw [if_pos (by omega), if_pos (by omega), if_pos (by omega), if_pos e1]
  ·by_cases e2 : 16 < rd ch (i : Int)
   ·simp only [e1, e2, decide_true, decide_false, Bool.false_or, Bool.true_or, if_true]
    refine Ev.step (f := fun _ => some 3) (fun k => ?_) (Ev.now _)
    simp only [risk_Check.l1]; rw [if_pos (by omega), if_pos (by omega), if_pos (by omega), if_neg e1, if_pos (by omega)]
   ·simp only [e1, e2, decide_false, Bool.false_or]
    refine Ev.step (f := fun k => risk_Check.l1 k ch (ch.length : Int) ((i + 1 : Nat) : Int)) (fun k => ?_) (ih (i + 1) (by omega))
    simp only [risk_Check.l1]; rw [if_pos (by omega), if_pos (by omega), if_pos (by omega), if_neg e1, if_neg (by omega), wrap_succ (by omega)]
theorem kchk_l0 (d : Int) (l : List (List Int)) (m : Int) (pl ch : List Int) (hp : pl.length ≤ 1000) (hc : ch.length ≤ 1000) : ∀ n i : Nat, i + n = pl.length →
  Ev (fun k => risk_Check.l0 k (ch.length : Int) pl (pl.length : Int) (i : Int) d l m pl ch) (if badAt ch.length (pl.drop i) = true then 1 else if badCh ch = true then 3 else 0) := by
 intro n
 induction n with
 | zero =>
  intro i hi
  refine Ev.step (f := fun k => risk_Check.l1 k ch (ch.length : Int) ((0 : Nat) : Int)) (fun k => ?_) (ev_eq (kchk_l1 ch hc _ 0 (Nat.zero_add _)) ?_)
  ·simp only [risk_Check.l0]; rw [if_neg (by omega)]; rfl
  ·rw [List.drop_of_length_le (show pl.length ≤ i by omega), List.drop_zero]; rfl
 | succ n ih =>
  intro i hi
  have hlt : i < pl.length := by omega
  unfold badAt
  rw [any_drop hlt]
  by_cases e1 : rd pl (i : Int) < -1
  ·simp only [e1, decide_true, Bool.true_or, if_true]
   refine Ev.step (f := fun _ => some 1) (fun k => ?_) (Ev.now _)
   simp only [risk_Check.l0]; rw [if_pos (by omega), if_pos (by omega), if_pos (by omega), if_pos e1]
  ·by_cases e2 : (ch.length : Int) ≤ rd pl (i : Int)
   ·simp only [e1, e2, decide_true, decide_false, Bool.false_or, Bool.true_or, if_true]
    refine Ev.step (f := fun _ => some 1) (fun k => ?_) (Ev.now _)
    simp only [risk_Check.l0]; rw [if_pos (by omega), if_pos (by omega), if_pos (by omega), if_neg e1, if_pos (by omega)]
   ·simp only [e1, e2, decide_false, Bool.false_or]
    refine Ev.step (f := fun k => risk_Check.l0 k (ch.length : Int) pl (pl.length : Int) ((i + 1 : Nat) : Int) d l m pl ch) (fun k => ?_) (ih (i + 1) (by omega))
    simp only [risk_Check.l0]; rw [if_pos (by omega), if_pos (by omega), if_pos (by omega), if_neg e1, if_neg (by omega), wrap_succ (by omega)]
theorem kchk_ev (d : Int) (l : List (List Int)) (m : Int) (pl ch : List Int) (hs : Small l) (hp : pl.length ≤ 1000) (hc : ch.length ≤ 1000) : Ev (fun k => risk_Check.f k d l m pl ch) (chk12 d l m pl ch) := by
 refine Ev.congr (f := fun k => (code_Check.f k d l m).bind fun t => if t = 0 then (if (ch.length : Int) > 12 then (some 2) else ((code_Pieces.f k d l m).bind fun t2 => (if (pl.length : Int) = t2 then (risk_Check.l0 k (ch.length : Int) pl (pl.length : Int) 0 d l m pl ch) else (some 1)))) else (some t)) (fun k => rfl) (Ev.bind (cchk_ev d l m hs) ?_)
 unfold chk12
 by_cases e : chk d l m = 0
 ·simp only [e, if_true]
  by_cases e2 : 12 < ch.length
  ·rw [if_pos e2]
   exact Ev.congr (f := fun _ => some 2) (fun k => by rw [if_pos (by omega)]) (Ev.now _)
  ·rw [if_neg e2]
   refine Ev.congr (f := fun k => (code_Pieces.f k d l m).bind fun t2 => (if (pl.length : Int) = t2 then (risk_Check.l0 k (ch.length : Int) pl (pl.length : Int) 0 d l m pl ch) else (some 1))) (fun k => by rw [if_neg (by omega)]) (Ev.bind (cpieces_ev d l m hs) ?_)
   have hpp : piecesOf d l m = d + l.length + m := by unfold piecesOf; rw [if_pos e]
   rw [hpp]
   by_cases e3 : (pl.length : Int) = d + l.length + m
   ·rw [if_pos e3]
    exact Ev.congr (f := fun k => risk_Check.l0 k (ch.length : Int) pl (pl.length : Int) ((0 : Nat) : Int) d l m pl ch) (fun k => by rw [if_pos e3]; rfl) (kchk_l0 d l m pl ch hp hc _ 0 (Nat.zero_add _))
   ·rw [if_neg e3]
    exact Ev.congr (f := fun _ => some 1) (fun k => by rw [if_neg e3]) (Ev.now _)
 ·simp only [e, if_false]
  exact Ev.now _
/-- A peril without an error. -/
structure PerilOk (D : Nat) (l : List (List Int)) (M : Nat) (pl ch : List Int) : Prop where
 code : chk (D : Int) l (M : Int) = 0
 nch : ch.length ≤ 12
 npl : pl.length = D + l.length + M
 pls : ∀ x ∈ pl, -1 ≤ x ∧ x < ch.length
 chs : ∀ c ∈ ch, 0 ≤ c ∧ c ≤ 16
theorem chk12_ok {d : Int} {l : List (List Int)} {m : Int} {pl ch : List Int} (h : chk12 d l m pl ch = 0) : ∃ D M : Nat, d = D ∧ m = M ∧ PerilOk D l M pl ch := by
 unfold chk12 at h
 by_cases e : chk d l m = 0
 ·rw [if_pos e] at h
  have hok := chk_ok e
  obtain ⟨D, M, rfl, rfl⟩ := hok.nats
  by_cases e2 : 12 < ch.length
  ·rw [if_pos e2] at h; cases h
  rw [if_neg e2] at h
  by_cases e3 : (pl.length : Int) = D + l.length + M
  ·rw [if_pos e3] at h
   by_cases e4 : badAt ch.length pl = true
   ·rw [if_pos e4] at h; cases h
   rw [if_neg e4] at h
   by_cases e5 : badCh ch = true
   ·rw [if_pos e5] at h; cases h
   refine ⟨D, M, rfl, rfl, e, by omega, by omega, fun x hx => ?_, fun c hc => ?_⟩
   ·have h5 : ¬ ∃ x ∈ pl, (decide (x < -1) || decide ((ch.length : Int) ≤ x)) = true := fun hh => e4 (List.any_eq_true.2 hh)
    have h6 : ¬ (decide (x < -1) || decide ((ch.length : Int) ≤ x)) = true := fun hh => h5 ⟨x, hx, hh⟩
    simp only [Bool.or_eq_true, decide_eq_true_eq] at h6
    omega
   ·have h6 : ¬ (decide (c < 0) || decide (16 < c)) = true := fun hh => e5 (List.any_eq_true.2 ⟨c, hc, hh⟩)
    simp only [Bool.or_eq_true, decide_eq_true_eq] at h6
    omega
  ·rw [if_neg e3] at h; cases h
 ·rw [if_neg e] at h; exact absurd h e
theorem PerilOk.chk {D : Nat} {l : List (List Int)} {M : Nat} {pl ch : List Int} (h : PerilOk D l M pl ch) : chk12 (D : Int) l (M : Int) pl ch = 0 := by
 unfold chk12
 rw [if_pos h.code, if_neg (by have := h.nch; omega), if_pos (by have := h.npl; omega)]
 have e4 : ¬ badAt ch.length pl = true := fun hh => by
  obtain ⟨x, hx, h6⟩ := List.any_eq_true.1 hh
  have := h.pls x hx
  simp only [Bool.or_eq_true, decide_eq_true_eq] at h6
  omega
 have e5 : ¬ badCh ch = true := fun hh => by
  obtain ⟨x, hx, h6⟩ := List.any_eq_true.1 hh
  have := h.chs x hx
  simp only [Bool.or_eq_true, decide_eq_true_eq] at h6
  omega
 rw [if_neg e4, if_neg e5]
theorem PerilOk.okp {D : Nat} {l : List (List Int)} {M : Nat} {pl ch : List Int} (h : PerilOk D l M pl ch) : okPeril pl ch = true := by
 have hb := (chk_ok h.code).bounds
 have := h.nch; have := h.npl
 exact okPeril_iff.2 ⟨by omega, by omega, fun x hx => by have := h.pls x hx; omega, h.chs⟩
/-! Few -/
def fewB12 (l : List (List Int)) (pl ch : List Int) (n : Int) : Bool := !(decide (n < ch.length) || (decide (60 < pl.length) || (decide (30 < l.length) || anyFrom (fun h => decide (30 < (rd_L1 l (h : Nat)).length)) 0 l.length)))
theorem few12_l0 (d : Int) (l : List (List Int)) (m : Int) (pl ch : List Int) (hl : l.length ≤ 4611686018427387000) : ∀ n i, i + n = l.length → Ev (fun k => quietusref12_Few.l0 k (i : Int) d l m pl ch) (!(anyFrom (fun h => decide (30 < (rd_L1 l (h : Nat)).length)) i n)) := by
 intro n
 induction n with
 | zero =>
  intro i hi
  refine Ev.step (f := fun _ => some true) (fun k => ?_) (Ev.now _)
  simp only [quietusref12_Few.l0]
  rw [if_neg (by omega)]
 | succ n ih =>
  intro i hi
  by_cases e : 30 < (rd_L1 l (i : Nat)).length
  ·simp only [anyFrom, e, decide_true, Bool.true_or, Bool.not_true]
   refine Ev.step (f := fun _ => some false) (fun k => ?_) (Ev.now _)
   simp only [quietusref12_Few.l0]
   rw [if_pos (by omega), if_pos (by omega), if_pos (by omega)]
  ·simp only [anyFrom, e, decide_false, Bool.false_or]
   refine Ev.step (f := fun k => quietusref12_Few.l0 k ((i + 1 : Nat) : Int) d l m pl ch) (fun k => ?_) (ih (i + 1) (by omega))
   simp only [quietusref12_Few.l0]
   rw [if_pos (by omega), if_pos (by omega), if_neg (by omega), wrap_succ (by omega)]
theorem few12_j0 (d : Int) (l : List (List Int)) (m : Int) (pl ch : List Int) : Ev (fun k => quietusref12_Few.j0 k true d l m pl ch) false :=
 Ev.step (f := fun _ => some false) (fun k => by simp only [quietusref12_Few.j0]; rfl) (Ev.now _)
theorem few12_ev (d : Int) (l : List (List Int)) (m : Int) (pl ch : List Int) (n : Int) : Ev (fun k => quietusref12_Few.f k d l m pl ch n) (fewB12 l pl ch n) := by
 unfold fewB12
 by_cases e : n < (ch.length : Int)
 ·simp only [e, decide_true, Bool.true_or, Bool.not_true]
  exact Ev.congr (f := fun k => quietusref12_Few.j0 k true d l m pl ch) (fun k => by unfold quietusref12_Few.f; rw [if_pos e]) (few12_j0 ..)
 ·by_cases e2 : 60 < pl.length
  ·simp only [e, e2, decide_true, decide_false, Bool.false_or, Bool.true_or, Bool.not_true]
   exact Ev.congr (f := fun k => quietusref12_Few.j0 k true d l m pl ch) (fun k => by unfold quietusref12_Few.f; rw [if_neg (by omega), if_pos (by omega)]) (few12_j0 ..)
  ·by_cases e3 : 30 < l.length
   ·simp only [e, e2, e3, decide_true, decide_false, Bool.false_or, Bool.true_or, Bool.not_true]
    refine Ev.congr (f := fun k => quietusref12_Few.j0 k true d l m pl ch) (fun k => ?_) (few12_j0 ..)
    unfold quietusref12_Few.f
    rw [if_neg (by omega), if_neg (by omega), show decide ((l.length : Int) > 30) = true from decide_eq_true (by omega)]
   ·simp only [e, e2, e3, decide_false, Bool.false_or]
    refine Ev.congr (f := fun k => quietusref12_Few.j0 k false d l m pl ch) (fun k => ?_) (Ev.step (f := fun k => quietusref12_Few.l0 k ((0 : Nat) : Int) d l m pl ch) (fun k => ?_) (few12_l0 d l m pl ch (by omega) _ 0 (Nat.zero_add _)))
    ·unfold quietusref12_Few.f
     rw [if_neg (by omega), if_neg (by omega), show decide ((l.length : Int) > 30) = false from decide_eq_false (by omega)]
    ·simp only [quietusref12_Few.j0]; rfl
theorem few12_small {l : List (List Int)} {pl ch : List Int} {n : Int} (h : fewB12 l pl ch n = true) : (ch.length : Int) ≤ n ∧ pl.length ≤ 60 ∧ l.length ≤ 30 ∧ Small l := by
 unfold fewB12 at h
 simp only [Bool.not_eq_true', Bool.or_eq_false_iff, decide_eq_false_iff_not] at h
 obtain ⟨h1, h2, h3, h4⟩ := h
 refine ⟨by omega, by omega, by omega, by omega, fun i => ?_⟩
 by_cases hi : i < l.length
 ·have := anyFrom_false h4 i (Nat.zero_le _) (by omega)
  simp only [decide_eq_false_iff_not] at this
  omega
 ·have : rd_L1 l i = [] := by
   unfold rd_L1
   rw [Int.toNat_natCast, List.getD_eq_getElem?_getD, List.getElem?_eq_none (by omega)]
   rfl
  rw [this]; simp
/-! the weights, without wraps -/
def wFac (ch : List Int) (f j : Nat) : Int := if (f >>> j) % 2 = 0 then 16 - rd ch (j : Int) else rd ch (j : Int)
def wNat (ch : List Int) (f : Nat) : Nat → Int
 | 0 => 1
 | j + 1 => wNat ch f j * wFac ch f j
theorem wFac_bd {ch : List Int} (h : ∀ c ∈ ch, 0 ≤ c ∧ c ≤ 16) (f : Nat) {j : Nat} (hj : j < ch.length) : 0 ≤ wFac ch f j ∧ wFac ch f j ≤ 16 := by
 have := h _ (rdm hj)
 unfold wFac; split <;> omega
theorem pow16_le {a b : Nat} (h : a ≤ b) : (16 : Int) ^ a ≤ 16 ^ b := by
 have : (16 : Nat) ^ a ≤ 16 ^ b := Nat.pow_le_pow_right (by decide) h
 exact_mod_cast this
theorem wNat_bd {ch : List Int} (h : ∀ c ∈ ch, 0 ≤ c ∧ c ≤ 16) (f : Nat) : ∀ j, j ≤ ch.length → 0 ≤ wNat ch f j ∧ wNat ch f j ≤ 16 ^ j
 | 0, _ => ⟨by show (0 : Int) ≤ 1; decide, by show (1 : Int) ≤ 16 ^ 0; decide⟩
 | j + 1, hj => by
  obtain ⟨h1, h2⟩ := wNat_bd h f j (by omega)
  obtain ⟨h3, h4⟩ := wFac_bd h f (show j < ch.length by omega)
  show 0 ≤ wNat ch f j * wFac ch f j ∧ wNat ch f j * wFac ch f j ≤ 16 ^ (j + 1)
  exact ⟨Int.mul_nonneg h1 h3, by rw [Int.pow_succ]; exact Int.mul_le_mul h2 h4 h3 (Int.le_trans h1 h2)⟩
theorem pow16_12 {n : Nat} (h : n ≤ 12) : (16 : Int) ^ n ≤ 281474976710656 := by
 have := pow16_le h
 exact this
theorem wUpto_nat {ch : List Int} (h : ∀ c ∈ ch, 0 ≤ c ∧ c ≤ 16) (hn : ch.length ≤ 12) (f : Nat) : ∀ j, j ≤ ch.length → wUpto ch f j = wNat ch f j
 | 0, _ => rfl
 | j + 1, hj => by
  show wrap64 (wUpto ch f j * (if (f >>> j) % 2 = 0 then 16 - rd ch (j : Int) else rd ch (j : Int))) = wNat ch f j * wFac ch f j
  rw [wUpto_nat h hn f j (by omega)]
  have h2 := wNat_bd h f (j + 1) hj
  have h3 := pow16_12 (n := j + 1) (by omega)
  have e : wNat ch f (j + 1) = wNat ch f j * wFac ch f j := rfl
  rw [e] at h2
  show wrap64 (wNat ch f j * wFac ch f j) = wNat ch f j * wFac ch f j
  generalize wNat ch f j * wFac ch f j = z at h2
  unfold wrap64; omega
def wtOf (ch : List Int) (f : Nat) : Int := wNat ch f ch.length
theorem wOf_eq {ch : List Int} (h : ∀ c ∈ ch, 0 ≤ c ∧ c ≤ 16) (hn : ch.length ≤ 12) (f : Nat) : wOf ch f = wtOf ch f := wUpto_nat h hn f _ (Nat.le_refl _)
/-- The sum of the weights of the sets that lose. -/
def lossSum (los : Nat → Bool) (wt : Nat → Int) : Nat → Int
 | 0 => 0
 | f + 1 => lossSum los wt f + if los f = true then wt f else 0
theorem lossSum_bd {los : Nat → Bool} {wt : Nat → Int} {B : Int} (h : ∀ f, 0 ≤ wt f ∧ wt f ≤ B) : ∀ n : Nat, 0 ≤ lossSum los wt n ∧ lossSum los wt n ≤ n * B
 | 0 => ⟨by show (0 : Int) ≤ 0; decide, by simp [lossSum]⟩
 | n + 1 => by
  obtain ⟨h1, h2⟩ := lossSum_bd (los := los) h n
  obtain ⟨h3, h4⟩ := h n
  have e : ((n + 1 : Nat) : Int) * B = n * B + B := by rw [Int.natCast_add, Int.add_mul]; simp
  rw [e]
  simp only [lossSum]
  split <;> omega
def losB (can : Nat → Bool) (pl : List Int) (f : Nat) : Bool := !can (leftUpto pl f pl.length)
theorem lossUpto_eq {can : Nat → Bool} {pl ch : List Int} (h : ∀ c ∈ ch, 0 ≤ c ∧ c ≤ 16) (hn : ch.length ≤ 12) : ∀ f, f ≤ 2 ^ ch.length → lossUpto can pl ch f = lossSum (losB can pl) (wtOf ch) f
 | 0, _ => rfl
 | f + 1, hf => by
  show (if 0 < wOf ch f ∧ can (leftUpto pl f pl.length) = false then wrap64 (lossUpto can pl ch f + wOf ch f) else lossUpto can pl ch f) = lossSum (losB can pl) (wtOf ch) f + if losB can pl f = true then wtOf ch f else 0
  rw [lossUpto_eq h hn f (by omega), wOf_eq h hn]
  have hw : ∀ g, 0 ≤ wtOf ch g ∧ wtOf ch g ≤ 16 ^ ch.length := fun g => wNat_bd h g _ (Nat.le_refl _)
  have hs := lossSum_bd (los := losB can pl) hw f
  have hwf := hw f
  have hp := pow16_12 hn
  have hf2 : (f : Int) ≤ 4096 := by
   have : 2 ^ ch.length ≤ 2 ^ 12 := Nat.pow_le_pow_right (by decide) hn
   have h12 : (2 : Nat) ^ 12 = 4096 := rfl
   omega
  have hs2 : lossSum (losB can pl) (wtOf ch) f ≤ 4096 * 281474976710656 := by
   refine Int.le_trans hs.2 (Int.mul_le_mul hf2 hp (by have := hwf; omega) (by decide))
  unfold losB
  cases hc : can (leftUpto pl f pl.length)
  ·simp only [Bool.not_false, if_true, and_true]
   by_cases h0 : 0 < wtOf ch f
   ·rw [if_pos h0]
    unfold losB at hs2 hs
    generalize lossSum (fun f => !can (leftUpto pl f pl.length)) (wtOf ch) f = z at *
    unfold wrap64; omega
   ·rw [if_neg h0]; omega
  ·simp
/-! the values of Lost, Loss, Least, Total -/
theorem okRows_for {D M : Nat} {l : List (List Int)} (hc : chk (D : Int) l (M : Int) = 0) : okRows (rowsFor (D : Int) l (M : Int)) = true := by
 obtain ⟨h1, h2, h3, h4⟩ := (chk_ok hc).bounds
 have hrf : rowsFor (D : Int) l (M : Int) = rowsOf D l M := by unfold rowsFor; rw [if_pos hc]; rfl
 rw [hrf]
 exact okRows_rows h1 h2 h4
def lossFor (D : Nat) (l : List (List Int)) (M : Nat) (pl ch : List Int) : Int := lossSum (losB (canN D l M) pl) (wtOf ch) (2 ^ ch.length)
theorem kloss_ev {D M : Nat} {l : List (List Int)} {pl ch : List Int} (h : PerilOk D l M pl ch) (hs : Small l) : Ev (fun k => risk_Loss.f k (D : Int) l (M : Int) pl ch) (lossFor D l M pl ch, 0) := by
 have hb := (chk_ok h.code).bounds
 have hp := h.npl; have hn := h.nch
 refine Ev.congr (f := fun k => (risk_Check.f k (D : Int) l (M : Int) pl ch).bind fun e => if e = 0 then (if okPeril pl ch = true then (code_Rows.f k (D : Int) l (M : Int)).bind fun r => if okRows r.1 = true then some (lossUpto (canOf r.1) pl ch (2 ^ ch.length), 0) else none else none) else some (0, e)) (fun k => rfl) (Ev.bind (kchk_ev (D : Int) l (M : Int) pl ch hs (by omega) (by omega)) ?_)
 rw [h.chk]
 simp only [if_true, h.okp]
 refine Ev.bind (crows_ev (D : Int) l (M : Int) hs) ?_
 simp only [okRows_for h.code, if_true]
 refine ev_eq (Ev.now _) ?_
 unfold lossFor
 rw [← lossUpto_eq h.chs h.nch _ (Nat.le_refl _)]
 rfl
theorem klost_ev {D M : Nat} {l : List (List Int)} {pl ch : List Int} (h : PerilOk D l M pl ch) (hs : Small l) {f : Nat} (hf : f < 2 ^ ch.length) : Ev (fun k => risk_Lost.f k (D : Int) l (M : Int) pl ch (f : Int)) (losB (canN D l M) pl f, 0) := by
 have hb := (chk_ok h.code).bounds
 have hp := h.npl; have hn := h.nch
 refine Ev.congr (f := fun k => (risk_Check.f k (D : Int) l (M : Int) pl ch).bind fun e => if e = 0 then (if okPeril pl ch = true then (if (f : Int) < 0 ∨ ((2 ^ ch.length : Nat) : Int) ≤ (f : Int) then some (false, 1) else (code_Rows.f k (D : Int) l (M : Int)).bind fun r => if okRows r.1 = true then some (!canOf r.1 (leftUpto pl (f : Int).toNat pl.length), 0) else none) else none) else some (false, e)) (fun k => rfl) (Ev.bind (kchk_ev (D : Int) l (M : Int) pl ch hs (by omega) (by omega)) ?_)
 rw [h.chk]
 simp only [if_true, h.okp, show ¬ ((f : Int) < 0 ∨ ((2 ^ ch.length : Nat) : Int) ≤ (f : Int)) by omega, if_false]
 refine Ev.bind (crows_ev (D : Int) l (M : Int) hs) ?_
 simp only [okRows_for h.code, if_true, Int.toNat_natCast]
 exact Ev.now _
theorem kleast_ev {D M : Nat} {l : List (List Int)} {pl ch : List Int} (h : PerilOk D l M pl ch) (hs : Small l) : Ev (fun k => risk_Least.f k (D : Int) l (M : Int) pl ch) (((leastUpto (canN D l M) pl ch.length (2 ^ ch.length) : Nat) : Int), 0) := by
 have hb := (chk_ok h.code).bounds
 have hp := h.npl; have hn := h.nch
 refine Ev.congr (f := fun k => (risk_Check.f k (D : Int) l (M : Int) pl ch).bind fun e => if e = 0 then (if okPeril pl ch = true then (code_Rows.f k (D : Int) l (M : Int)).bind fun r => if okRows r.1 = true then some (((leastUpto (canOf r.1) pl ch.length (2 ^ ch.length) : Nat) : Int), 0) else none else none) else some (0, e)) (fun k => rfl) (Ev.bind (kchk_ev (D : Int) l (M : Int) pl ch hs (by omega) (by omega)) ?_)
 rw [h.chk]
 simp only [if_true, h.okp]
 refine Ev.bind (crows_ev (D : Int) l (M : Int) hs) ?_
 simp only [okRows_for h.code, if_true]
 exact Ev.now _
end Go.Proofs.YtkadfidmfnpohaaDoor.XB

namespace Go.Proofs.YtkadfidmfnpohaaDoor.XB
open Go.RowKit Go.Proofs.YtkadfidmfnpohaaDoorW.PrintWords Go.Proofs.YtkadfidmfnpohaaDoorW.PrintLast Go.Proofs.YtkadfidmfnpohaaDoorW.PrintMore
set_option linter.unusedVariables false
set_option linter.unusedSimpArgs false
theorem few_err {l : List (List Int)} {pl ch : List Int} (h : fewB12 l pl ch 9 = true) : Small l ∧ pl.length ≤ 1000 ∧ ch.length ≤ 9 := by
 obtain ⟨h1, h2, h3, h4⟩ := few12_small h
 exact ⟨h4, by omega, by omega⟩
end Go.Proofs.YtkadfidmfnpohaaDoor.XB

namespace Go.Proofs.YtkadfidmfnpohaaDoor
open Go.ChangeShapes Go.WideShapes Go.ChangeAt Go.RowKit
open Go.ChangeMaps (open_string shut_string)
open Go.Proofs.YtkadfidmfnpohaaDoorW.PrintWords Go.Proofs.YtkadfidmfnpohaaDoorW.PrintLast Go.Proofs.YtkadfidmfnpohaaDoorW.PrintMore Go.Proofs.YtkadfidmfnpohaaDoor.XB
set_option linter.unusedVariables false
set_option linter.unusedSimpArgs false
/-! arguments, read -/
/-- Whatever reads at a type is of a kind. -/
def ReadAt (P : Program) {α : Type} (k : Kd α) (e : TypeId) (Q : α → Prop) : Prop :=
 ∀ (H : Type) (enc : TypeId × Value → H) (w : World) (held : Bool) (fuel : Nat) (cs : List Value) (x : DataW H × List MemPlace), DataW.trod enc P w 0 (fun _ => true) held fuel e cs = some x → ∃ y, k.K w y cs ∧ Q y
theorem readAt_int {P : Program} {k : IntKind} {t : TypeId} (ht : P.underlying t = some (.int k)) : ReadAt P (Kd.int k) t (fun y => (Lit.int k y).wf = true) := by
 intro H enc w held fuel cs x h
 obtain ⟨n, rfl, _, hw⟩ := DataW.trod_int ht h
 exact ⟨n, rfl, hw⟩
theorem readAt_slice {P : Program} {α : Type} {k : Kd α} {t e : TypeId} {Q : α → Prop} (ht : P.underlying t = some (.slice e)) (hs : k.sz = 1) (hc : P.cellsOf e = 1) (he : ReadAt P k e Q) : ReadAt P (Kd.slice e k) t (fun l => l.length ≤ maxLen ∧ ∀ y ∈ l, Q y) := by
 intro H enc w held fuel cs x h
 rcases Go.Deep.open_slice1 ht hc h with ⟨rfl, _⟩ | ⟨a, len, cap, m, n, V, D, Pl, rfl, _, hl, hm, hmm, _, hx⟩
 ·exact ⟨[], ⟨none, 0, rfl, Nat.le_refl _, rfl, by simp, fun h0 => absurd h0 (Nat.lt_irrefl 0)⟩, by simp, by simp⟩
 simp only [if_true] at hmm
 subst hmm
 have hy : ∀ i, i < m → ∃ y, k.K w y [V i] ∧ Q y := fun i hi => he H enc w held n [V i] _ (hx i hi).2
 have hlm : len ≤ m := hl
 have key : ∀ j, j ≤ m → ∃ l : List α, l.length = j ∧ (∀ y ∈ l, Q y) ∧ ∀ i y, l[i]? = some y → k.K w y [V i] := by
  intro j
  induction j with
  | zero => exact fun _ => ⟨[], rfl, by simp, by simp⟩
  | succ j ih =>
   intro hj
   obtain ⟨l, hl1, hl2, hl3⟩ := ih (by omega)
   obtain ⟨y, hy1, hy2⟩ := hy j (by omega)
   refine ⟨l ++ [y], by simp [hl1], fun z hz => ?_, fun i z hz => ?_⟩
   ·rcases List.mem_append.1 hz with hz | hz
    ·exact hl2 z hz
    ·obtain rfl := List.mem_singleton.1 hz; exact hy2
   ·by_cases hi : i < j
    ·rw [List.getElem?_append_left (by omega)] at hz
     exact hl3 i z hz
    ·have hi2 : i < (l ++ [y]).length := (List.getElem?_eq_some_iff.1 hz).1
     obtain rfl : i = j := by simp [hl1] at hi2; omega
     rw [List.getElem?_append_right (by omega)] at hz
     simp [hl1] at hz
     subst hz
     exact hy1
 obtain ⟨l, rfl, hl2, hl3⟩ := key len hlm
 refine ⟨l, ⟨some a, m, rfl, hlm, rfl, by unfold maxLen at hm; omega, fun h0 => ⟨a, rfl, fun j p hp => ?_⟩⟩, by omega, hl2⟩
 have hj : j < l.length := (List.getElem?_eq_some_iff.1 hp).1
 refine ⟨[V j], by rw [hs]; rfl, hl3 j p hp, fun i u hu => ?_⟩
 have hi : i < 1 := (List.getElem?_eq_some_iff.1 hu).1
 obtain rfl : i = 0 := by omega
 simp at hu
 subst hu
 rw [hs, Nat.mul_one, Nat.add_zero]
 exact (hx j (by omega)).1
theorem ReadAt.slice {P : Program} {α : Type} {k : Kd α} {t e : TypeId} {Q : List α → Prop} {H : Type} {enc : TypeId × Value → H} {w : World} {held : Bool} {fuel : Nat} {v : Value} {x : DataW H × List MemPlace} (hr : ReadAt P (Kd.slice e k) t Q) (h : DataW.trod enc P w 0 (fun _ => true) held fuel t [v] = some x) :
  ∃ A c l, v = .slice A l.length c ∧ l.length ≤ c ∧ k.C w A l.length l ∧ Q l := by
 obtain ⟨y, ⟨A, c, hv, hc, hC⟩, hq⟩ := hr H enc w held fuel [v] x h
 exact ⟨A, c, y, by simpa using hv, hc, hC, hq⟩
set_option maxRecDepth 100000 in
/-- What the law's condition says of the tables. -/
theorem hg_of_laid {W : World} (h : laidMetH Tryd.prog [("quietus/gf.high", Rows.laid_quietus_gf_high)] W) : XB.HG W := by
 rw [MakeChecks.laidMetH_plain _ _ _ (by kernel_rfl)] at h
 have hd : (Rows.laid_quietus_gf_high : DataW Unit) = Lib.tabData .u8 XB.tab_high := rfl
 rw [hd] at h
 have g1 : Tryd.prog.globalNamed "quietus/gf.high" = some 0 := by kernel_rfl
 have g2 : (Tryd.prog.globals[0]?).map (·.type) = some 134 := by kernel_rfl
 have g3 : Tryd.prog.cellsOf 5 = 1 := by kernel_rfl
 have g4 : Tryd.prog.cellsOf 134 = 16 := by kernel_rfl
 have hT : Lib.TabIs Tryd.prog W "quietus/gf.high" .u8 XB.tab_high := Lib.tabIs_of_head g1 g2 Tryd.underlying134 Tryd.underlying5 g3 g4 h
 refine ⟨trivial, fun i h0 h1 => ?_⟩
 have hl : XB.tab_high.length = 16 := rfl
 exact hT.cell g1 i.toNat (by omega)
theorem readAt_groups : ReadAt Tryd.prog (Kd.slice 60 (Kd.slice 3 (Kd.int .i64))) 22 (fun l => l.length ≤ maxLen ∧ ∀ g ∈ l, g.length ≤ maxLen ∧ ∀ x ∈ g, (Lit.int .i64 x).wf = true) :=
 readAt_slice Tryd.underlying22 rfl (by kernel_rfl) (readAt_slice Tryd.underlying60 rfl (by kernel_rfl) (readAt_int Tryd.underlying3))
/-! a peril, as it comes in -/
theorem readAt_ints : ReadAt Tryd.prog (Kd.slice 3 (Kd.int .i64)) 60 (fun l => l.length ≤ maxLen ∧ ∀ x ∈ l, (Lit.int .i64 x).wf = true) := readAt_slice Tryd.underlying60 rfl (by kernel_rfl) (readAt_int Tryd.underlying3)
theorem list5 {α : Type} {xs : List α} (h : xs.length = 5) : ∃ a b c d e, xs = [a, b, c, d, e] := by
 match xs, h with
 | [a, b, c, d, e], _ => exact ⟨a, b, c, d, e, rfl⟩
theorem struct_at {P : Program} {H : Type} {enc : TypeId × Value → H} {W : World} {base n : Nat} {spare : Nat → Bool} {held : Bool} {fs : Array Field} {cs : List Value} {xs : List (DataW H × List MemPlace)}
  (hel : ∀ (i : Nat) (f : Field), fs[i]? = some f → DataW.trod enc P W base spare held n f.type ((cs.drop f.offset).take (P.cellsOf f.type)) = xs[i]?) {i : Nat} {f : Field} (hf : fs[i]? = some f) {ty : TypeId} {off q : Nat} (ht : f.type = ty) (ho : f.offset = off) (hq : P.cellsOf ty = q) (hx : i < xs.length) :
  DataW.trod enc P W base spare held n ty ((cs.drop off).take q) = some xs[i] := by
 subst ht ho hq
 rw [hel i f hf, List.getElem?_eq_getElem hx]
set_option maxRecDepth 100000 in
theorem open_peril {H : Type} {enc : TypeId × Value → H} {W : World} {r : Reach} {b0 : Nat} {v : Value} {dd : DataW H} {p : List MemPlace} (hv : Value.okWide Tryd.prog W r b0 64 v) (h : DataW.Trod enc Tryd.prog W 0 (fun _ => true) true 64 v dd p) :
  ∃ d A c l m Aa ca pl Ac cc ch, v = .agg #[.int .i64 d, .slice A l.length c, .int .i64 m, .slice Aa pl.length ca, .slice Ac ch.length cc] ∧ l.length ≤ c ∧ Kd.C (Kd.slice 3 (Kd.int .i64)) W A l.length l ∧ pl.length ≤ ca ∧ (Kd.int .i64).C W Aa pl.length pl ∧ ch.length ≤ cc ∧ (Kd.int .i64).C W Ac ch.length ch := by
 unfold Value.okWide at hv
 rw [Tryd.underlying64] at hv
 obtain ⟨cs, rfl, hsz, _⟩ := hv
 have h5 : Tryd.prog.cellsOf 64 = 5 := by kernel_rfl
 have h3 : Tryd.prog.cellsOf 24 = 3 := by kernel_rfl
 have h1i : Tryd.prog.cellsOf 3 = 1 := by kernel_rfl
 have h1s : Tryd.prog.cellsOf 60 = 1 := by kernel_rfl
 have h1g : Tryd.prog.cellsOf 22 = 1 := by kernel_rfl
 obtain ⟨fuel, hf⟩ := h
 obtain ⟨xs, n, _, _, hl, hxs, hel⟩ := DataW.trod_struct Tryd.underlying64 hf
 have hcells : Value.cells (.agg cs) = cs := rfl
 rw [hcells] at hl hel
 obtain ⟨c0, c1, c2, c3, c4, hcs⟩ := list5 (show cs.toList.length = 5 by rw [hl, h5])
 rw [hcs] at hel
 have hx3 : xs.length = 3 := hxs
 have e0 := struct_at hel (i := 0) rfl (ty := 24) (off := 0) (q := 3) rfl rfl h3 (by omega)
 have e1 := struct_at hel (i := 1) rfl (ty := 60) (off := 3) (q := 1) rfl rfl h1s (by omega)
 have e2 := struct_at hel (i := 2) rfl (ty := 60) (off := 4) (q := 1) rfl rfl h1s (by omega)
 have e0 : DataW.trod enc Tryd.prog W 0 (fun _ => true) true n 24 [c0, c1, c2] = some _ := e0
 have e1 : DataW.trod enc Tryd.prog W 0 (fun _ => true) true n 60 [c3] = some _ := e1
 have e2 : DataW.trod enc Tryd.prog W 0 (fun _ => true) true n 60 [c4] = some _ := e2
 obtain ⟨ys, n2, _, _, _, hys, hel2⟩ := DataW.trod_struct Tryd.underlying24 e0
 have hy3 : ys.length = 3 := hys
 have f0 := struct_at hel2 (i := 0) rfl (ty := 3) (off := 0) (q := 1) rfl rfl h1i (by omega)
 have f1 := struct_at hel2 (i := 1) rfl (ty := 22) (off := 1) (q := 1) rfl rfl h1g (by omega)
 have f2 := struct_at hel2 (i := 2) rfl (ty := 3) (off := 2) (q := 1) rfl rfl h1i (by omega)
 have f0 : DataW.trod enc Tryd.prog W 0 (fun _ => true) true n2 3 [c0] = some _ := f0
 have f1 : DataW.trod enc Tryd.prog W 0 (fun _ => true) true n2 22 [c1] = some _ := f1
 have f2 : DataW.trod enc Tryd.prog W 0 (fun _ => true) true n2 3 [c2] = some _ := f2
 obtain ⟨d, hd, _, _⟩ := DataW.trod_int Tryd.underlying3 f0
 obtain ⟨m, hm, _, _⟩ := DataW.trod_int Tryd.underlying3 f2
 obtain ⟨A, c, l, hA, hc, hC, _⟩ := readAt_groups.slice f1
 obtain ⟨Aa, ca, pl, hAa, hca, hCa, _⟩ := readAt_ints.slice e1
 obtain ⟨Ac, cc, ch, hAc, hcc, hCc, _⟩ := readAt_ints.slice e2
 have hd : c0 = .int .i64 d := by simpa using hd
 have hm : c2 = .int .i64 m := by simpa using hm
 subst hd hm hA hAa hAc
 exact ⟨d, A, c, l, m, Aa, ca, pl, Ac, cc, ch, by rw [show cs = #[.int .i64 d, .slice A l.length c, .int .i64 m, .slice Aa pl.length ca, .slice Ac ch.length cc] from Array.toList_inj.1 hcs], hc, hC, hca, hCa, hcc, hCc⟩
end Go.Proofs.YtkadfidmfnpohaaDoor

namespace Go.Proofs.YtkadfidmfnpohaaDoor.XB
open Go.RowKit Go.Proofs.YtkadfidmfnpohaaDoorW.PrintWords Go.Proofs.YtkadfidmfnpohaaDoorW.PrintLast Go.Proofs.YtkadfidmfnpohaaDoorW.PrintMore
set_option linter.unusedVariables false
set_option linter.unusedSimpArgs false
theorem PerilOk.set {D : Nat} {l : List (List Int)} {M : Nat} {pl ch : List Int} (h : PerilOk D l M pl ch) (dd : Nat) {v : Int} (hv : 0 ≤ v ∧ v ≤ 16) : PerilOk D l M pl (ch.set dd v) :=
 ⟨h.code, by rw [List.length_set]; exact h.nch, h.npl, fun x hx => by rw [List.length_set]; exact h.pls x hx, fun c hc => by
  rcases List.mem_or_eq_of_mem_set hc with hc | rfl
  ·exact h.chs c hc
  ·exact hv⟩
/-! Same -/
set_option linter.unusedSimpArgs false
theorem rck12_l1 (d : Int) (l : List (List Int)) (m : Int) (pl ch : List Int) (hc : ch.length ≤ 1000) : ∀ n i : Nat, i + n = ch.length → Ev (fun k => quietusref12_Check.l1 k (i : Int) d l m pl ch) (if badCh (ch.drop i) = true then 3 else 0) := by
 intro n
 induction n with
 | zero =>
  intro i hi
  refine Ev.step (f := fun _ => some 0) (fun k => ?_) (ev_eq (Ev.now _) ?_)
  ·simp only [quietusref12_Check.l1]; rw [if_neg (by omega)]
  ·rw [List.drop_of_length_le (by omega)]; rfl
 | succ n ih =>
  intro i hi
  have hlt : i < ch.length := by omega
  unfold badCh
  rw [any_drop hlt]
  by_cases e1 : rd ch (i : Int) < 0
  ·simp only [e1, decide_true, Bool.true_or, if_true]
   refine Ev.step (f := fun _ => some 3) (fun k => ?_) (Ev.now _)
   simp only [quietusref12_Check.l1]; rw [if_pos (by omega), if_pos (by omega), if_pos e1]
  ·by_cases e2 : 16 < rd ch (i : Int)
   ·simp only [e1, e2, decide_true, decide_false, Bool.false_or, Bool.true_or, if_true]
    refine Ev.step (f := fun _ => some 3) (fun k => ?_) (Ev.now _)
    simp only [quietusref12_Check.l1]; rw [if_pos (by omega), if_pos (by omega), if_neg e1, if_pos (by omega)]
   ·simp only [e1, e2, decide_false, Bool.false_or]
    refine Ev.step (f := fun k => quietusref12_Check.l1 k ((i + 1 : Nat) : Int) d l m pl ch) (fun k => ?_) (ih (i + 1) (by omega))
    simp only [quietusref12_Check.l1]; rw [if_pos (by omega), if_pos (by omega), if_neg e1, if_neg (by omega), wrap_succ (by omega)]
theorem rck12_l0 (d : Int) (l : List (List Int)) (m : Int) (pl ch : List Int) (hp : pl.length ≤ 1000) (hc : ch.length ≤ 1000) : ∀ n i : Nat, i + n = pl.length →
  Ev (fun k => quietusref12_Check.l0 k (i : Int) d l m pl ch) (if badAt ch.length (pl.drop i) = true then 1 else if badCh ch = true then 3 else 0) := by
 intro n
 induction n with
 | zero =>
  intro i hi
  refine Ev.step (f := fun k => quietusref12_Check.l1 k ((0 : Nat) : Int) d l m pl ch) (fun k => ?_) (ev_eq (rck12_l1 d l m pl ch hc _ 0 (Nat.zero_add _)) ?_)
  ·simp only [quietusref12_Check.l0]; rw [if_neg (by omega)]; rfl
  ·rw [List.drop_of_length_le (show pl.length ≤ i by omega), List.drop_zero]; rfl
 | succ n ih =>
  intro i hi
  have hlt : i < pl.length := by omega
  unfold badAt
  rw [any_drop hlt]
  by_cases e1 : rd pl (i : Int) < -1
  ·simp only [e1, decide_true, Bool.true_or, if_true]
   refine Ev.step (f := fun _ => some 1) (fun k => ?_) (Ev.now _)
   simp only [quietusref12_Check.l0]; rw [if_pos (by omega), if_pos (by omega), if_pos e1]
  ·by_cases e2 : (ch.length : Int) ≤ rd pl (i : Int)
   ·simp only [e1, e2, decide_true, decide_false, Bool.false_or, Bool.true_or, if_true]
    refine Ev.step (f := fun _ => some 1) (fun k => ?_) (Ev.now _)
    simp only [quietusref12_Check.l0]; rw [if_pos (by omega), if_pos (by omega), if_neg e1, if_pos (by omega)]
   ·simp only [e1, e2, decide_false, Bool.false_or]
    refine Ev.step (f := fun k => quietusref12_Check.l0 k ((i + 1 : Nat) : Int) d l m pl ch) (fun k => ?_) (ih (i + 1) (by omega))
    simp only [quietusref12_Check.l0]; rw [if_pos (by omega), if_pos (by omega), if_neg e1, if_neg (by omega), wrap_succ (by omega)]
theorem rck12_ev (d : Int) (l : List (List Int)) (m : Int) (pl ch : List Int) (hs : Small l) (hp : pl.length ≤ 1000) (hc : ch.length ≤ 1000) : Ev (fun k => quietusref12_Check.f k d l m pl ch) (chk12 d l m pl ch) := by
 refine Ev.congr (f := fun k => (quietusref07_Check.f k d l m).bind fun t => if t = 0 then (if (ch.length : Int) > 12 then (some 2) else (if (pl.length : Int) = (wrap64 ((wrap64 (d + (l.length : Int))) + m)) then (quietusref12_Check.l0 k 0 d l m pl ch) else (some 1))) else (some t)) (fun k => rfl) (Ev.bind (rchk_ev d l m hs) ?_)
 unfold chk12
 by_cases e : chk d l m = 0
 ·simp only [e, if_true]
  by_cases e2 : 12 < ch.length
  ·rw [if_pos e2]
   exact Ev.congr (f := fun _ => some 2) (fun k => by rw [if_pos (by omega)]) (Ev.now _)
  ·rw [if_neg e2]
   have hw : wrap64 (wrap64 (d + (l.length : Int)) + m) = d + l.length + m := by
    obtain ⟨D, M, rfl, rfl⟩ := (chk_ok e).nats
    obtain ⟨h1, h2, h3, h4⟩ := (chk_ok e).bounds
    unfold wrap64; omega
   by_cases e3 : (pl.length : Int) = d + l.length + m
   ·rw [if_pos e3]
    exact Ev.congr (f := fun k => quietusref12_Check.l0 k ((0 : Nat) : Int) d l m pl ch) (fun k => by rw [if_neg (by omega), hw, if_pos e3]; rfl) (rck12_l0 d l m pl ch hp hc _ 0 (Nat.zero_add _))
   ·rw [if_neg e3]
    exact Ev.congr (f := fun _ => some 1) (fun k => by rw [if_neg (by omega), hw, if_neg e3]) (Ev.now _)
 ·simp only [e, if_false]
  exact Ev.now _
theorem rpow_from {N : Nat} (hN : N ≤ 12) : ∀ n i : Nat, i + n = N → Ev (fun k => quietusref12_Power.l0 k (N : Int) ((16 ^ i : Nat) : Int) (i : Int)) ((16 ^ N : Nat) : Int) := by
 intro n
 induction n with
 | zero =>
  intro i hi
  obtain rfl : i = N := by omega
  refine Ev.step (f := fun _ => some ((16 ^ i : Nat) : Int)) (fun k => ?_) (Ev.now _)
  simp only [quietusref12_Power.l0]; rw [if_neg (by omega)]
 | succ n ih =>
  intro i hi
  refine Ev.step (f := fun k => quietusref12_Power.l0 k (N : Int) ((16 ^ (i + 1) : Nat) : Int) ((i + 1 : Nat) : Int)) (fun k => ?_) (ih (i + 1) (by omega))
  simp only [quietusref12_Power.l0]
  rw [if_pos (by omega), wrap_succ (by omega)]
  congr 1
  have h1 : 16 ^ (i + 1) ≤ 16 ^ 12 := Nat.pow_le_pow_right (by decide) (by omega)
  have h2 : (16 : Nat) ^ 12 = 281474976710656 := by decide
  rw [Nat.pow_succ] at h1 ⊢
  generalize 16 ^ i = z at h1
  unfold wrap64; omega
theorem rpow_ev {N : Nat} (hN : N ≤ 12) : Ev (fun k => quietusref12_Power.f k (N : Int)) ((16 ^ N : Nat) : Int) :=
 Ev.congr (f := fun k => quietusref12_Power.l0 k (N : Int) ((16 ^ 0 : Nat) : Int) ((0 : Nat) : Int)) (fun k => by unfold quietusref12_Power.f; rfl) (rpow_from hN N 0 (Nat.zero_add _))
theorem bit_off (f x : Nat) (hf : f < 2 ^ 62) (hx : x ≤ 64) : Go.bits .and .i64 (shr .i64 (f : Int) (x : Int)) 1 = (((f >>> x) % 2 : Nat) : Int) := by
 rw [shr_i64_nat f x hx]
 exact i64_and1 (f >>> x) (Nat.lt_of_le_of_lt (Nat.shiftRight_le f x) (Nat.lt_trans hf (by decide)))
theorem rloses_ev {D M : Nat} {l : List (List Int)} {pl ch : List Int} (h : PerilOk D l M pl ch) (hs : Small l) (f : Nat) (hf : f < 2 ^ 62) : Ev (fun k => quietusref12_Loses.f k (D : Int) l (M : Int) pl ch (f : Int)) (losB (canN D l M) pl f) := by
 have hb := (chk_ok h.code).bounds
 have hp := h.npl; have hn := h.nch
 have go : ∀ n i : Nat, i + n = pl.length → Ev (fun k => quietusref12_Loses.l0 k (f : Int) ((leftUpto pl f i : Nat) : Int) (i : Int) (D : Int) l (M : Int) pl ch) (losB (canN D l M) pl f) := by
  intro n
  induction n with
  | zero =>
   intro i hi
   obtain rfl : i = pl.length := by omega
   refine Ev.step (f := fun k => (quietusref07_Recoverable.f k (D : Int) l (M : Int) ((leftUpto pl f pl.length : Nat) : Int)).bind fun t => some (!t)) (fun k => ?_) (Ev.bind (rrec_ev (D : Int) l (M : Int) _ hs) (Ev.now _))
   simp only [quietusref12_Loses.l0]; rw [if_neg (by omega)]
  | succ n ih =>
   intro i hi
   have hi24 : i < 24 := by omega
   have hx := h.pls _ (rdm (show i < pl.length by omega))
   have hlt := leftUpto_lt pl f i
   have hp2 : 2 ^ i ≤ 2 ^ 24 := Nat.pow_le_pow_right (by decide) (by omega)
   have hu : leftUpto pl f (i + 1) = if 0 ≤ rd pl (i : Int) ∧ (f >>> (rd pl (i : Int)).toNat) % 2 = 0 then leftUpto pl f i ||| 2 ^ i else leftUpto pl f i := rfl
   refine Ev.step (f := fun k => quietusref12_Loses.l0 k (f : Int) ((leftUpto pl f (i + 1) : Nat) : Int) ((i + 1 : Nat) : Int) (D : Int) l (M : Int) pl ch) (fun k => ?_) (ih (i + 1) (by omega))
   simp only [quietusref12_Loses.l0]
   rw [if_pos (by omega), if_pos (by omega), wrap_succ (by omega), hu]
   by_cases e1 : 0 ≤ rd pl (i : Int)
   ·rw [if_pos (by omega), if_pos e1]
    obtain ⟨x, hxe⟩ := Int.eq_ofNat_of_zero_le e1
    rw [hxe, Int.toNat_natCast]
    rw [bit_off f x hf (by omega)]
    by_cases e2 : (f >>> x) % 2 = 0
    ·rw [if_pos (by omega), if_pos ⟨by omega, e2⟩]
     have ho : leftUpto pl f i ||| 2 ^ i = leftUpto pl f i + 2 ^ i := by
      rw [Nat.or_comm, Nat.add_comm]
      have := Nat.two_pow_add_eq_or_of_lt hlt 1
      simpa using this.symm
     rw [ho]
     congr 1
     have hsh := shl_i64_nat 1 i (by omega) (by rw [Nat.one_mul]; exact Nat.lt_of_le_of_lt hp2 (by decide))
     rw [Nat.one_mul] at hsh
     rw [show (1 : Int) = ((1 : Nat) : Int) from rfl, hsh]
     have h24 : (2 : Nat) ^ 24 = 16777216 := by decide
     generalize 2 ^ i = z at *
     unfold wrap64; omega
    ·rw [if_neg (by omega), if_neg (fun hh => e2 hh.2)]
   ·rw [if_neg (by omega), if_neg (fun hh => e1 hh.1)]
 exact Ev.congr (f := fun k => quietusref12_Loses.l0 k (f : Int) ((leftUpto pl f 0 : Nat) : Int) ((0 : Nat) : Int) (D : Int) l (M : Int) pl ch) (fun k => by unfold quietusref12_Loses.f; rfl) (go _ 0 (Nat.zero_add _))

set_option linter.unusedSimpArgs false
theorem shl_one {n : Nat} (h : n ≤ 12) : shl .i64 1 (n : Int) = ((2 ^ n : Nat) : Int) := by
 have hp : 2 ^ n ≤ 2 ^ 12 := Nat.pow_le_pow_right (by decide) h
 have hsh := shl_i64_nat 1 n (by omega) (by rw [Nat.one_mul]; exact Nat.lt_of_le_of_lt hp (by decide))
 rw [Nat.one_mul] at hsh
 exact hsh
theorem rloss_ev {D M : Nat} {l : List (List Int)} {pl ch : List Int} (h : PerilOk D l M pl ch) (hs : Small l) : Ev (fun k => quietusref12_Loss.f k (D : Int) l (M : Int) pl ch) (lossFor D l M pl ch, 0) := by
 have hb := (chk_ok h.code).bounds
 have hp := h.npl; have hn := h.nch
 have h12 : 2 ^ ch.length ≤ 4096 := Nat.pow_le_pow_right (n := 2) (by decide) hn
 have hw : ∀ g, 0 ≤ wtOf ch g ∧ wtOf ch g ≤ 16 ^ ch.length := fun g => wNat_bd h.chs g _ (Nat.le_refl _)
 have hbd : ∀ f, f ≤ 2 ^ ch.length → 0 ≤ lossSum (losB (canN D l M) pl) (wtOf ch) f ∧ lossSum (losB (canN D l M) pl) (wtOf ch) f ≤ 4096 * 281474976710656 := fun f hf => by
  have hs := lossSum_bd (los := losB (canN D l M) pl) hw f
  have hp := pow16_12 hn
  have hwf := hw f
  exact ⟨hs.1, Int.le_trans hs.2 (Int.mul_le_mul (by omega) hp (by omega) (by decide))⟩
 have inner : ∀ f, f < 2 ^ ch.length → Ev (fun k => quietusref12_Loss.l0 k (lossSum (losB (canN D l M) pl) (wtOf ch) (f + 1)) ((f + 1 : Nat) : Int) (D : Int) l (M : Int) pl ch) (lossFor D l M pl ch, 0) →
   ∀ n j : Nat, j + n = ch.length → Ev (fun k => quietusref12_Loss.l1 k (lossSum (losB (canN D l M) pl) (wtOf ch) f) (f : Int) (wNat ch f j) (j : Int) (D : Int) l (M : Int) pl ch) (lossFor D l M pl ch, 0) := by
  intro f hf R n
  induction n with
  | zero =>
   intro j hj
   obtain rfl : j = ch.length := by omega
   refine Ev.step (f := fun k => (quietusref12_Loses.f k (D : Int) l (M : Int) pl ch (f : Int)).bind fun t => if t = true then quietusref12_Loss.l0 k (wrap64 (lossSum (losB (canN D l M) pl) (wtOf ch) f + wNat ch f ch.length)) (wrap64 ((f : Int) + 1)) (D : Int) l (M : Int) pl ch else quietusref12_Loss.l0 k (lossSum (losB (canN D l M) pl) (wtOf ch) f) (wrap64 ((f : Int) + 1)) (D : Int) l (M : Int) pl ch) (fun k => ?_) (Ev.bind (rloses_ev h hs f (Nat.lt_of_lt_of_le (Nat.lt_of_lt_of_le hf h12) (by decide))) ?_)
   ·simp only [quietusref12_Loss.l1]; rw [if_neg (by omega)]
   ·have hl : lossSum (losB (canN D l M) pl) (wtOf ch) (f + 1) = lossSum (losB (canN D l M) pl) (wtOf ch) f + if losB (canN D l M) pl f = true then wtOf ch f else 0 := rfl
    rw [hl] at R
    have b1 := hbd f (by omega)
    have b2 := hw f
    have b3 := pow16_12 hn
    have hwt : wtOf ch f = wNat ch f ch.length := rfl
    rw [hwt] at R b2
    cases e : losB (canN D l M) pl f
    ·rw [e] at R
     simp only [Bool.false_eq_true, if_false, Int.add_zero] at R ⊢
     rw [wrap_succ (by omega)]
     exact R
    ·rw [e] at R
     simp only [if_true] at R ⊢
     rw [wrap_succ (by omega)]
     rw [show wrap64 (lossSum (losB (canN D l M) pl) (wtOf ch) f + wNat ch f ch.length) = lossSum (losB (canN D l M) pl) (wtOf ch) f + wNat ch f ch.length by
      generalize lossSum (losB (canN D l M) pl) (wtOf ch) f = z at b1
      generalize wNat ch f ch.length = y at b2
      generalize (16 : Int) ^ ch.length = q at b2 b3
      clear R
      unfold wrap64; omega]
     exact R
  | succ n ih =>
   intro j hj
   refine Ev.step (f := fun k => quietusref12_Loss.l1 k (lossSum (losB (canN D l M) pl) (wtOf ch) f) (f : Int) (wNat ch f (j + 1)) ((j + 1 : Nat) : Int) (D : Int) l (M : Int) pl ch) (fun k => ?_) (ih (j + 1) (by omega))
   simp only [quietusref12_Loss.l1]
   rw [if_pos (by omega), if_pos (by omega), wrap_succ (by omega), bit_off f j (Nat.lt_of_lt_of_le (Nat.lt_of_lt_of_le hf h12) (by decide)) (by omega)]
   have b1 := wNat_bd h.chs f (j + 1) (by omega)
   have b2 := pow16_12 (n := j + 1) (by omega)
   have b4 := h.chs _ (rdm (show j < ch.length by omega))
   have e : wNat ch f (j + 1) = wNat ch f j * wFac ch f j := rfl
   have e1 : wrap64 (wNat ch f j * wFac ch f j) = wNat ch f j * wFac ch f j := by
    rw [e] at b1
    generalize wNat ch f j * wFac ch f j = z at b1
    generalize (16 : Int) ^ (j + 1) = q at b1 b2
    unfold wrap64; omega
   rw [e]
   by_cases e0 : (f >>> j) % 2 = 0
   ·rw [if_neg (by omega)]
    have ef : wFac ch f j = 16 - rd ch (j : Int) := by unfold wFac; rw [if_pos e0]
    rw [ef] at e1 ⊢
    rw [show wrap64 (16 - rd ch (j : Int)) = 16 - rd ch (j : Int) by clear e1; unfold wrap64; omega, e1]
   ·rw [if_pos (by omega)]
    have ef : wFac ch f j = rd ch (j : Int) := by unfold wFac; rw [if_neg e0]
    rw [ef] at e1 ⊢
    rw [e1]
 have outer : ∀ n f : Nat, f + n = 2 ^ ch.length → Ev (fun k => quietusref12_Loss.l0 k (lossSum (losB (canN D l M) pl) (wtOf ch) f) (f : Int) (D : Int) l (M : Int) pl ch) (lossFor D l M pl ch, 0) := by
  intro n
  induction n with
  | zero =>
   intro f hf
   refine Ev.step (f := fun _ => some (lossSum (losB (canN D l M) pl) (wtOf ch) f, 0)) (fun k => ?_) (ev_eq (Ev.now _) (by rw [show f = 2 ^ ch.length by omega]; rfl))
   simp only [quietusref12_Loss.l0]; rw [shl_one hn, if_neg (by omega)]
  | succ n ih =>
   intro f hf
   refine Ev.step (f := fun k => quietusref12_Loss.l1 k (lossSum (losB (canN D l M) pl) (wtOf ch) f) (f : Int) (wNat ch f 0) ((0 : Nat) : Int) (D : Int) l (M : Int) pl ch) (fun k => ?_) (inner f (by omega) (ih (f + 1) (by omega)) _ 0 (Nat.zero_add _))
   simp only [quietusref12_Loss.l0]; rw [shl_one hn, if_pos (by omega)]; rfl
 refine Ev.congr (f := fun k => (quietusref12_Check.f k (D : Int) l (M : Int) pl ch).bind fun t => if t = 0 then quietusref12_Loss.l0 k 0 0 (D : Int) l (M : Int) pl ch else some (0, t)) (fun k => rfl) (Ev.bind (rck12_ev (D : Int) l (M : Int) pl ch hs (by omega) (by omega)) ?_)
 rw [h.chk]
 simp only [if_true]
 exact outer _ 0 (Nat.zero_add _)
/-! size, before -/
theorem rsize12_from : ∀ n x c : Nat, x < 2 ^ n → n ≤ 60 → c + n ≤ 1000 → Ev (fun k => quietusref12_size.l0 k (x : Int) (c : Int)) ((c + bitsUpto x n : Nat) : Int) := by
 intro n
 induction n with
 | zero =>
  intro x c hx _ _
  obtain rfl : x = 0 := by have : (2 : Nat) ^ 0 = 1 := rfl; omega
  refine Ev.step (f := fun _ => some (c : Int)) (fun k => ?_) (ev_eq (Ev.now _) (by simp [bitsUpto]))
  simp only [quietusref12_size.l0]
  rw [if_neg (by omega)]
 | succ n ih =>
  intro x c hx hn hc
  by_cases e : x = 0
  ·subst e
   refine Ev.step (f := fun _ => some (c : Int)) (fun k => ?_) (ev_eq (Ev.now _) (by rw [bitsUpto_zero]; rfl))
   simp only [quietusref12_size.l0]
   rw [if_neg (by omega)]
  ·have h1 : x / 2 < 2 ^ n := Nat.div_lt_of_lt_mul (by rw [Nat.pow_succ] at hx; omega)
   have hm : x % 2 < 2 := Nat.mod_lt _ (by decide)
   have hx62 : x < 2 ^ 63 := Nat.lt_of_lt_of_le hx (Nat.pow_le_pow_right (by decide) (by omega))
   refine Ev.step (f := fun k => quietusref12_size.l0 k ((x / 2 : Nat) : Int) ((c + x % 2 : Nat) : Int)) (fun k => ?_) (ev_eq (ih (x / 2) (c + x % 2) h1 (by omega) (by omega)) ?_)
   ·simp only [quietusref12_size.l0]
    rw [if_pos (by omega), i64_and1 x hx62, show ((x : Int) / 2) = ((x / 2 : Nat) : Int) by simp]
    congr 1
    clear h1 hx hx62
    unfold wrap64; omega
   ·rw [bitsUpto_low, Nat.add_assoc]
theorem rsize12_ev (x : Nat) (hx : x < 512) : Ev (fun k => quietusref12_size.f k (x : Int)) (onesOf x) :=
 Ev.congr (f := fun k => quietusref12_size.l0 k (x : Int) ((0 : Nat) : Int)) (fun k => by unfold quietusref12_size.f; rfl) (ev_eq (rsize12_from 10 x 0 (Nat.lt_trans hx (by decide)) (by decide) (by decide)) (by rw [Nat.zero_add, ones_bits x (by omega)]))
/-- The lowest bit. -/
def lowBit : Nat → Nat → Nat
 | 0, _ => 0
 | n + 1, x => if x % 2 = 1 then 1 else 2 * lowBit n (x / 2)
theorem low_table : ∀ x : Nat, x < 512 → Go.bits .and .i64 (x : Int) (wrap64 (-(x : Int))) = ((lowBit 9 x : Nat) : Int) := fun x hx =>
 of_decide_eq_true (QGF.allN_spec (n := 512) (p := fun x => decide (Go.bits .and .i64 (x : Int) (wrap64 (-(x : Int))) = ((lowBit 9 x : Nat) : Int))) (by decide +kernel) x hx)
theorem lowBit_lt : ∀ n x, lowBit n x < 2 ^ n
 | 0, _ => by show 0 < 1; decide
 | n + 1, x => by
  have ih := lowBit_lt n (x / 2)
  have hp := Nat.two_pow_pos n
  show (if x % 2 = 1 then 1 else 2 * lowBit n (x / 2)) < 2 ^ (n + 1)
  rw [Nat.pow_succ]
  split <;> omega
theorem and_dbl (a t : Nat) : a &&& (2 * t) = 2 * ((a / 2) &&& t) := by
 have h1 : (a &&& (2 * t)) / 2 = (a / 2) &&& t := by rw [Nat.and_div_two]; congr 1; omega
 have h2 : (a &&& (2 * t)) % 2 = 0 := by
  have := Nat.and_mod_two_pow (a := a) (b := 2 * t) (n := 1)
  simp only [Nat.pow_one] at this
  rw [this, show 2 * t % 2 = 0 by omega, Nat.and_zero]
 omega
theorem rbefore_from : ∀ n a b : Nat, a < 2 ^ n → b < 2 ^ n → n ≤ 60 → Ev (fun k => quietusref12_before.l0 k (a : Int) (b : Int)) ((a &&& lowBit n (a ^^^ b)) != 0) := by
 intro n
 induction n with
 | zero =>
  intro a b ha hb _
  have : (2 : Nat) ^ 0 = 1 := rfl
  obtain rfl : a = 0 := by omega
  obtain rfl : b = 0 := by omega
  refine Ev.step (f := fun _ => some false) (fun k => ?_) (ev_eq (Ev.now _) (by decide))
  simp only [quietusref12_before.l0, if_true]
 | succ n ih =>
  intro a b ha hb hn
  have ha62 : a < 2 ^ 63 := Nat.lt_of_lt_of_le ha (Nat.pow_le_pow_right (by decide) (by omega))
  have hb62 : b < 2 ^ 63 := Nat.lt_of_lt_of_le hb (Nat.pow_le_pow_right (by decide) (by omega))
  have hxd : (a ^^^ b) / 2 = a / 2 ^^^ b / 2 := Nat.xor_div_two
  have hxm : (a ^^^ b) % 2 = (a % 2 + b % 2) % 2 := by
   have h1 := Nat.xor_mod_two_pow (a := a) (b := b) (n := 1)
   simp only [Nat.pow_one] at h1
   rw [h1]
   have h2 : a % 2 < 2 := Nat.mod_lt _ (by decide)
   have h3 : b % 2 < 2 := Nat.mod_lt _ (by decide)
   generalize a % 2 = p at h2
   generalize b % 2 = q at h3
   match p, q, h2, h3 with
   | 0, 0, _, _ => rfl
   | 0, 1, _, _ => rfl
   | 1, 0, _, _ => rfl
   | 1, 1, _, _ => rfl
  have hl : lowBit (n + 1) (a ^^^ b) = if (a ^^^ b) % 2 = 1 then 1 else 2 * lowBit n ((a ^^^ b) / 2) := rfl
  by_cases e : a = b
  ·subst e
   have hz : ∀ n, lowBit n 0 = 0 := fun n => by
    induction n with
    | zero => rfl
    | succ n ih => show (if 0 % 2 = 1 then 1 else 2 * lowBit n (0 / 2)) = 0; simp [ih]
   refine Ev.step (f := fun _ => some false) (fun k => ?_) (ev_eq (Ev.now _) (by rw [Nat.xor_self, hz, Nat.and_zero]; rfl))
   simp only [quietusref12_before.l0, if_true]
  ·rw [Nat.pow_succ] at ha hb
   by_cases e2 : a % 2 = b % 2
   ·refine Ev.step (f := fun k => quietusref12_before.l0 k ((a / 2 : Nat) : Int) ((b / 2 : Nat) : Int)) (fun k => ?_) (ev_eq (ih (a / 2) (b / 2) (by omega) (by omega) (by omega)) ?_)
    ·simp only [quietusref12_before.l0]
     rw [if_neg (by omega), i64_and1 a ha62, i64_and1 b hb62, if_pos (by omega), show ((a : Int) / 2) = ((a / 2 : Nat) : Int) by simp, show ((b : Int) / 2) = ((b / 2 : Nat) : Int) by simp]
    ·rw [hl, if_neg (by omega), hxd, and_dbl]
     generalize a / 2 &&& lowBit n (a / 2 ^^^ b / 2) = z
     by_cases hz : z = 0
     ·subst hz; rfl
     ·rw [bne_iff_ne.2 hz, bne_iff_ne.2 (by omega)]
   ·refine Ev.step (f := fun _ => some (((a % 2 : Nat) : Int) == 1)) (fun k => ?_) (ev_eq (Ev.now _) ?_)
    ·simp only [quietusref12_before.l0]
     rw [if_neg (by omega), i64_and1 a ha62, i64_and1 b hb62, if_neg (by omega)]
    ·rw [hl, if_pos (by omega), Nat.and_one_is_mod]
     have h2 : a % 2 < 2 := Nat.mod_lt _ (by decide)
     generalize a % 2 = p at h2
     match p, h2 with
     | 0, _ => rfl
     | 1, _ => rfl
theorem first_eq {a b : Nat} (ha : a < 512) (hb : b < 512) : firstB a b = ((a &&& lowBit 9 (a ^^^ b)) != 0) := by
 have hx : a ^^^ b < 2 ^ 9 := Nat.xor_lt_two_pow (n := 9) ha hb
 have hl := lowBit_lt 9 (a ^^^ b)
 have h9 : (2 : Nat) ^ 9 < 2 ^ 63 := by decide
 unfold firstB
 rw [i64_xor a b (Nat.lt_trans ha (by decide)) (Nat.lt_trans hb (by decide)), low_table _ hx, i64_and a _ (Nat.lt_trans ha (by decide)) (Nat.lt_trans hl h9)]
 generalize a &&& lowBit 9 (a ^^^ b) = z
 by_cases hz : z = 0
 ·subst hz; rfl
 ·rw [bne_iff_ne.2 hz, bne_iff_ne.2 (by omega)]
theorem rbefore_ev {a b : Nat} (ha : a < 512) (hb : b < 512) : Ev (fun k => quietusref12_before.f k (a : Int) (b : Int)) (firstB a b) :=
 Ev.congr (f := fun k => quietusref12_before.l0 k (a : Int) (b : Int)) (fun k => by unfold quietusref12_before.f; rfl) (ev_eq (rbefore_from 9 a b ha hb (by decide)) (first_eq ha hb).symm)
theorem rleast_ev {D M : Nat} {l : List (List Int)} {pl ch : List Int} (h : PerilOk D l M pl ch) (hs : Small l) (h9 : ch.length ≤ 9) : Ev (fun k => quietusref12_Least.f k (D : Int) l (M : Int) pl ch) (((leastUpto (canN D l M) pl ch.length (2 ^ ch.length) : Nat) : Int), 0) := by
 have hb := (chk_ok h.code).bounds
 have hp := h.npl; have hn := h.nch
 have h12 : 2 ^ ch.length ≤ 512 := Nat.pow_le_pow_right (n := 2) (by decide) h9
 have go : ∀ f, f ≤ 2 ^ ch.length → Ev (fun k => rleastUpto k (D : Int) l (M : Int) pl ch f) ((leastUpto (canN D l M) pl ch.length f : Nat) : Int) := by
  intro f
  induction f with
  | zero => intro _; exact Ev.now _
  | succ f ih =>
   intro hf
   have hbl := leastUpto_lt (canN D l M) pl ch.length f (by omega)
   have hu : leastUpto (canN D l M) pl ch.length (f + 1) = if (onesOf f < onesOf (leastUpto (canN D l M) pl ch.length f) ∨ (onesOf f = onesOf (leastUpto (canN D l M) pl ch.length f) ∧ firstB f (leastUpto (canN D l M) pl ch.length f) = true)) ∧ canN D l M (leftUpto pl f pl.length) = false then f else leastUpto (canN D l M) pl ch.length f := rfl
   rw [hu]
   generalize leastUpto (canN D l M) pl ch.length f = b at *
   refine Ev.congr (f := fun k => (rleastUpto k (D : Int) l (M : Int) pl ch f).bind fun b => (quietusref12_Loses.f k (D : Int) l (M : Int) pl ch (f : Int)).bind fun lost => (quietusref12_before.f k (f : Int) b).bind fun fst => (quietusref12_size.f k (f : Int)).bind fun sf => (quietusref12_size.f k b).bind fun sb => some (if lost = true ∧ (sf < sb ∨ (sf = sb ∧ fst = true)) then (f : Int) else b)) (fun k => rfl) (Ev.bind (ih (by omega)) (Ev.bind (rloses_ev h hs f (Nat.lt_of_lt_of_le (show f < 512 by omega) (by decide))) (Ev.bind (rbefore_ev (by omega) (by omega)) (Ev.bind (rsize12_ev f (by omega)) (Ev.bind (rsize12_ev b (by omega)) ?_)))))
   refine ev_eq (Ev.now _) ?_
   have hlb : losB (canN D l M) pl f = true ↔ canN D l M (leftUpto pl f pl.length) = false := by unfold losB; simp
   by_cases hc : (onesOf f < onesOf b ∨ (onesOf f = onesOf b ∧ firstB f b = true)) ∧ canN D l M (leftUpto pl f pl.length) = false
   ·rw [if_pos hc, if_pos ⟨hlb.2 hc.2, hc.1⟩]
   ·rw [if_neg hc, if_neg (fun hh => hc ⟨hh.2, hlb.1 hh.1⟩)]
 refine Ev.congr (f := fun k => (quietusref12_Check.f k (D : Int) l (M : Int) pl ch).bind fun e => if e = 0 then (if ch.length ≤ 12 then (rleastUpto k (D : Int) l (M : Int) pl ch (2 ^ ch.length)).bind fun b => some (b, 0) else none) else some (0, e)) (fun k => rfl) (Ev.bind (rck12_ev (D : Int) l (M : Int) pl ch hs (by omega) (by omega)) ?_)
 rw [h.chk]
 simp only [if_true, hn]
 exact Ev.bind (go _ (Nat.le_refl _)) (Ev.now _)
end Go.Proofs.YtkadfidmfnpohaaDoor.XB
