/- Lemmas for the claim Least: functions of the program as plain Lean functions, each with its contract, and what is proved of them. -/
import Derived.Test.YtkadfidmfnpohaaDoorQLeast1
import Derived.Test.YtkadfidmfnpohaaDoorQLeast3
import Derived.Test.YtkadfidmfnpohaaDoorQLeast4
import Derived.Test.YtkadfidmfnpohaaDoorQLeast2
import Derived.Test.YtkadfidmfnpohaaDoorRows
import Derived.Test.YtkadfidmfnpohaaDoorCards
import Derived.Test.YtkadfidmfnpohaaDoorTie
import Derived.ProofKit
import Derived.WalkKit
import Derived.OpenShut
import Derived.ShutString
import Derived.ChangeOld
import Derived.Below
import Derived.LaidMore
import Derived.Stop.Joined
import Derived.Lib.LaidTab
import Derived.Lib.SmallJoins
import Derived.SevenTiedAt
import Derived.MakeChecks
import Derived.SizedLaws
namespace Go.Proofs.YtkadfidmfnpohaaDoor.XB
open Go.RowKit Go.Proofs.YtkadfidmfnpohaaDoorW.PrintWords Go.Proofs.YtkadfidmfnpohaaDoorW.PrintLast Go.Proofs.YtkadfidmfnpohaaDoorW.PrintMore
set_option linter.unusedVariables false
set_option linter.unusedSimpArgs false
def anyFrom (p : Nat → Bool) : Nat → Nat → Bool
 | _, 0 => false
 | j, n + 1 => p j || anyFrom p (j + 1) n
theorem anyFrom_iff (p : Nat → Bool) : ∀ n j, anyFrom p j n = true ↔ ∃ t, j ≤ t ∧ t < j + n ∧ p t = true := by
 intro n
 induction n with
 | zero =>
  intro j
  simp only [anyFrom]
  constructor
  ·intro h; cases h
  ·rintro ⟨t, h1, h2, _⟩; omega
 | succ n ih =>
  intro j
  simp only [anyFrom, Bool.or_eq_true, ih]
  constructor
  ·rintro (h | ⟨t, h1, h2, h3⟩)
   ·exact ⟨j, Nat.le_refl _, by omega, h⟩
   ·exact ⟨t, by omega, by omega, h3⟩
  ·rintro ⟨t, h1, h2, h3⟩
   by_cases e : t = j
   ·subst e; exact .inl h3
   ·exact .inr ⟨t, by omega, by omega, h3⟩
theorem anyFrom_false {p : Nat → Bool} {j n : Nat} (h : anyFrom p j n = false) : ∀ t, j ≤ t → t < j + n → p t = false := by
 intro t h1 h2
 cases hp : p t
 ·rfl
 ·rw [(anyFrom_iff p n j).2 ⟨t, h1, h2, hp⟩] at h; cases h
theorem wrap_succ {n : Nat} (h : n < 9223372036854775807) : wrap64 ((n : Int) + 1) = ((n + 1 : Nat) : Int) := by unfold wrap64; omega
theorem wrap_pred {n : Nat} (h0 : 0 < n) (h : n < 9223372036854775807) : wrap64 ((n : Int) - 1) = ((n - 1 : Nat) : Int) := by unfold wrap64; omega
theorem ev_eq {α : Type} {g : Nat → Option α} {a b : α} (h : Ev g a) (e : a = b) : Ev g b := e ▸ h
/-! Has -/
/-! what Check says -/
def badEl (d : Int) (l : List (List Int)) (gi j : Nat) : Bool :=
 (decide (rd (rd_L1 l gi) j < 0) || (decide (d ≤ rd (rd_L1 l gi) j) || (decide (0 < j) && decide (rd (rd_L1 l gi) j ≤ rd (rd_L1 l gi) ((j - 1 : Nat) : Int))))) || anyFrom (fun h => decide (rd (rd_L1 l gi) j ∈ rd_L1 l (h : Nat))) 0 gi
def grpErr (d : Int) (l : List (List Int)) (gi : Nat) : Int := if (rd_L1 l gi).length = 0 then 8 else if anyFrom (badEl d l gi) 0 (rd_L1 l gi).length = true then 1 else 0
def chkFrom (d : Int) (l : List (List Int)) : Nat → Nat → Int
 | _, 0 => 0
 | i, n + 1 => if grpErr d l i = 0 then chkFrom d l (i + 1) n else grpErr d l i
def chk (d : Int) (l : List (List Int)) (m : Int) : Int := if d < 1 ∨ 16 < d ∨ m < 0 ∨ 4 < m then 3 else if 24 < d + l.length + m then 2 else chkFrom d l 0 l.length
/-! the reference's Check -/
def Small (l : List (List Int)) : Prop := l.length ≤ 4611686018427387000 ∧ ∀ i : Nat, (rd_L1 l i).length ≤ 9223372036854775807
def orAll (g : List Int) (s : Nat) : Nat := g.foldl (fun s i => s ||| 2 ^ i.toNat) s
theorem orAll_snoc (g : List Int) (x : Int) (s : Nat) : orAll (g ++ [x]) s = orAll g s ||| 2 ^ x.toNat := by simp [orAll]
theorem orAll_lt {g : List Int} (h : ∀ x ∈ g, 0 ≤ x ∧ x < 16) : ∀ {s : Nat}, s < 2 ^ 16 → orAll g s < 2 ^ 16 := by
 induction g with
 | nil => intro s hs; exact hs
 | cons a g ih =>
  intro s hs
  have ha := h a (List.mem_cons_self)
  exact ih (fun x hx => h x (List.mem_cons_of_mem _ hx)) (Nat.or_lt_two_pow hs (Nat.pow_lt_pow_right (by decide) (by omega)))
theorem orAll_bit (g : List Int) (i : Nat) : ∀ s, (orAll g s).testBit i = (s.testBit i || g.any (fun x => x.toNat == i)) := by
 induction g with
 | nil => intro s; simp [orAll]
 | cons a g ih =>
  intro s
  show (orAll g (s ||| 2 ^ a.toNat)).testBit i = _
  rw [ih, Nat.testBit_or, Nat.testBit_two_pow, List.any_cons, Bool.or_assoc]
  congr 2
def seenOf (l : List (List Int)) : Nat → Nat
 | 0 => 0
 | i + 1 => orAll (rd_L1 l (i : Nat)) (seenOf l i)
/-- The groups before i have elements of the code alone. -/
def Elems (d : Int) (l : List (List Int)) (i : Nat) : Prop := ∀ h : Nat, h < i → ∀ x ∈ rd_L1 l (h : Nat), 0 ≤ x ∧ x < d
theorem seenOf_lt {d : Int} {l : List (List Int)} (hd : d ≤ 16) : ∀ {i}, Elems d l i → seenOf l i < 2 ^ 16
 | 0, _ => (by decide : (0 : Nat) < 2 ^ 16)
 | i + 1, h => orAll_lt (fun x hx => by have := h i (Nat.lt_succ_self i) x hx; omega) (seenOf_lt hd (fun g hg => h g (by omega)))
theorem seenOf_bit {d : Int} {l : List (List Int)} {x : Int} (hx : 0 ≤ x) : ∀ {i}, Elems d l i → (seenOf l i).testBit x.toNat = anyFrom (fun h => decide (x ∈ rd_L1 l (h : Nat))) 0 i := by
 intro i
 induction i with
 | zero => intro _; simp [seenOf, anyFrom]
 | succ i ih =>
  intro h
  have e := ih (fun g hg => h g (by omega))
  rw [Bool.eq_iff_iff, anyFrom_iff] at e ⊢
  rw [show seenOf l (i + 1) = orAll (rd_L1 l (i : Nat)) (seenOf l i) from rfl, orAll_bit, Bool.or_eq_true, e, List.any_eq_true]
  constructor
  ·rintro (⟨t, h1, h2, h3⟩ | ⟨y, hy, hz⟩)
   ·exact ⟨t, h1, by omega, h3⟩
   ·have := (h i (Nat.lt_succ_self i) y hy).1
    have hz : y.toNat = x.toNat := by simpa using hz
    obtain rfl : y = x := by omega
    exact ⟨i, by omega, by omega, by simpa using hy⟩
  ·rintro ⟨t, h1, h2, h3⟩
   by_cases ht : t = i
   ·subst ht; exact .inr ⟨x, by simpa using h3, by simp⟩
   ·exact .inl ⟨t, h1, by omega, h3⟩
theorem bit_of (s : Nat) (x : Int) (hx : 0 ≤ x) (h16 : x < 16) (hs : s < 2 ^ 16) : (Go.bits .and .i64 (shr .i64 (s : Int) x) 1 = 1) ↔ s.testBit x.toNat = true := by
 obtain ⟨n, rfl⟩ := Int.eq_ofNat_of_zero_le hx
 rw [shr_i64_nat s n (by omega), i64_and1 _ (by have := Nat.shiftRight_le s n; omega), Int.toNat_natCast, Nat.testBit_eq_decide_div_mod_eq, Nat.shiftRight_eq_div_pow, decide_eq_true_eq]
 omega
theorem rdm {l : List Int} {i : Nat} (h : i < l.length) : rd l (i : Int) ∈ l := by rw [rdi h]; exact List.getElem_mem h
theorem cchk_l2 (d : Int) (l : List (List Int)) (m : Int) (hs : Small l) (i : Nat) (hil : i < l.length) (s : Nat) (hlt : s < 2 ^ 16) (hg : ∀ x ∈ rd_L1 l (i : Nat), 0 ≤ x ∧ x < 16) (R : Int)
  (hR : Ev (fun k => code_Check.l0 k ((orAll (rd_L1 l (i : Nat)) s : Nat) : Int) 0 l (l.length : Int) ((i + 1 : Nat) : Int) d l m) R) :
  ∀ n j, j + n = (rd_L1 l (i : Nat)).length → Ev (fun k => code_Check.l2 k ((orAll ((rd_L1 l (i : Nat)).take j) s : Nat) : Int) 0 l (l.length : Int) (i : Int) (rd_L1 l (i : Nat)) ((rd_L1 l (i : Nat)).length : Int) (j : Int) d l m) R := by
 have hgl := hs.2 i
 have hsl := hs.1
 generalize rd_L1 l (i : Nat) = g at *
 intro n
 induction n with
 | zero =>
  intro j hj
  refine Ev.step (f := fun k => code_Check.l0 k ((orAll g s : Nat) : Int) 0 l (l.length : Int) ((i + 1 : Nat) : Int) d l m) (fun k => ?_) hR
  simp only [code_Check.l2]
  rw [if_neg (by omega), List.take_of_length_le (by omega), wrap_succ (by omega)]
 | succ n ih =>
  intro j hj
  have hx := hg _ (rdm (show j < g.length by omega))
  refine Ev.step (f := fun k => code_Check.l2 k ((orAll (g.take (j + 1)) s : Nat) : Int) 0 l (l.length : Int) (i : Int) g (g.length : Int) ((j + 1 : Nat) : Int) d l m) (fun k => ?_) (ih (j + 1) (by omega))
  simp only [code_Check.l2]
  have ht : g.take (j + 1) = g.take j ++ [rd g (j : Int)] := by rw [rdi (show j < g.length by omega)]; exact List.take_succ_eq_append_getElem (by omega)
  rw [if_pos (by omega), if_pos (by omega), if_pos (by omega), if_pos hx.1, wrap_succ (by omega), ht, orAll_snoc]
  have hb := orAll_lt (g := g.take j) (fun x hx => hg x (List.mem_of_mem_take hx)) hlt
  have hp : 2 ^ (rd g (j : Int)).toNat < 2 ^ 16 := Nat.pow_lt_pow_right (by decide) (by omega)
  have e := shl_i64_nat 1 (rd g (j : Int)).toNat (by omega) (by omega)
  rw [Int.toNat_of_nonneg hx.1, Nat.one_mul] at e
  rw [show ((1 : Nat) : Int) = 1 from rfl] at e
  rw [e, i64_or _ _ (by omega) (by omega)]
theorem cchk_l1 (d : Int) (hd : d ≤ 16) (l : List (List Int)) (m : Int) (hs : Small l) (i : Nat) (hil : i < l.length) (hel : Elems d l i) (R : Int)
  (hR : (∀ x ∈ rd_L1 l (i : Nat), 0 ≤ x ∧ x < d) → Ev (fun k => code_Check.l0 k ((seenOf l (i + 1) : Nat) : Int) 0 l (l.length : Int) ((i + 1 : Nat) : Int) d l m) R) :
  ∀ n j, j + n = (rd_L1 l (i : Nat)).length → (∀ t : Nat, t < j → 0 ≤ rd (rd_L1 l i) t ∧ rd (rd_L1 l i) t < d) →
   Ev (fun k => code_Check.l1 k ((seenOf l i : Nat) : Int) 0 (rd_L1 l i) l (l.length : Int) (i : Int) (rd_L1 l i) ((rd_L1 l i).length : Int) (j : Int) d l m) (if anyFrom (badEl d l i) j n = true then 1 else R) := by
 have hgl := hs.2 i
 have hlt := seenOf_lt hd hel
 intro n
 induction n with
 | zero =>
  intro j hj hpre
  have hall : ∀ x ∈ rd_L1 l (i : Nat), 0 ≤ x ∧ x < d := by
   intro x hx
   obtain ⟨t, ht, rfl⟩ := List.mem_iff_getElem.1 hx
   have := hpre t (by omega)
   rwa [rdi ht] at this
  refine Ev.step (f := fun k => code_Check.l2 k ((seenOf l i : Nat) : Int) 0 l (l.length : Int) (i : Int) (rd_L1 l i) ((rd_L1 l i).length : Int) ((0 : Nat) : Int) d l m) (fun k => ?_) ?_
  ·simp only [code_Check.l1]
   rw [if_neg (by omega)]
   rfl
  ·simp only [anyFrom]
   exact cchk_l2 d l m hs i hil (seenOf l i) hlt (fun x hx => by have := hall x hx; omega) R (hR hall) _ 0 (Nat.zero_add _)
 | succ n ih =>
  intro j hj hpre
  have hjl : j < (rd_L1 l i).length := by omega
  by_cases hb : badEl d l i j = true
  ·simp only [anyFrom, hb, Bool.true_or, if_true]
   refine Ev.step (f := fun _ => some 1) (fun k => ?_) (Ev.now _)
   simp only [code_Check.l1]
   rw [if_pos (by omega), if_pos (by omega), if_pos (by omega)]
   unfold badEl at hb
   by_cases c1 : rd (rd_L1 l i) j < 0
   ·rw [if_pos c1]
   rw [if_neg c1]
   by_cases c2 : d ≤ rd (rd_L1 l i) j
   ·rw [if_pos c2]
   rw [if_neg c2]
   simp only [c1, c2, decide_false, Bool.false_or] at hb
   have hsn : ¬ (decide (0 < j) && decide (rd (rd_L1 l i) j ≤ rd (rd_L1 l i) ((j - 1 : Nat) : Int))) = true → Go.bits .and .i64 (shr .i64 ((seenOf l i : Nat) : Int) (rd (rd_L1 l i) j)) 1 = 1 := by
    intro hn
    rw [bit_of _ _ (by omega) (by omega) hlt, seenOf_bit (by omega) hel]
    rw [Bool.not_eq_true] at hn
    rw [hn, Bool.false_or] at hb
    exact hb
   by_cases c3 : 0 < j
   ·rw [if_pos (by omega), wrap_pred c3 (by omega), if_pos (by omega), if_pos (by omega)]
    by_cases c4 : rd (rd_L1 l i) j ≤ rd (rd_L1 l i) ((j - 1 : Nat) : Int)
    ·rw [if_pos c4]
    ·rw [if_neg c4, if_pos (by omega), if_pos (hsn (by simp [c4]))]
   ·rw [if_neg (by omega), if_pos (by omega), if_pos (hsn (by simp [c3]))]
  ·have hb0 : badEl d l i j = false := Bool.eq_false_iff.2 hb
   simp only [anyFrom, hb0, Bool.false_or]
   unfold badEl at hb0
   simp only [Bool.or_eq_false_iff, decide_eq_false_iff_not] at hb0
   obtain ⟨⟨c1, c2, c3⟩, c4⟩ := hb0
   refine Ev.step (f := fun k => code_Check.l1 k ((seenOf l i : Nat) : Int) 0 (rd_L1 l i) l (l.length : Int) (i : Int) (rd_L1 l i) ((rd_L1 l i).length : Int) ((j + 1 : Nat) : Int) d l m) (fun k => ?_) (ih (j + 1) (by omega) (fun t ht => ?_))
   ·simp only [code_Check.l1]
    have hns : ¬ Go.bits .and .i64 (shr .i64 ((seenOf l i : Nat) : Int) (rd (rd_L1 l i) j)) 1 = 1 := by
     rw [bit_of _ _ (by omega) (by omega) hlt, seenOf_bit (by omega) hel, c4]
     decide
    rw [if_pos (by omega), if_pos (by omega), if_pos (by omega), if_neg c1, if_neg (show ¬ rd (rd_L1 l i) j ≥ d from c2)]
    by_cases e : 0 < j
    ·have c5 : ¬ rd (rd_L1 l i) j ≤ rd (rd_L1 l i) ((j - 1 : Nat) : Int) := by
      intro h; simp [e, h] at c3
     rw [if_pos (by omega), wrap_pred e (by omega), if_pos (by omega), if_pos (by omega), if_neg c5, if_pos (by omega), if_neg hns, wrap_succ (by omega)]
    ·rw [if_neg (by omega), if_pos (by omega), if_neg hns, wrap_succ (by omega)]
   ·by_cases e : t = j
    ·subst e; omega
    ·exact hpre t (by omega)
theorem cchk_l0 (d : Int) (hd : d ≤ 16) (l : List (List Int)) (m : Int) (hs : Small l) : ∀ n i, i + n = l.length → Elems d l i → Ev (fun k => code_Check.l0 k ((seenOf l i : Nat) : Int) 0 l (l.length : Int) (i : Int) d l m) (chkFrom d l i n) := by
 intro n
 have hsl := hs.1
 induction n with
 | zero =>
  intro i hi hel
  refine Ev.step (f := fun _ => some 0) (fun k => ?_) (Ev.now _)
  simp only [code_Check.l0]
  rw [if_neg (by omega)]
 | succ n ih =>
  intro i hi hel
  by_cases h0 : (rd_L1 l i).length = 0
  ·have e : grpErr d l i = 8 := by unfold grpErr; rw [if_pos h0]
   simp only [chkFrom, e]
   refine Ev.step (f := fun _ => some 8) (fun k => ?_) (Ev.now _)
   simp only [code_Check.l0]
   rw [if_pos (by omega), if_pos (by omega), if_pos (by omega), if_pos (by omega)]
  ·refine Ev.step (f := fun k => code_Check.l1 k ((seenOf l i : Nat) : Int) 0 (rd_L1 l i) l (l.length : Int) (i : Int) (rd_L1 l i) ((rd_L1 l i).length : Int) ((0 : Nat) : Int) d l m) (fun k => ?_) ?_
   ·simp only [code_Check.l0]
    rw [if_pos (by omega), if_pos (by omega), if_pos (by omega), if_neg (by omega)]
    rfl
   ·refine ev_eq (cchk_l1 d hd l m hs i (by omega) hel (chkFrom d l (i + 1) n) (fun hall => ih (i + 1) (by omega) (fun h hh => ?_)) _ 0 (Nat.zero_add _) (fun t ht => absurd ht (Nat.not_lt_zero t))) ?_
    ·by_cases e : h = i
     ·subst e; exact hall
     ·exact hel h (by omega)
    ·have ge : grpErr d l i = if anyFrom (badEl d l i) 0 (rd_L1 l i).length = true then 1 else 0 := by unfold grpErr; rw [if_neg h0]
     by_cases e : anyFrom (badEl d l i) 0 (rd_L1 l i).length = true
     ·rw [if_pos e] at ge ⊢
      simp [chkFrom, ge]
     ·rw [if_neg e] at ge ⊢
      simp [chkFrom, ge]
theorem cchk_ev (d : Int) (l : List (List Int)) (m : Int) (hs : Small l) : Ev (fun k => code_Check.f k d l m) (chk d l m) := by
 have hsl := hs.1
 obtain ⟨b, hb⟩ : ∃ b, b = (decide (d < 1) || (decide (16 < d) || (decide (m < 0) || decide (4 < m)))) := ⟨_, rfl⟩
 refine Ev.congr (f := fun k => code_Check.j0 k b d l m) (fun k => ?_) ?_
 ·unfold code_Check.f
  by_cases c1 : d < 1
  ·rw [if_pos c1, hb]; simp [c1]
  rw [if_neg c1]
  by_cases c2 : 16 < d
  ·rw [if_pos c2, hb]; simp [c2]
  rw [if_neg c2]
  by_cases c3 : m < 0
  ·rw [if_pos c3, hb]; simp [c3]
  rw [if_neg c3, hb]
  simp [c1, c2, c3]
 ·unfold chk
  cases b with
  | true =>
   have : d < 1 ∨ 16 < d ∨ m < 0 ∨ 4 < m := by simpa using hb.symm
   rw [if_pos this]
   exact Ev.step (f := fun _ => some 3) (fun k => by simp only [code_Check.j0]; rfl) (Ev.now _)
  | false =>
   have h' : ¬ (d < 1 ∨ 16 < d ∨ m < 0 ∨ 4 < m) := by
    intro h
    have : (decide (d < 1) || (decide (16 < d) || (decide (m < 0) || decide (4 < m)))) = true := by simpa using h
    rw [← hb] at this; cases this
   rw [if_neg h']
   have hw : wrap64 (wrap64 (d + (l.length : Int)) + m) = d + l.length + m := by unfold wrap64; omega
   by_cases e : 24 < d + (l.length : Int) + m
   ·rw [if_pos e]
    refine Ev.step (f := fun k => code_Check.j1 k true d l m) (fun k => ?_) (Ev.step (f := fun _ => some 2) (fun k => by simp only [code_Check.j1]; rfl) (Ev.now _))
    simp only [code_Check.j0, hw, gt_iff_lt, e, decide_true, Bool.false_eq_true, if_false, ite_self]
   ·rw [if_neg e]
    refine Ev.step (f := fun k => code_Check.j1 k false d l m) (fun k => ?_) (Ev.step (f := fun k => code_Check.l0 k ((seenOf l 0 : Nat) : Int) 0 l (l.length : Int) ((0 : Nat) : Int) d l m) (fun k => by simp only [code_Check.j1]; rfl) (cchk_l0 d (by omega) l m hs _ 0 (Nat.zero_add _) (fun h hh => absurd hh (Nat.not_lt_zero h))))
    simp only [code_Check.j0, hw, gt_iff_lt, e, decide_false, Bool.false_eq_true, if_false]
    rw [if_neg (by omega)]
/-! what a code without an error is like -/
theorem chkFrom_elems {d : Int} {l : List (List Int)} : ∀ n i, chkFrom d l i n = 0 → ∀ h : Nat, i ≤ h → h < i + n → grpErr d l h = 0 := by
 intro n
 induction n with
 | zero => intro i _ h h1 h2; omega
 | succ n ih =>
  intro i hc h h1 h2
  simp only [chkFrom] at hc
  by_cases e : grpErr d l i = 0
  ·rw [if_pos e] at hc
   by_cases e2 : h = i
   ·subst e2; exact e
   ·exact ih (i + 1) hc h (by omega) (by omega)
  ·rw [if_neg e] at hc
   exact absurd hc e
theorem grp_ok {d : Int} {l : List (List Int)} {gi : Nat} (h : grpErr d l gi = 0) : 0 < (rd_L1 l gi).length ∧ ∀ j : Nat, j < (rd_L1 l gi).length → badEl d l gi j = false := by
 unfold grpErr at h
 by_cases e : (rd_L1 l gi).length = 0
 ·rw [if_pos e] at h; cases h
 ·rw [if_neg e] at h
  refine ⟨by omega, fun j hj => ?_⟩
  have : anyFrom (badEl d l gi) 0 (rd_L1 l gi).length = false := by
   cases hc : anyFrom (badEl d l gi) 0 (rd_L1 l gi).length
   ·rfl
   ·rw [hc] at h; cases h
  exact anyFrom_false this j (Nat.zero_le _) (by omega)
structure CodeOk (d : Int) (l : List (List Int)) (m : Int) : Prop where
 d1 : 1 ≤ d
 d2 : d ≤ 16
 m1 : 0 ≤ m
 m2 : m ≤ 4
 sum : d + l.length + m ≤ 24
 grp : ∀ h : Nat, h < l.length → 0 < (rd_L1 l h).length ∧ ∀ j : Nat, j < (rd_L1 l h).length → badEl d l h j = false
theorem chk_ok {d : Int} {l : List (List Int)} {m : Int} (h : chk d l m = 0) : CodeOk d l m := by
 unfold chk at h
 by_cases c1 : d < 1 ∨ 16 < d ∨ m < 0 ∨ 4 < m
 ·rw [if_pos c1] at h; cases h
 rw [if_neg c1] at h
 by_cases c2 : 24 < d + (l.length : Int) + m
 ·rw [if_pos c2] at h; cases h
 rw [if_neg c2] at h
 exact ⟨by omega, by omega, by omega, by omega, by omega, fun g hg => grp_ok (chkFrom_elems _ _ h g (Nat.zero_le _) (by omega))⟩
theorem CodeOk.elems {d : Int} {l : List (List Int)} {m : Int} (h : CodeOk d l m) : Elems d l l.length := by
 intro g hg x hx
 obtain ⟨t, ht, rfl⟩ := List.mem_iff_getElem.1 hx
 have := (h.grp g hg).2 t ht
 unfold badEl at this
 simp only [Bool.or_eq_false_iff, decide_eq_false_iff_not, rdi ht] at this
 omega
/-! Pieces, Size, Few -/
def piecesOf (d : Int) (l : List (List Int)) (m : Int) : Int := if chk d l m = 0 then d + l.length + m else 0
theorem cpieces_ev (d : Int) (l : List (List Int)) (m : Int) (hs : Small l) : Ev (fun k => code_Pieces.f k d l m) (piecesOf d l m) := by
 unfold piecesOf
 refine Ev.congr (f := fun k => (code_Check.f k d l m).bind fun t => if t = 0 then some (wrap64 (wrap64 (d + (l.length : Int)) + m)) else some 0) (fun k => rfl) (Ev.bind (cchk_ev d l m hs) ?_)
 by_cases e : chk d l m = 0
 ·have := chk_ok e
  have h1 := this.d1; have h2 := this.d2; have h3 := this.m1; have h4 := this.m2; have h5 := this.sum
  simp only [e, if_true]
  have hw : wrap64 (wrap64 (d + (l.length : Int)) + m) = d + l.length + m := by unfold wrap64; omega
  rw [hw]
  exact Ev.now _
 ·simp only [e, if_false]
  exact Ev.now _
def sizeOf (d : Int) (l : List (List Int)) (m n : Int) : Int := if chk d l m = 0 ∧ 0 ≤ n ∧ n ≤ 4096 then (n + d - 1) / d else 0
/-! the reference's product -/
/-! powers of 2 -/
/-! a row of the reference -/
def elAt (D : Nat) (l : List (List Int)) (t i : Nat) : Int := if t < D then unitAt t i else if t < D + l.length then setAt (setOf (rd_L1 l ((t - D : Nat) : Int))) i else expAt (t - D - l.length) i
def rowAt (D : Nat) (l : List (List Int)) (t : Nat) : List Int := (List.range D).map (elAt D l t)
/-! all rows -/
theorem rowsOf_eq (D : Nat) (l : List (List Int)) (M : Nat) : rowsOf D l M = (List.range (D + l.length + M)).map (rowAt D l) := by
 unfold rowsOf unitRows groupRows expRows
 rw [List.take_length]
 apply List.ext_getElem?
 intro i
 by_cases c1 : i < D
 ·rw [List.append_assoc, List.getElem?_append_left (by simpa using c1), List.getElem?_map, List.getElem?_map, List.getElem?_range c1, List.getElem?_range (by omega)]
  simp only [Option.map_some]
  congr 1
  unfold unitRow rowAt
  apply List.map_congr_left
  intro j _
  unfold elAt
  rw [if_pos c1]
 ·by_cases c2 : i < D + l.length
  ·rw [List.append_assoc, List.getElem?_append_right (by simp; omega), List.getElem?_append_left (by simp; omega), List.getElem?_map, List.getElem?_map, List.getElem?_range (by omega)]
   simp only [List.length_map, List.length_range, Option.map_some]
   rw [List.getElem?_eq_getElem (by omega)]
   simp only [Option.map_some]
   congr 1
   unfold groupRow rowAt
   apply List.map_congr_left
   intro j _
   unfold elAt
   rw [if_neg c1, if_pos c2]
   have : rd_L1 l ((i - D : Nat) : Int) = l[i - D]'(by omega) := by simp [rd_L1, List.getD_eq_getElem?_getD, List.getElem?_eq_getElem (show i - D < l.length by omega)]
   rw [this]
  ·have hL : ((List.range D).map (unitRow D) ++ l.map (groupRow D)).length = D + l.length := by simp
   by_cases c3 : i < D + l.length + M
   ·rw [List.getElem?_append_right (by omega), hL, List.getElem?_map, List.getElem?_range (show i - (D + l.length) < M by omega), List.getElem?_map, List.getElem?_range c3]
    simp only [Option.map_some]
    congr 1
    unfold expRow rowAt
    apply List.map_congr_left
    intro j _
    unfold elAt
    rw [if_neg c1, if_neg c2, Nat.sub_add_eq]
   ·rw [List.getElem?_eq_none (by simp; omega), List.getElem?_eq_none (by simp; omega)]
theorem okCode_of {D : Nat} {l : List (List Int)} {M : Nat} (h : CodeOk (D : Int) l (M : Int)) : okCode (D : Int) l (M : Int) = true := by
 have h1 := h.d1; have h2 := h.d2; have h3 := h.m2; have h4 := h.sum; have h5 := h.elems
 simp only [okCode, Bool.and_eq_true, decide_eq_true_eq, List.all_eq_true]
 refine ⟨⟨⟨⟨⟨h1, h2⟩, by omega⟩, h3⟩, by omega⟩, fun g hg x hx => ?_⟩
 obtain ⟨t, ht, rfl⟩ := List.mem_iff_getElem.1 hg
 have e : rd_L1 l (t : Nat) = l[t] := by simp [rd_L1, List.getD_eq_getElem?_getD, List.getElem?_eq_getElem ht]
 have := h5 t ht x (by rw [e]; exact hx)
 omega
theorem CodeOk.nats {d : Int} {l : List (List Int)} {m : Int} (h : CodeOk d l m) : ∃ D M : Nat, d = D ∧ m = M := by
 have h1 := h.d1; have h3 := h.m1
 exact ⟨d.toNat, m.toNat, by omega, by omega⟩
/-- The rows of a code; none with an error. -/
def rowsFor (d : Int) (l : List (List Int)) (m : Int) : List (List Int) := if chk d l m = 0 then rowsOf d.toNat l m.toNat else []
theorem crows_ev (d : Int) (l : List (List Int)) (m : Int) (hs : Small l) : Ev (fun k => code_Rows.f k d l m) (rowsFor d l m, chk d l m) := by
 unfold rowsFor
 refine Ev.congr (f := fun k => (code_Check.f k d l m).bind fun e => if e = 0 then (if okCode d l m = true then some (rowsOf d.toNat l m.toNat, 0) else none) else some ([], e)) (fun k => rfl) (Ev.bind (cchk_ev d l m hs) ?_)
 by_cases e : chk d l m = 0
 ·have hok := chk_ok e
  obtain ⟨D, M, rfl, rfl⟩ := hok.nats
  simp only [e, if_true, okCode_of hok]
  exact Ev.now _
 ·simp only [e, if_false]
  exact Ev.now _
/-! Scale and Sum of the reference -/
/-! Combine of the reference -/
theorem all_map_isB {n : Nat} {f : Nat → Int} (h : ∀ i, i < n → isB (f i) = true) : ∀ x ∈ (List.range n).map f, isB x = true := by
 intro x hx
 obtain ⟨i, hi, rfl⟩ := List.mem_map.1 hx
 exact h i (List.mem_range.1 hi)
theorem ixor_zero {x : Int} (h : isB x = true) : ixor 0 x = x := by
 rw [isB_iff] at h
 unfold ixor
 rw [Int.toNat_zero, Nat.zero_xor]
 omega
/-! parts -/
theorem rowAt_length (D : Nat) (l : List (List Int)) (t : Nat) : (rowAt D l t).length = D := by simp [rowAt]
theorem elAt_isB (D : Nat) (l : List (List Int)) (t i : Nat) : isB (elAt D l t i) = true := by
 unfold elAt
 split
 ·unfold unitAt; split <;> decide
 ·split
  ·unfold setAt; exact isB_nat (by omega)
  ·unfold expAt; exact isB_nat (QGF.xtp_lt (by decide) _)
theorem rowAt_isB (D : Nat) (l : List (List Int)) (t : Nat) : (rowAt D l t).all isB = true := by
 rw [List.all_eq_true]
 exact all_map_isB (fun i _ => elAt_isB D l t i)
/-! the same lists -/
/-! the law -/
end Go.Proofs.YtkadfidmfnpohaaDoor.XB

namespace Go.Proofs.YtkadfidmfnpohaaDoor.XB
open Go.RowKit Go.Proofs.YtkadfidmfnpohaaDoorW.PrintWords Go.Proofs.YtkadfidmfnpohaaDoorW.PrintLast Go.Proofs.YtkadfidmfnpohaaDoorW.PrintMore
set_option linter.unusedVariables false
set_option linter.unusedSimpArgs false
theorem isB_ex {a : Int} (h : isB a = true) : ∃ m : Nat, a = (m : Int) ∧ m < 256 := by
  rw [isB_iff] at h
  exact ⟨a.toNat, by omega, by omega⟩
theorem ixor_comm (a b : Int) : ixor a b = ixor b a := by unfold ixor; rw [Nat.xor_comm]
theorem ixor_assoc (a b c : Int) : ixor (ixor a b) c = ixor a (ixor b c) := by unfold ixor; rw [Int.toNat_natCast, Int.toNat_natCast, Nat.xor_assoc]
theorem ixor_self (a : Int) : ixor a a = 0 := by unfold ixor; rw [Nat.xor_self]; rfl
theorem ixor_zero_right {a : Int} (h : isB a = true) : ixor a 0 = a := by rw [ixor_comm]; exact ixor_zero h
theorem ixor_four (a b c d : Int) : ixor (ixor a b) (ixor c d) = ixor (ixor a c) (ixor b d) := by
  rw [ixor_assoc, ixor_assoc, ← ixor_assoc b c d, ixor_comm b c, ixor_assoc c b d]
theorem imul_zero_right (a : Int) : imul a 0 = 0 := by unfold imul; rw [Int.toNat_zero, QGF.mul_zero]; rfl
theorem imul_zero_left {a : Int} (h : isB a = true) : imul 0 a = 0 := by
  obtain ⟨m, rfl, hm⟩ := isB_ex h
  unfold imul; rw [Int.toNat_zero, Int.toNat_natCast, QGF.zero_mul hm]; rfl
theorem imul_one_left {a : Int} (h : isB a = true) : imul 1 a = a := by
  obtain ⟨m, rfl, hm⟩ := isB_ex h
  show ((QGF.mulN 1 m : Nat) : Int) = _
  rw [QGF.one_mul hm]
theorem imul_comm {a b : Int} (ha : isB a = true) (hb : isB b = true) : imul a b = imul b a := by
  obtain ⟨m, rfl, hm⟩ := isB_ex ha
  obtain ⟨n, rfl, hn⟩ := isB_ex hb
  show ((QGF.mulN m n : Nat) : Int) = ((QGF.mulN n m : Nat) : Int)
  rw [QGF.mul_comm hm hn]
theorem imul_assoc {a b c : Int} (ha : isB a = true) (hb : isB b = true) (hc : isB c = true) : imul (imul a b) c = imul a (imul b c) := by
  obtain ⟨m, rfl, hm⟩ := isB_ex ha
  obtain ⟨n, rfl, hn⟩ := isB_ex hb
  obtain ⟨o, rfl, ho⟩ := isB_ex hc
  show ((QGF.mulN (QGF.mulN m n) o : Nat) : Int) = ((QGF.mulN m (QGF.mulN n o) : Nat) : Int)
  rw [QGF.mul_assoc hm hn ho]
theorem imul_xor (a b c : Int) : imul a (ixor b c) = ixor (imul a b) (imul a c) := by
  show ((QGF.mulN a.toNat (b.toNat ^^^ c.toNat) : Nat) : Int) = ((QGF.mulN a.toNat b.toNat ^^^ QGF.mulN a.toNat c.toNat : Nat) : Int)
  rw [QGF.mul_xor]
theorem xor_imul {a b c : Int} (ha : isB a = true) (hb : isB b = true) (hc : isB c = true) : imul (ixor a b) c = ixor (imul a c) (imul b c) := by
  rw [imul_comm (isB_xor ha hb) hc, imul_xor, imul_comm hc ha, imul_comm hc hb]
theorem imul_eq_zero {a b : Int} (ha : isB a = true) (hb : isB b = true) (h : imul a b = 0) : a = 0 ∨ b = 0 := by
  obtain ⟨m, rfl, hm⟩ := isB_ex ha
  obtain ⟨n, rfl, hn⟩ := isB_ex hb
  have h : ((QGF.mulN m n : Nat) : Int) = 0 := h
  rcases QGF.mul_eq_zero hm hn (by omega) with e | e
  · exact .inl (by omega)
  · exact .inr (by omega)
theorem imul_inv {a : Int} (ha : isB a = true) (h0 : a ≠ 0) : imul (iinv a) a = 1 := by
  obtain ⟨m, rfl, hm⟩ := isB_ex ha
  show ((QGF.mulN (QGF.invN m) m : Nat) : Int) = 1
  rw [QGF.mul_comm QGF.inv_lt hm, QGF.mul_inv hm (by omega)]
  rfl
/-! rows and vectors -/
abbrev Vec := Nat → Int
def IsV (x : Vec) : Prop := ∀ i, isB (x i) = true
def dotU (r : List Int) (x : Vec) : Nat → Int
  | 0 => 0
  | i + 1 => ixor (dotU r x i) (imul (rd r (i : Int)) (x i))
def RowB (w : Nat) (r : List Int) : Prop := r.all isB = true ∧ r.length = w
theorem RowB.at {w : Nat} {r : List Int} (h : RowB w r) {i : Nat} (hi : i < w) : isB (rd r (i : Int)) = true := isB_rd h.1 i (by rw [h.2]; exact hi)
theorem dotU_isB {w : Nat} {r : List Int} {x : Vec} (hr : RowB w r) : ∀ i, i ≤ w → isB (dotU r x i) = true
  | 0, _ => rfl
  | i + 1, h => isB_xor (dotU_isB hr i (by omega)) (isB_mul _ (hr.at (by omega)))
theorem dotU_congr {r : List Int} {x y : Vec} : ∀ i, (∀ j, j < i → x j = y j) → dotU r x i = dotU r y i
  | 0, _ => rfl
  | i + 1, h => by
    show ixor (dotU r x i) _ = ixor (dotU r y i) _
    rw [dotU_congr i (fun j hj => h j (by omega)), h i (Nat.lt_succ_self i)]
theorem dotU_sub {w : Nat} {f : Int} {x r : List Int} {v : Vec} (hf : isB f = true) (hr : RowB w r) (hx : RowB w x) (hv : IsV v) : ∀ i, i ≤ w → dotU (subRow f x r) v i = ixor (dotU r v i) (imul f (dotU x v i))
  | 0, _ => by show (0 : Int) = ixor 0 (imul f 0); rw [imul_zero_right]; rfl
  | i + 1, h => by
    have e : rd (subRow f x r) (i : Int) = ixor (rd r (i : Int)) (imul f (rd x (i : Int))) := by
      have hl : i < (subRow f x r).length := by rw [subRow_length, hr.2]; omega
      rw [rdi hl]
      simp [subRow]
    show ixor (dotU (subRow f x r) v i) (imul (rd (subRow f x r) (i : Int)) (v i)) = ixor (ixor (dotU r v i) (imul (rd r (i : Int)) (v i))) (imul f (ixor (dotU x v i) (imul (rd x (i : Int)) (v i))))
    rw [dotU_sub hf hr hx hv i (by omega), e, xor_imul (hr.at (by omega)) (isB_mul _ hf) (hv i), imul_xor, imul_assoc hf (hx.at (by omega)) (hv i), ixor_four]
theorem dotU_mul {w : Nat} {c : Int} {r : List Int} {v : Vec} (hc : isB c = true) (hr : RowB w r) (hv : IsV v) : ∀ i, i ≤ w → dotU (mulRow c r) v i = imul c (dotU r v i)
  | 0, _ => by show (0 : Int) = imul c 0; rw [imul_zero_right]
  | i + 1, h => by
    have e : rd (mulRow c r) (i : Int) = imul c (rd r (i : Int)) := by
      have hl : i < (mulRow c r).length := by rw [mulRow_length, hr.2]; omega
      rw [rdi hl]
      simp [mulRow]
    show ixor (dotU (mulRow c r) v i) (imul (rd (mulRow c r) (i : Int)) (v i)) = imul c (ixor (dotU r v i) (imul (rd r (i : Int)) (v i)))
    rw [dotU_mul hc hr hv i (by omega), e, imul_xor, imul_assoc hc (hr.at (by omega)) (hv i)]
theorem dotU_add {w : Nat} {r : List Int} {u v : Vec} (hr : RowB w r) : ∀ i, i ≤ w → dotU r (fun j => ixor (u j) (v j)) i = ixor (dotU r u i) (dotU r v i)
  | 0, _ => (by show (0 : Int) = ixor 0 0; rfl)
  | i + 1, h => by
    show ixor (dotU r _ i) (imul (rd r (i : Int)) (ixor (u i) (v i))) = ixor (ixor (dotU r u i) (imul (rd r (i : Int)) (u i))) (ixor (dotU r v i) (imul (rd r (i : Int)) (v i)))
    rw [dotU_add hr i (by omega), imul_xor, ixor_four]
/-- What leads: all before it is 0. -/
theorem fst_zero (r : List Int) {i : Nat} (h : i < fstIdx r) : rd r (i : Int) = 0 := by
  have hl : i < r.length := Nat.lt_of_lt_of_le h (fstIdx_le r)
  rw [rdi hl]
  have := List.not_of_lt_findIdx h
  simpa using this
theorem fst_ne (r : List Int) (h : fstIdx r < r.length) : rd r ((fstIdx r : Nat) : Int) ≠ 0 := by
  rw [rdi h]
  have := List.findIdx_getElem (w := h) (p := fun x => x != 0) (xs := r)
  intro e
  have h2 : (r[fstIdx r] != 0) = true := this
  rw [e] at h2
  cases h2
theorem fst_of {r : List Int} {p : Nat} (hp : p < r.length) (h0 : ∀ i, i < p → rd r (i : Int) = 0) (h1 : rd r (p : Int) ≠ 0) : fstIdx r = p := by
  rcases Nat.lt_trichotomy (fstIdx r) p with h | h | h
  · exact absurd (h0 _ h) (fst_ne r (by omega))
  · exact h
  · exact absurd (fst_zero r h) h1
theorem dotU_below {w : Nat} {r : List Int} {v : Vec} (hr : RowB w r) (hv : IsV v) {p : Nat} (h0 : ∀ i, i < p → rd r (i : Int) = 0) : ∀ i, i ≤ p → dotU r v i = 0
  | 0, _ => rfl
  | i + 1, h => by
    show ixor (dotU r v i) _ = 0
    rw [dotU_below hr hv h0 i (by omega), h0 i (by omega), imul_zero_left (hv i)]
    rfl
theorem dotU_zeros {r : List Int} {v : Vec} {p : Nat} : ∀ i, p ≤ i → (∀ j, p ≤ j → j < i → v j = 0) → isB (dotU r v p) = true → dotU r v i = dotU r v p
  | 0, h, _, _ => by obtain rfl : p = 0 := by omega
                     rfl
  | i + 1, h, hz, hb => by
    by_cases e : p = i + 1
    · rw [e]
    · have ih := dotU_zeros i (by omega) (fun j h1 h2 => hz j h1 (by omega)) hb
      show ixor (dotU r v i) (imul _ (v i)) = _
      rw [ih, hz i (by omega) (by omega), imul_zero_right, ixor_zero_right hb]
/-- Rows that lead at different places. -/
structure Leads (w : Nat) (S : List (List Int)) : Prop where
  rows : ∀ r ∈ S, RowB w r ∧ fstIdx r < w
  apart : (S.map fstIdx).Nodup
def Ker (w : Nat) (S : List (List Int)) (v : Vec) : Prop := ∀ r ∈ S, dotU r v w = 0
/-- Only 0 is sent to 0 by all rows. -/
def Full (w : Nat) (S : List (List Int)) : Prop := ∀ v, IsV v → Ker w S v → ∀ i, i < w → v i = 0
theorem nodup_sub {α : Type} [DecidableEq α] : ∀ (a l : List α), a.Nodup → (∀ x ∈ a, x ∈ l) → a.length ≤ l.length
  | [], _, _, _ => Nat.zero_le _
  | x :: a, l, hn, hs => by
    have hn := List.nodup_cons.1 hn
    have hx := hs x List.mem_cons_self
    have := nodup_sub a (l.erase x) hn.2 (fun y hy => (List.mem_erase_of_ne (fun (e : y = x) => hn.1 (e ▸ hy))).2 (hs y (List.mem_cons_of_mem _ hy)))
    rw [List.length_erase_of_mem hx] at this
    have hp := List.length_pos_of_mem hx
    simp only [List.length_cons]
    omega
theorem nodup_inj {α β : Type} {f : α → β} : ∀ {S : List α}, (S.map f).Nodup → ∀ a ∈ S, ∀ b ∈ S, f a = f b → a = b
  | [], _, a, ha, _, _, _ => by cases ha
  | x :: S, hn, a, ha, b, hb, e => by
    rw [List.map_cons] at hn
    have hn := List.nodup_cons.1 hn
    rcases List.mem_cons.1 ha with h1 | h1
    · rcases List.mem_cons.1 hb with h2 | h2
      · rw [h1, h2]
      · exact absurd (h1 ▸ e ▸ List.mem_map_of_mem h2) hn.1
    · rcases List.mem_cons.1 hb with h2 | h2
      · exact absurd (h2 ▸ e ▸ List.mem_map_of_mem h1) hn.1
      · exact nodup_inj hn.2 a h1 b h2 e
theorem Leads.all {w : Nat} {S : List (List Int)} (h : Leads w S) (hl : S.length = w) {p : Nat} (hp : p < w) : ∃ r ∈ S, fstIdx r = p := by
  by_cases hm : p ∈ S.map fstIdx
  · obtain ⟨r, hr, e⟩ := List.mem_map.1 hm
    exact ⟨r, hr, e⟩
  · have := nodup_sub (p :: S.map fstIdx) (List.range w) (List.nodup_cons.2 ⟨hm, h.apart⟩) (fun q hq => by
      rcases List.mem_cons.1 hq with rfl | hq
      · exact List.mem_range.2 hp
      · obtain ⟨r, hr, rfl⟩ := List.mem_map.1 hq
        exact List.mem_range.2 (h.rows r hr).2)
    simp [hl] at this
    omega
theorem Leads.missing {w : Nat} {S : List (List Int)} (h : Leads w S) (hl : S.length < w) : ∃ p, p < w ∧ ∀ r ∈ S, fstIdx r ≠ p := by
  by_cases hc : ∃ p, p < w ∧ p ∉ S.map fstIdx
  · obtain ⟨p, hp, hn⟩ := hc
    exact ⟨p, hp, fun r hr e => hn (List.mem_map.2 ⟨r, hr, e⟩)⟩
  · have := nodup_sub (List.range w) (S.map fstIdx) List.nodup_range (fun p hp => by
      by_cases h3 : p ∈ S.map fstIdx
      · exact h3
      · exact absurd ⟨p, List.mem_range.1 hp, h3⟩ hc)
    simp at this
    omega
theorem Leads.full {w : Nat} {S : List (List Int)} (h : Leads w S) (hl : S.length = w) : Full w S := by
  intro v hv hk
  have key : ∀ n, n ≤ w → ∀ i, w - n ≤ i → i < w → v i = 0 := by
    intro n
    induction n with
    | zero => intro _ i h1 h2; omega
    | succ n ih =>
      intro hn i h1 h2
      by_cases e : i = w - (n + 1)
      · obtain ⟨r, hr, he⟩ := h.all hl h2
        obtain ⟨hb, hf⟩ := h.rows r hr
        have h3 := hk r hr
        have h4 := dotU_zeros (r := r) (v := v) (p := i + 1) w (by omega) (fun j h5 h6 => ih (by omega) j (by omega) h6) (dotU_isB hb (i + 1) (by omega))
        rw [h3] at h4
        have h5 : dotU r v (i + 1) = ixor (dotU r v i) (imul (rd r (i : Int)) (v i)) := rfl
        rw [dotU_below hb hv (p := i) (fun j hj => fst_zero r (by omega)) i (Nat.le_refl _), ixor_zero (isB_mul _ (hb.at h2)), ← h4] at h5
        rcases imul_eq_zero (hb.at h2) (hv i) h5.symm with h6 | h6
        · exact absurd h6 (by have := fst_ne r (by rw [hb.2]; omega); rw [he] at this; exact this)
        · exact h6
      · exact ih (by omega) i (by omega) h2
  exact fun i hi => key w (Nat.le_refl _) i (by omega) hi
/-- What is sent to 0 by rows that leave a place free. -/
theorem Leads.free {w : Nat} {S : List (List Int)} (h : Leads w S) {p : Nat} (hp : p < w) (hfree : ∀ r ∈ S, fstIdx r ≠ p) : ∃ v, IsV v ∧ Ker w S v ∧ v p = 1 := by
  -- from the last place down: the places from w - n on are told so that all rows that lead there are met
  have key : ∀ n, n ≤ w → ∃ v : Vec, IsV v ∧ (∀ r ∈ S, w - n ≤ fstIdx r → dotU r v w = 0) ∧ (w - n ≤ p → v p = 1) ∧ (∀ i, i < w - n → v i = 0) := by
    intro n
    induction n with
    | zero => exact fun _ => ⟨fun _ => 0, fun _ => rfl, fun r hr h1 => by have := (h.rows r hr).2; omega, fun h1 => by omega, fun _ _ => rfl⟩
    | succ n ih =>
      intro hn
      obtain ⟨v, hv, hk, h1, h0⟩ := ih (by omega)
      obtain ⟨q, hq⟩ : ∃ q, q = w - (n + 1) := ⟨_, rfl⟩
      have hqw : q < w := by omega
      -- the value at q
      have main : ∃ c : Int, isB c = true ∧ (q = p → c = 1) ∧ ∀ r ∈ S, fstIdx r = q → ixor (dotU r v w) (imul (rd r (q : Int)) c) = 0 := by
        by_cases e : q = p
        · exact ⟨1, rfl, fun _ => rfl, fun r hr he => absurd (he.trans e) (hfree r hr)⟩
        · by_cases hx : ∃ r ∈ S, fstIdx r = q
          · obtain ⟨r, hr, he⟩ := hx
            obtain ⟨hb, hf⟩ := h.rows r hr
            have hbq := hb.at hqw
            have hne : rd r (q : Int) ≠ 0 := by have := fst_ne r (by rw [hb.2]; omega); rwa [he] at this
            have hd := dotU_isB (x := v) hb w (Nat.le_refl _)
            refine ⟨imul (iinv (rd r (q : Int))) (dotU r v w), isB_mul _ (isB_inv _), fun h => absurd h e, fun r' hr' he' => ?_⟩
            have : r' = r := nodup_inj h.apart r' hr' r hr (he'.trans he.symm)
            subst this
            rw [← imul_assoc hbq (isB_inv _) hd, imul_comm hbq (isB_inv _), imul_inv hbq hne, imul_one_left hd, ixor_self]
          · exact ⟨0, rfl, fun h => absurd h e, fun r hr he => absurd ⟨r, hr, he⟩ hx⟩
      obtain ⟨c, hc, hcp, hcr⟩ := main
      have hadd : ∀ r ∈ S, q ≤ fstIdx r ∨ True → dotU r (fun i => if i = q then c else v i) w = ixor (dotU r v w) (imul (rd r (q : Int)) c) := by
        intro r hr _
        obtain ⟨hb, _⟩ := h.rows r hr
        have he : dotU r (fun i => if i = q then c else v i) w = dotU r (fun i => ixor (v i) (if i = q then c else 0)) w := dotU_congr w (fun j hj => by
          by_cases e : j = q
          · subst e; rw [if_pos rfl, if_pos rfl, h0 j (by omega), ixor_zero hc]
          · rw [if_neg e, if_neg e, ixor_zero_right (hv j)])
        rw [he, dotU_add hb w (Nat.le_refl _)]
        congr 1
        have hone : ∀ i, i ≤ w → dotU r (fun i => if i = q then c else 0) i = if q < i then imul (rd r (q : Int)) c else 0 := by
          intro i
          induction i with
          | zero => intro _; rw [if_neg (by omega)]; rfl
          | succ i ih2 =>
            intro hi
            show ixor (dotU r _ i) (imul (rd r (i : Int)) (if i = q then c else 0)) = _
            rw [ih2 (by omega)]
            by_cases e : i = q
            · subst e
              rw [if_neg (by omega), if_pos rfl, if_pos (by omega), ixor_zero (isB_mul _ (hb.at (by omega)))]
            · rw [if_neg e, imul_zero_right]
              by_cases e2 : q < i
              · rw [if_pos e2, if_pos (by omega), ixor_zero_right (isB_mul _ (hb.at hqw))]
              · rw [if_neg e2, if_neg (by omega)]; rfl
        rw [hone w (Nat.le_refl _), if_pos hqw]
      refine ⟨fun i => if i = q then c else v i, fun i => ?_, fun r hr hle => ?_, fun hle => ?_, fun i hi => ?_⟩
      · by_cases e : i = q
        · simp only [e, if_true]; exact hc
        · simp only [e, if_false]; exact hv i
      · rw [hadd r hr (.inr trivial)]
        by_cases e : fstIdx r = q
        · exact hcr r hr e
        · have hz : rd r (q : Int) = 0 := fst_zero r (by omega)
          rw [hk r hr (by omega), hz, imul_zero_left hc]
          rfl
      · by_cases e : p = q
        · simp only [e, if_true]; exact hcp e.symm
        · simp only [e, if_false]; exact h1 (by omega)
      · have e : i ≠ q := by omega
        simp only [e, if_false]; exact h0 i (by omega)
  obtain ⟨v, hv, hk, h1, _⟩ := key w (Nat.le_refl _)
  exact ⟨v, hv, fun r hr => hk r hr (by omega), h1 (by omega)⟩
theorem Full.mono {w : Nat} {S T : List (List Int)} (h : Full w S) (hs : ∀ v, IsV v → Ker w T v → Ker w S v) : Full w T := fun v hv hk => h v hv (hs v hv hk)
end Go.Proofs.YtkadfidmfnpohaaDoor.XB

namespace Go.Proofs.YtkadfidmfnpohaaDoor.XB
open Go.RowKit Go.Proofs.YtkadfidmfnpohaaDoorW.PrintWords Go.Proofs.YtkadfidmfnpohaaDoorW.PrintLast Go.Proofs.YtkadfidmfnpohaaDoorW.PrintMore
set_option linter.unusedVariables false
set_option linter.unusedSimpArgs false
def Lead1 (st : St) : Prop := ∀ x ∈ st, rd x.1 ((fstIdx x.1 : Nat) : Int) = 1
def Cleared (st : St) : Prop := st.Pairwise fun a b => rd b.1 ((fstIdx a.1 : Nat) : Int) = 0
theorem redStep_row {w : Nat} {a x : List Int × ByteArray} (ha : RowB w a.1) (hx : RowB w x.1) (hf : fstIdx x.1 < w) : RowB w (redStep a x).1 := by
 unfold redStep
 split
 ·exact ha
 ·exact ⟨all_isB_sub ha.1 (ha.at hf), by rw [subRow_length]; exact ha.2⟩
theorem redStep_dot {w : Nat} {a x : List Int × ByteArray} {v : Vec} (ha : RowB w a.1) (hx : RowB w x.1) (hf : fstIdx x.1 < w) (hv : IsV v) (h0 : dotU x.1 v w = 0) : dotU (redStep a x).1 v w = dotU a.1 v w := by
 unfold redStep
 split
 ·rfl
 ·show dotU (subRow _ x.1 a.1) v w = _
  rw [dotU_sub (ha.at hf) ha hx hv w (Nat.le_refl _), h0, imul_zero_right, ixor_zero_right (dotU_isB ha w (Nat.le_refl _))]
theorem redStep_at {w : Nat} {a x : List Int × ByteArray} (ha : RowB w a.1) (hx : RowB w x.1) (hf : fstIdx x.1 < w) (h1 : rd x.1 ((fstIdx x.1 : Nat) : Int) = 1) :
  rd (redStep a x).1 ((fstIdx x.1 : Nat) : Int) = 0 ∧ ∀ z, z < w → rd x.1 (z : Int) = 0 → rd a.1 (z : Int) = 0 → rd (redStep a x).1 (z : Int) = 0 := by
 unfold redStep
 split
 ·rename_i h; exact ⟨h, fun z _ _ h => h⟩
 ·have key : ∀ z, z < w → rd (subRow (rd a.1 ((fstIdx x.1 : Nat) : Int)) x.1 a.1) (z : Int) = ixor (rd a.1 (z : Int)) (imul (rd a.1 ((fstIdx x.1 : Nat) : Int)) (rd x.1 (z : Int))) := by
   intro z hz
   rw [rdi (by rw [subRow_length, ha.2]; exact hz)]
   simp [subRow]
  refine ⟨?_, fun z hz h2 h3 => ?_⟩
  ·show rd (subRow _ x.1 a.1) _ = 0
   rw [key _ hf, h1, imul_comm (ha.at hf) rfl, imul_one_left (ha.at hf), ixor_self]
  ·show rd (subRow _ x.1 a.1) _ = 0
   rw [key z hz, h2, h3, imul_zero_right]
   rfl
theorem redRow_row {w : Nat} : ∀ {st : St} {a}, (∀ x ∈ st, RowB w x.1 ∧ fstIdx x.1 < w) → RowB w a.1 → RowB w (redRow st a).1
 | [], _, _, ha => ha
 | x :: st, a, h, ha => redRow_row (st := st) (fun y hy => h y (List.mem_cons_of_mem _ hy)) (redStep_row ha (h x List.mem_cons_self).1 (h x List.mem_cons_self).2)
theorem redRow_dot {w : Nat} {v : Vec} (hv : IsV v) : ∀ {st : St} {a}, (∀ x ∈ st, RowB w x.1 ∧ fstIdx x.1 < w) → RowB w a.1 → (∀ x ∈ st, dotU x.1 v w = 0) → dotU (redRow st a).1 v w = dotU a.1 v w
 | [], _, _, _, _ => rfl
 | x :: st, a, h, ha, h0 => by
  have hx := h x List.mem_cons_self
  have e := redRow_dot hv (st := st) (a := redStep a x) (fun y hy => h y (List.mem_cons_of_mem _ hy)) (redStep_row ha hx.1 hx.2) (fun y hy => h0 y (List.mem_cons_of_mem _ hy))
  exact e.trans (redStep_dot ha hx.1 hx.2 hv (h0 x List.mem_cons_self))
theorem redRow_at {w : Nat} : ∀ {st : St} {a} (Z : Nat → Prop), (∀ x ∈ st, RowB w x.1 ∧ fstIdx x.1 < w) → Lead1 st → Cleared st → RowB w a.1 → (∀ z, Z z → z < w ∧ rd a.1 (z : Int) = 0 ∧ ∀ x ∈ st, rd x.1 (z : Int) = 0) →
  (∀ z, Z z → rd (redRow st a).1 (z : Int) = 0) ∧ ∀ x ∈ st, rd (redRow st a).1 ((fstIdx x.1 : Nat) : Int) = 0
 | [], _, _, _, _, _, _, hZ => ⟨fun z hz => (hZ z hz).2.1, fun x hx => by cases hx⟩
 | x :: st, a, Z, h, h1, hc, ha, hZ => by
  have hx := h x List.mem_cons_self
  have hcl := List.pairwise_cons.1 hc
  have hs := redStep_at ha hx.1 hx.2 (h1 x List.mem_cons_self)
  obtain ⟨e1, e2⟩ := redRow_at (st := st) (a := redStep a x) (fun z => Z z ∨ z = fstIdx x.1) (fun y hy => h y (List.mem_cons_of_mem _ hy)) (fun y hy => h1 y (List.mem_cons_of_mem _ hy)) hcl.2 (redStep_row ha hx.1 hx.2) (fun z hz => by
   rcases hz with hz | rfl
   ·obtain ⟨h2, h3, h4⟩ := hZ z hz
    exact ⟨h2, hs.2 z h2 (h4 x List.mem_cons_self) h3, fun y hy => h4 y (List.mem_cons_of_mem _ hy)⟩
   ·exact ⟨hx.2, hs.1, fun y hy => hcl.1 y hy⟩)
  refine ⟨fun z hz => e1 z (.inl hz), fun y hy => ?_⟩
  rcases List.mem_cons.1 hy with rfl | hy
  ·exact e1 _ (.inr rfl)
  ·exact e2 y hy
structure Stairs (w : Nat) (st : St) : Prop where
 rows : ∀ x ∈ st, RowB w x.1 ∧ fstIdx x.1 < w
 apart : (st.map fun x => fstIdx x.1).Nodup
 one : Lead1 st
 clear : Cleared st
theorem Stairs.leads {w : Nat} {st : St} (h : Stairs w st) : Leads w (st.map Prod.fst) :=
 ⟨fun r hr => by obtain ⟨x, hx, rfl⟩ := List.mem_map.1 hr; exact h.rows x hx, by rw [List.map_map]; exact h.apart⟩
theorem Stairs.nil (w : Nat) : Stairs w [] := ⟨fun x hx => (by cases hx), List.nodup_nil, fun x hx => (by cases hx), List.Pairwise.nil⟩
/-- A row more. -/
theorem addSt_some {w : Nat} {st : St} (h : Stairs w st) {row : List Int} {part : ByteArray} (hr : RowB w row) {x} (he : addSt st row part = some x) :
  Stairs w (st ++ [x]) ∧ ∀ v, IsV v → (∀ y ∈ st, dotU y.1 v w = 0) → (dotU x.1 v w = 0 ↔ dotU row v w = 0) := by
 have hB := redRow_row (a := (row, part)) h.rows hr
 have hat := (redRow_at (a := (row, part)) (fun _ => False) h.rows h.one h.clear hr (fun z hz => hz.elim)).2
 have hdot := fun v hv h0 => redRow_dot (v := v) hv (a := (row, part)) h.rows hr h0
 unfold addSt at he
 generalize redRow st (row, part) = rr at *
 obtain ⟨r, q⟩ := rr
 dsimp only at *
 by_cases e : fstIdx r = r.length
 ·rw [if_pos e] at he; cases he
 ·rw [if_neg e] at he
  obtain rfl := (Option.some.inj he).symm
  have hfl : fstIdx r < r.length := by have := fstIdx_le r; omega
  have hfw : fstIdx r < w := by rw [← hB.2]; exact hfl
  have hne := fst_ne r hfl
  have hrf := hB.at hfw
  have hcB : isB (iinv (rd r ((fstIdx r : Nat) : Int))) = true := isB_inv _
  have hget : ∀ z, z < w → rd (mulRow (iinv (rd r ((fstIdx r : Nat) : Int))) r) (z : Int) = imul (iinv (rd r ((fstIdx r : Nat) : Int))) (rd r (z : Int)) := by
   intro z hz
   rw [rdi (by rw [mulRow_length, hB.2]; exact hz)]
   simp [mulRow]
  have hone : rd (mulRow (iinv (rd r ((fstIdx r : Nat) : Int))) r) ((fstIdx r : Nat) : Int) = 1 := by rw [hget _ hfw, imul_inv hrf hne]
  have hfst : fstIdx (mulRow (iinv (rd r ((fstIdx r : Nat) : Int))) r) = fstIdx r := by
   refine fst_of (by rw [mulRow_length]; exact hfl) (fun i hi => ?_) (by rw [hone]; decide)
   rw [hget i (by omega), fst_zero r hi, imul_zero_right]
  have hnew : RowB w (mulRow (iinv (rd r ((fstIdx r : Nat) : Int))) r) := ⟨all_isB_mul hcB, by rw [mulRow_length]; exact hB.2⟩
  refine ⟨⟨fun y hy => ?_, ?_, fun y hy => ?_, ?_⟩, fun v hv h0 => ?_⟩
  ·rcases List.mem_append.1 hy with hy | hy
   ·exact h.rows y hy
   ·obtain rfl := List.mem_singleton.1 hy
    exact ⟨hnew, by dsimp only; rw [hfst]; exact hfw⟩
  ·rw [List.map_append, List.nodup_append]
   refine ⟨h.apart, by simp, fun p hp p' hp' => ?_⟩
   obtain ⟨y, hy, rfl⟩ := List.mem_map.1 hp
   simp only [List.map_cons, List.map_nil, List.mem_singleton] at hp'
   rw [hp', hfst]
   intro hc
   have := hat y hy
   rw [hc] at this
   exact hne this
  ·rcases List.mem_append.1 hy with hy | hy
   ·exact h.one y hy
   ·obtain rfl := List.mem_singleton.1 hy
    dsimp only
    rw [hfst]; exact hone
  ·refine List.pairwise_append.2 ⟨h.clear, List.pairwise_singleton _ _, fun a ha b hb => ?_⟩
   obtain rfl := List.mem_singleton.1 hb
   dsimp only
   rw [hget _ (h.rows a ha).2, hat a ha, imul_zero_right]
  ·dsimp only
   rw [dotU_mul hcB hB hv w (Nat.le_refl _), ← hdot v hv h0]
   constructor
   ·intro hz
    rcases imul_eq_zero hcB (dotU_isB hB w (Nat.le_refl _)) hz with e2 | e2
    ·have := imul_inv hrf hne
     rw [e2, imul_zero_left hrf] at this
     cases this
    ·exact e2
   ·intro hz
    rw [hz, imul_zero_right]
theorem addSt_none {w : Nat} {st : St} (h : Stairs w st) {row : List Int} {part : ByteArray} (hr : RowB w row) (he : addSt st row part = none) :
  ∀ v, IsV v → (∀ y ∈ st, dotU y.1 v w = 0) → dotU row v w = 0 := by
 intro v hv h0
 have hB := redRow_row (a := (row, part)) h.rows hr
 rw [← redRow_dot hv (a := (row, part)) h.rows hr h0]
 unfold addSt at he
 generalize redRow st (row, part) = rr at *
 obtain ⟨r, q⟩ := rr
 dsimp only at *
 by_cases e : fstIdx r = r.length
 ·exact dotU_below hB hv (p := w) (fun i hi => fst_zero r (by rw [e, hB.2]; exact hi)) w (Nat.le_refl _)
 ·rw [if_neg e] at he; cases he
/-! rows of a set of pieces -/
def selRows (rows : List (List Int)) (mask : Nat) : Nat → List (List Int)
 | 0 => []
 | n + 1 => if (mask >>> n) % 2 = 1 then selRows rows mask n ++ [rd_L4 rows (n : Int)] else selRows rows mask n
theorem ker_append {w : Nat} {S T : List (List Int)} {v : Vec} : Ker w (S ++ T) v ↔ Ker w S v ∧ Ker w T v := by
 unfold Ker
 constructor
 ·exact fun h => ⟨fun r hr => h r (List.mem_append_left _ hr), fun r hr => h r (List.mem_append_right _ hr)⟩
 ·rintro ⟨h1, h2⟩ r hr
  rcases List.mem_append.1 hr with hr | hr
  ·exact h1 r hr
  ·exact h2 r hr
theorem ker_map {w : Nat} {st : St} {v : Vec} : Ker w (st.map Prod.fst) v ↔ ∀ y ∈ st, dotU y.1 v w = 0 := by
 unfold Ker
 constructor
 ·exact fun h y hy => h _ (List.mem_map_of_mem hy)
 ·intro h r hr
  obtain ⟨y, hy, rfl⟩ := List.mem_map.1 hr
  exact h y hy
theorem collect_inv {w mask : Nat} {rows : List (List Int)} {pieces : List ByteArray} (hrows : ∀ k : Nat, k < rows.length → RowB w (rd_L4 rows (k : Int))) :
  ∀ n, n ≤ rows.length → Stairs w (collectUpto w mask rows pieces n) ∧ (∀ v, IsV v → Ker w (selRows rows mask n) v → Ker w ((collectUpto w mask rows pieces n).map Prod.fst) v) ∧
   ((collectUpto w mask rows pieces n).length < w → ∀ v, IsV v → Ker w ((collectUpto w mask rows pieces n).map Prod.fst) v → Ker w (selRows rows mask n) v) := by
 intro n
 induction n with
 | zero => intro _; exact ⟨Stairs.nil w, fun v _ h r hr => (by cases hr), fun _ v _ h r hr => (by cases hr)⟩
 | succ n ih =>
  intro hn
  obtain ⟨h1, h2, h3⟩ := ih (by omega)
  have hr := hrows n (by omega)
  simp only [collectUpto, selRows]
  by_cases hb : (mask >>> n) % 2 = 1
  ·rw [if_pos hb]
   by_cases hl : (collectUpto w mask rows pieces n).length < w
   ·rw [if_pos ⟨hb, hl⟩]
    cases he : addSt (collectUpto w mask rows pieces n) (rd_L4 rows (n : Int)) (rdOf ByteArray.empty pieces (n : Int)) with
    | none =>
     have hz := addSt_none h1 hr he
     simp only [Option.toList_none, List.append_nil]
     refine ⟨h1, fun v hv hk => h2 v hv (ker_append.1 hk).1, fun _ v hv hk => ker_append.2 ⟨h3 hl v hv hk, fun r hr2 => ?_⟩⟩
     obtain rfl := List.mem_singleton.1 hr2
     exact hz v hv (ker_map.1 hk)
    | some x =>
     obtain ⟨h4, h5⟩ := addSt_some h1 hr he
     simp only [Option.toList_some]
     refine ⟨h4, fun v hv hk => ?_, fun _ v hv hk => ?_⟩
     ·obtain ⟨k1, k2⟩ := ker_append.1 hk
      have k3 := h2 v hv k1
      rw [List.map_append]
      refine ker_append.2 ⟨k3, fun r hr2 => ?_⟩
      obtain rfl := List.mem_singleton.1 hr2
      exact (h5 v hv (ker_map.1 k3)).2 (k2 _ (List.mem_singleton.2 rfl))
     ·rw [List.map_append] at hk
      obtain ⟨k1, k2⟩ := ker_append.1 hk
      refine ker_append.2 ⟨h3 hl v hv k1, fun r hr2 => ?_⟩
      obtain rfl := List.mem_singleton.1 hr2
      exact (h5 v hv (ker_map.1 k1)).1 (k2 _ (List.mem_singleton.2 rfl))
   ·rw [if_neg (fun h => hl h.2)]
    exact ⟨h1, fun v hv hk => h2 v hv (ker_append.1 hk).1, fun h => absurd h hl⟩
  ·rw [if_neg hb, if_neg (fun h => hb h.1)]
   exact ⟨h1, h2, h3⟩
/-- A set of pieces suffices if only 0 is sent to 0 by its rows. -/
theorem collect_iff {w mask : Nat} {rows : List (List Int)} {pieces : List ByteArray} (hrows : ∀ k : Nat, k < rows.length → RowB w (rd_L4 rows (k : Int))) :
  (collectUpto w mask rows pieces rows.length).length = w ↔ Full w (selRows rows mask rows.length) := by
 obtain ⟨h1, h2, h3⟩ := collect_inv (mask := mask) (pieces := pieces) hrows rows.length (Nat.le_refl _)
 have hle := collectUpto_length w mask rows pieces rows.length
 constructor
 ·intro h
  exact (h1.leads.full (by rw [List.length_map]; exact h)).mono h2
 ·intro hf
  by_cases e : (collectUpto w mask rows pieces rows.length).length = w
  ·exact e
  ·have hlt : (collectUpto w mask rows pieces rows.length).length < w := by omega
   obtain ⟨p, hp, hm⟩ := h1.leads.missing (by rw [List.length_map]; exact hlt)
   obtain ⟨v, hv, hk, hv1⟩ := h1.leads.free hp hm
   have := hf v hv (h3 hlt v hv hk) p hp
   rw [hv1] at this
   cases this
/-! pieces that fit -/
/-! solving -/
/-- How many pieces of the first n a set has. -/
def bitsUpto (x : Nat) : Nat → Nat
 | 0 => 0
 | n + 1 => bitsUpto x n + (x >>> n) % 2
theorem bitsUpto_low (x : Nat) : ∀ n, bitsUpto x (n + 1) = x % 2 + bitsUpto (x / 2) n
 | 0 => by simp [bitsUpto]
 | n + 1 => by
  show bitsUpto x (n + 1) + (x >>> (n + 1)) % 2 = x % 2 + (bitsUpto (x / 2) n + ((x / 2) >>> n) % 2)
  rw [bitsUpto_low x n]
  have : x >>> (n + 1) = (x / 2) >>> n := by rw [Nat.shiftRight_eq_div_pow, Nat.shiftRight_eq_div_pow, Nat.div_div_eq_div_mul, Nat.pow_succ, Nat.mul_comm]
  rw [this]; omega
theorem bitsUpto_zero : ∀ n, bitsUpto 0 n = 0
 | 0 => rfl
 | n + 1 => by show bitsUpto 0 n + (0 >>> n) % 2 = 0; rw [bitsUpto_zero n]; simp
theorem ones_bits : ∀ m, m < 1024 → onesOf m = ((bitsUpto m 10 : Nat) : Int) := fun m hm => of_decide_eq_true (QGF.allN_spec (n := 1024) (p := fun m => decide (onesOf m = ((bitsUpto m 10 : Nat) : Int))) (by decide +kernel) m hm)
theorem bit_test (x i : Nat) : (x >>> i) % 2 = 1 ↔ x.testBit i = true := by
 rw [Nat.testBit_eq_decide_div_mod_eq, Nat.shiftRight_eq_div_pow, decide_eq_true_eq]
/-! can it be recovered -/
def canB (d : Int) (l : List (List Int)) (m mask : Int) : Bool := (collectOk (rowsFor d l m) mask []).isSome
theorem rowsOf_rd {D M : Nat} {l : List (List Int)} {t : Nat} (h : t < D + l.length + M) : rd_L4 (rowsOf D l M) (t : Int) = rowAt D l t := by
 rw [rowsOf_eq]
 simp [rd_L4, List.getD_eq_getElem?_getD, h]
theorem rowsOf_length (D M : Nat) (l : List (List Int)) : (rowsOf D l M).length = D + l.length + M := by rw [rowsOf_eq]; simp
theorem rowAt_row (D : Nat) (l : List (List Int)) (t : Nat) : RowB D (rowAt D l t) := ⟨rowAt_isB D l t, rowAt_length D l t⟩
theorem rowWidth_rows {D M : Nat} {l : List (List Int)} (h : 0 < D) : rowWidth (rowsOf D l M) = D := by
 unfold rowWidth
 rw [rowsOf_rd (by omega), rowAt_length]
theorem rowsOf_rowB {D M : Nat} {l : List (List Int)} (k : Nat) (hk : k < (rowsOf D l M).length) : RowB D (rd_L4 (rowsOf D l M) (k : Int)) := by
 rw [rowsOf_length] at hk
 rw [rowsOf_rd hk]
 exact rowAt_row D l k
theorem okRows_rows {D M : Nat} {l : List (List Int)} (h1 : 1 ≤ D) (h2 : D ≤ 16) (h3 : D + l.length + M ≤ 24) : okRows (rowsOf D l M) = true := by
 unfold okRows
 rw [rowWidth_rows (by omega), rowsOf_length]
 simp only [Bool.and_eq_true, Bool.or_eq_true, decide_eq_true_eq, List.all_eq_true]
 refine ⟨⟨⟨h3, .inl h1⟩, h2⟩, fun r hr => ?_⟩
 rw [rowsOf_eq] at hr
 obtain ⟨t, _, rfl⟩ := List.mem_map.1 hr
 exact ⟨fun x hx => List.all_eq_true.1 (rowAt_isB D l t) x hx, rowAt_length D l t⟩
theorem CodeOk.bounds {D M : Nat} {l : List (List Int)} (h : CodeOk (D : Int) l (M : Int)) : 1 ≤ D ∧ D ≤ 16 ∧ M ≤ 4 ∧ D + l.length + M ≤ 24 := by
 have h1 := h.d1; have h2 := h.d2; have h3 := h.m2; have h4 := h.sum
 omega
theorem canB_iff {D M : Nat} {l : List (List Int)} (hc : chk (D : Int) l (M : Int) = 0) (mask : Int) :
  canB (D : Int) l (M : Int) mask = true ↔ 0 ≤ mask ∧ mask < ((2 ^ (D + l.length + M) : Nat) : Int) ∧ Full D (selRows (rowsOf D l M) mask.toNat (D + l.length + M)) := by
 obtain ⟨h1, h2, h3, h4⟩ := (chk_ok hc).bounds
 have hrf : rowsFor (D : Int) l (M : Int) = rowsOf D l M := by unfold rowsFor; rw [if_pos hc]; rfl
 have hci := collect_iff (w := D) (mask := mask.toNat) (pieces := []) (rows := rowsOf D l M) rowsOf_rowB
 have hle := collectUpto_length D mask.toNat (rowsOf D l M) [] (rowsOf D l M).length
 unfold canB collectOk collectSt
 rw [hrf, rowWidth_rows (by omega)]
 rw [rowsOf_length] at hci hle ⊢
 have hp : ((2 : Int) ^ (D + l.length + M)) = ((2 ^ (D + l.length + M) : Nat) : Int) := by simp
 rw [hp]
 by_cases c1 : D + l.length + M = 0 ∨ mask < 0 ∨ ((2 ^ (D + l.length + M) : Nat) : Int) ≤ mask
 ·rw [if_pos c1]
  constructor
  ·intro h; cases h
  ·rintro ⟨h5, h6, _⟩; omega
 ·rw [if_neg c1]
  by_cases c2 : (collectUpto D mask.toNat (rowsOf D l M) [] (D + l.length + M)).length < D
  ·rw [if_pos c2]
   constructor
   ·intro h; cases h
   ·rintro ⟨_, _, h7⟩
    have := hci.2 h7; omega
  ·rw [if_neg c2]
   constructor
   ·intro _
    exact ⟨by omega, by omega, hci.1 (by omega)⟩
   ·intro _; rfl
def canN (D : Nat) (l : List (List Int)) (M : Nat) (x : Nat) : Bool := canB (D : Int) l (M : Int) (x : Int)
/-! the reference's Distance -/
/-! what the law asks -/
theorem can_count {D M : Nat} {l : List (List Int)} (hc : chk (D : Int) l (M : Int) = 0) {x : Nat} (h : canN D l M x = true) : D ≤ bitsUpto x (D + l.length + M) := by
 obtain ⟨h1, h2, h3, h4⟩ := (chk_ok hc).bounds
 unfold canN at h
 obtain ⟨_, _, hf⟩ := (canB_iff hc _).1 h
 rw [Int.toNat_natCast] at hf
 have hci := (collect_iff (w := D) (mask := x) (pieces := []) (rows := rowsOf D l M) rowsOf_rowB).2 (by rw [rowsOf_length]; exact hf)
 rw [rowsOf_length] at hci
 have : ∀ n, (collectUpto D x (rowsOf D l M) [] n).length ≤ bitsUpto x n := by
  intro n
  induction n with
  | zero => exact Nat.le_refl _
  | succ n ih =>
   simp only [collectUpto]
   show _ ≤ bitsUpto x n + (x >>> n) % 2
   split
   ·rename_i hb
    rw [hb.1, List.length_append]
    have : ((addSt (collectUpto D x (rowsOf D l M) [] n) (rd_L4 (rowsOf D l M) (n : Int)) (rdOf ByteArray.empty [] (n : Int))).toList).length ≤ 1 := by
     cases addSt (collectUpto D x (rowsOf D l M) [] n) (rd_L4 (rowsOf D l M) (n : Int)) (rdOf ByteArray.empty [] (n : Int)) <;> simp
    omega
   ·omega
 have := this (D + l.length + M)
 omega
end Go.Proofs.YtkadfidmfnpohaaDoor.XB

namespace Go.Proofs.YtkadfidmfnpohaaDoor.XB
open Go.RowKit Go.Proofs.YtkadfidmfnpohaaDoorW.PrintWords Go.Proofs.YtkadfidmfnpohaaDoorW.PrintLast Go.Proofs.YtkadfidmfnpohaaDoorW.PrintMore
set_option linter.unusedVariables false
set_option linter.unusedSimpArgs false
theorem sub_bit {x k : Nat} (h : (x >>> k) % 2 = 1) : 2 ^ k ≤ x ∧ ((x - 2 ^ k) >>> k) % 2 = 0 ∧ ∀ i, ((x - 2 ^ k) >>> i) % 2 = 1 → (x >>> i) % 2 = 1 := by
 obtain ⟨b, hb⟩ : ∃ b, b = x % 2 ^ k := ⟨_, rfl⟩
 obtain ⟨q, hq⟩ : ∃ q, q = x / 2 ^ k := ⟨_, rfl⟩
 have hk : 0 < 2 ^ k := Nat.two_pow_pos k
 have hbl : b < 2 ^ k := by rw [hb]; exact Nat.mod_lt _ hk
 have hx : x = 2 ^ k * q + b := by rw [hb, hq]; exact (Nat.div_add_mod x (2 ^ k)).symm
 rw [Nat.shiftRight_eq_div_pow, ← hq] at h
 obtain ⟨a, rfl⟩ : ∃ a, q = 2 * a + 1 := ⟨q / 2, by omega⟩
 have hy : x - 2 ^ k = 2 ^ k * (2 * a) + b := by rw [hx, Nat.mul_add, Nat.mul_one]; omega
 have t1 : ∀ i, (x >>> i) % 2 = 1 ↔ (if i < k then b.testBit i else (2 * a + 1).testBit (i - k)) = true := by
  intro i; rw [bit_test, hx, Nat.testBit_two_pow_mul_add _ hbl]
 have t2 : ∀ i, ((x - 2 ^ k) >>> i) % 2 = 1 ↔ (if i < k then b.testBit i else (2 * a).testBit (i - k)) = true := by
  intro i; rw [bit_test, hy, Nat.testBit_two_pow_mul_add _ hbl]
 refine ⟨by rw [hx, Nat.mul_add, Nat.mul_one]; omega, ?_, fun i hi => ?_⟩
 ·have h0 := t2 k
  rw [if_neg (Nat.lt_irrefl k), Nat.sub_self] at h0
  have : (2 * a).testBit 0 = false := by simp [Nat.testBit_zero]
  rw [this] at h0
  have h1 : ¬ ((x - 2 ^ k) >>> k) % 2 = 1 := fun h => by cases h0.1 h
  omega
 ·rw [t1]
  rw [t2] at hi
  by_cases c : i < k
  ·rw [if_pos c] at hi ⊢; exact hi
  ·rw [if_neg c] at hi ⊢
   cases hj : i - k with
   | zero => simp [Nat.testBit_zero]
   | succ j =>
    rw [hj, Nat.testBit_succ] at hi
    rw [Nat.testBit_succ, show (2 * a + 1) / 2 = 2 * a / 2 by omega]
    exact hi
end Go.Proofs.YtkadfidmfnpohaaDoor.XB

namespace Go.Proofs.YtkadfidmfnpohaaDoor.XB
open Go.RowKit Go.Proofs.YtkadfidmfnpohaaDoorW.PrintWords Go.Proofs.YtkadfidmfnpohaaDoorW.PrintLast Go.Proofs.YtkadfidmfnpohaaDoorW.PrintMore
set_option linter.unusedVariables false
set_option linter.unusedSimpArgs false
def badAt (n : Nat) (pl : List Int) : Bool := pl.any fun x => decide (x < -1) || decide ((n : Int) ≤ x)
def badCh (ch : List Int) : Bool := ch.any fun c => decide (c < 0) || decide (16 < c)
def chk12 (d : Int) (l : List (List Int)) (m : Int) (pl ch : List Int) : Int :=
 if chk d l m = 0 then (if 12 < ch.length then 2 else if (pl.length : Int) = d + l.length + m then (if badAt ch.length pl = true then 1 else if badCh ch = true then 3 else 0) else 1) else chk d l m
theorem any_drop {p : Int → Bool} {l : List Int} {i : Nat} (h : i < l.length) : (l.drop i).any p = (p (rd l (i : Int)) || (l.drop (i + 1)).any p) := by
 rw [List.drop_eq_getElem_cons h, List.any_cons, rdi h]
theorem kchk_l1 (ch : List Int) (hc : ch.length ≤ 1000) : ∀ n i : Nat, i + n = ch.length → Ev (fun k => risk_Check.l1 k ch (ch.length : Int) (i : Int)) (if badCh (ch.drop i) = true then 3 else 0) := by
 intro n
 induction n with
 | zero =>
  intro i hi
  refine Ev.step (f := fun _ => some 0) (fun k => ?_) (ev_eq (Ev.now _) ?_)
  ·simp only [risk_Check.l1]; rw [if_neg (by omega)]
  ·rw [List.drop_of_length_le (by omega)]; rfl
 | succ n ih =>
  intro i hi
  have hlt : i < ch.length := by omega
  unfold badCh
  rw [any_drop hlt]
  by_cases e1 : rd ch (i : Int) < 0
  ·simp only [e1, decide_true, Bool.true_or, if_true]
   refine Ev.step (f := fun _ => some 3) (fun k => ?_) (Ev.now _)
   simp only [risk_Check.l1]; rw [if_pos (by omega), if_pos (by omega), if_pos (by omega), if_pos e1]
  ·by_cases e2 : 16 < rd ch (i : Int)
   ·simp only [e1, e2, decide_true, decide_false, Bool.false_or, Bool.true_or, if_true]
    refine Ev.step (f := fun _ => some 3) (fun k => ?_) (Ev.now _)
    simp only [risk_Check.l1]; rw [if_pos (by omega), if_pos (by omega), if_pos (by omega), if_neg e1, if_pos (by omega)]
   ·simp only [e1, e2, decide_false, Bool.false_or]
    refine Ev.step (f := fun k => risk_Check.l1 k ch (ch.length : Int) ((i + 1 : Nat) : Int)) (fun k => ?_) (ih (i + 1) (by omega))
    simp only [risk_Check.l1]; rw [if_pos (by omega), if_pos (by omega), if_pos (by omega), if_neg e1, if_neg (by omega), wrap_succ (by omega)]
theorem kchk_l0 (d : Int) (l : List (List Int)) (m : Int) (pl ch : List Int) (hp : pl.length ≤ 1000) (hc : ch.length ≤ 1000) : ∀ n i : Nat, i + n = pl.length →
  Ev (fun k => risk_Check.l0 k (ch.length : Int) pl (pl.length : Int) (i : Int) d l m pl ch) (if badAt ch.length (pl.drop i) = true then 1 else if badCh ch = true then 3 else 0) := by
 intro n
 induction n with
 | zero =>
  intro i hi
  refine Ev.step (f := fun k => risk_Check.l1 k ch (ch.length : Int) ((0 : Nat) : Int)) (fun k => ?_) (ev_eq (kchk_l1 ch hc _ 0 (Nat.zero_add _)) ?_)
  ·simp only [risk_Check.l0]; rw [if_neg (by omega)]; rfl
  ·rw [List.drop_of_length_le (show pl.length ≤ i by omega), List.drop_zero]; rfl
 | succ n ih =>
  intro i hi
  have hlt : i < pl.length := by omega
  unfold badAt
  rw [any_drop hlt]
  by_cases e1 : rd pl (i : Int) < -1
  ·simp only [e1, decide_true, Bool.true_or, if_true]
   refine Ev.step (f := fun _ => some 1) (fun k => ?_) (Ev.now _)
   simp only [risk_Check.l0]; rw [if_pos (by omega), if_pos (by omega), if_pos (by omega), if_pos e1]
  ·by_cases e2 : (ch.length : Int) ≤ rd pl (i : Int)
   ·simp only [e1, e2, decide_true, decide_false, Bool.false_or, Bool.true_or, if_true]
    refine Ev.step (f := fun _ => some 1) (fun k => ?_) (Ev.now _)
    simp only [risk_Check.l0]; rw [if_pos (by omega), if_pos (by omega), if_pos (by omega), if_neg e1, if_pos (by omega)]
   ·simp only [e1, e2, decide_false, Bool.false_or]
    refine Ev.step (f := fun k => risk_Check.l0 k (ch.length : Int) pl (pl.length : Int) ((i + 1 : Nat) : Int) d l m pl ch) (fun k => ?_) (ih (i + 1) (by omega))
    simp only [risk_Check.l0]; rw [if_pos (by omega), if_pos (by omega), if_pos (by omega), if_neg e1, if_neg (by omega), wrap_succ (by omega)]
theorem kchk_ev (d : Int) (l : List (List Int)) (m : Int) (pl ch : List Int) (hs : Small l) (hp : pl.length ≤ 1000) (hc : ch.length ≤ 1000) : Ev (fun k => risk_Check.f k d l m pl ch) (chk12 d l m pl ch) := by
 refine Ev.congr (f := fun k => (code_Check.f k d l m).bind fun t => if t = 0 then (if (ch.length : Int) > 12 then (some 2) else ((code_Pieces.f k d l m).bind fun t2 => (if (pl.length : Int) = t2 then (risk_Check.l0 k (ch.length : Int) pl (pl.length : Int) 0 d l m pl ch) else (some 1)))) else (some t)) (fun k => rfl) (Ev.bind (cchk_ev d l m hs) ?_)
 unfold chk12
 by_cases e : chk d l m = 0
 ·simp only [e, if_true]
  by_cases e2 : 12 < ch.length
  ·rw [if_pos e2]
   exact Ev.congr (f := fun _ => some 2) (fun k => by rw [if_pos (by omega)]) (Ev.now _)
  ·rw [if_neg e2]
   refine Ev.congr (f := fun k => (code_Pieces.f k d l m).bind fun t2 => (if (pl.length : Int) = t2 then (risk_Check.l0 k (ch.length : Int) pl (pl.length : Int) 0 d l m pl ch) else (some 1))) (fun k => by rw [if_neg (by omega)]) (Ev.bind (cpieces_ev d l m hs) ?_)
   have hpp : piecesOf d l m = d + l.length + m := by unfold piecesOf; rw [if_pos e]
   rw [hpp]
   by_cases e3 : (pl.length : Int) = d + l.length + m
   ·rw [if_pos e3]
    exact Ev.congr (f := fun k => risk_Check.l0 k (ch.length : Int) pl (pl.length : Int) ((0 : Nat) : Int) d l m pl ch) (fun k => by rw [if_pos e3]; rfl) (kchk_l0 d l m pl ch hp hc _ 0 (Nat.zero_add _))
   ·rw [if_neg e3]
    exact Ev.congr (f := fun _ => some 1) (fun k => by rw [if_neg e3]) (Ev.now _)
 ·simp only [e, if_false]
  exact Ev.now _
/-- A peril without an error. -/
structure PerilOk (D : Nat) (l : List (List Int)) (M : Nat) (pl ch : List Int) : Prop where
 code : chk (D : Int) l (M : Int) = 0
 nch : ch.length ≤ 12
 npl : pl.length = D + l.length + M
 pls : ∀ x ∈ pl, -1 ≤ x ∧ x < ch.length
 chs : ∀ c ∈ ch, 0 ≤ c ∧ c ≤ 16
theorem chk12_ok {d : Int} {l : List (List Int)} {m : Int} {pl ch : List Int} (h : chk12 d l m pl ch = 0) : ∃ D M : Nat, d = D ∧ m = M ∧ PerilOk D l M pl ch := by
 unfold chk12 at h
 by_cases e : chk d l m = 0
 ·rw [if_pos e] at h
  have hok := chk_ok e
  obtain ⟨D, M, rfl, rfl⟩ := hok.nats
  by_cases e2 : 12 < ch.length
  ·rw [if_pos e2] at h; cases h
  rw [if_neg e2] at h
  by_cases e3 : (pl.length : Int) = D + l.length + M
  ·rw [if_pos e3] at h
   by_cases e4 : badAt ch.length pl = true
   ·rw [if_pos e4] at h; cases h
   rw [if_neg e4] at h
   by_cases e5 : badCh ch = true
   ·rw [if_pos e5] at h; cases h
   refine ⟨D, M, rfl, rfl, e, by omega, by omega, fun x hx => ?_, fun c hc => ?_⟩
   ·have h5 : ¬ ∃ x ∈ pl, (decide (x < -1) || decide ((ch.length : Int) ≤ x)) = true := fun hh => e4 (List.any_eq_true.2 hh)
    have h6 : ¬ (decide (x < -1) || decide ((ch.length : Int) ≤ x)) = true := fun hh => h5 ⟨x, hx, hh⟩
    simp only [Bool.or_eq_true, decide_eq_true_eq] at h6
    omega
   ·have h6 : ¬ (decide (c < 0) || decide (16 < c)) = true := fun hh => e5 (List.any_eq_true.2 ⟨c, hc, hh⟩)
    simp only [Bool.or_eq_true, decide_eq_true_eq] at h6
    omega
  ·rw [if_neg e3] at h; cases h
 ·rw [if_neg e] at h; exact absurd h e
theorem PerilOk.chk {D : Nat} {l : List (List Int)} {M : Nat} {pl ch : List Int} (h : PerilOk D l M pl ch) : chk12 (D : Int) l (M : Int) pl ch = 0 := by
 unfold chk12
 rw [if_pos h.code, if_neg (by have := h.nch; omega), if_pos (by have := h.npl; omega)]
 have e4 : ¬ badAt ch.length pl = true := fun hh => by
  obtain ⟨x, hx, h6⟩ := List.any_eq_true.1 hh
  have := h.pls x hx
  simp only [Bool.or_eq_true, decide_eq_true_eq] at h6
  omega
 have e5 : ¬ badCh ch = true := fun hh => by
  obtain ⟨x, hx, h6⟩ := List.any_eq_true.1 hh
  have := h.chs x hx
  simp only [Bool.or_eq_true, decide_eq_true_eq] at h6
  omega
 rw [if_neg e4, if_neg e5]
theorem PerilOk.okp {D : Nat} {l : List (List Int)} {M : Nat} {pl ch : List Int} (h : PerilOk D l M pl ch) : okPeril pl ch = true := by
 have hb := (chk_ok h.code).bounds
 have := h.nch; have := h.npl
 exact okPeril_iff.2 ⟨by omega, by omega, fun x hx => by have := h.pls x hx; omega, h.chs⟩
/-! Few -/
def fewB12 (l : List (List Int)) (pl ch : List Int) (n : Int) : Bool := !(decide (n < ch.length) || (decide (60 < pl.length) || (decide (30 < l.length) || anyFrom (fun h => decide (30 < (rd_L1 l (h : Nat)).length)) 0 l.length)))
theorem few12_l0 (d : Int) (l : List (List Int)) (m : Int) (pl ch : List Int) (hl : l.length ≤ 4611686018427387000) : ∀ n i, i + n = l.length → Ev (fun k => quietusref12_Few.l0 k (i : Int) d l m pl ch) (!(anyFrom (fun h => decide (30 < (rd_L1 l (h : Nat)).length)) i n)) := by
 intro n
 induction n with
 | zero =>
  intro i hi
  refine Ev.step (f := fun _ => some true) (fun k => ?_) (Ev.now _)
  simp only [quietusref12_Few.l0]
  rw [if_neg (by omega)]
 | succ n ih =>
  intro i hi
  by_cases e : 30 < (rd_L1 l (i : Nat)).length
  ·simp only [anyFrom, e, decide_true, Bool.true_or, Bool.not_true]
   refine Ev.step (f := fun _ => some false) (fun k => ?_) (Ev.now _)
   simp only [quietusref12_Few.l0]
   rw [if_pos (by omega), if_pos (by omega), if_pos (by omega)]
  ·simp only [anyFrom, e, decide_false, Bool.false_or]
   refine Ev.step (f := fun k => quietusref12_Few.l0 k ((i + 1 : Nat) : Int) d l m pl ch) (fun k => ?_) (ih (i + 1) (by omega))
   simp only [quietusref12_Few.l0]
   rw [if_pos (by omega), if_pos (by omega), if_neg (by omega), wrap_succ (by omega)]
theorem few12_j0 (d : Int) (l : List (List Int)) (m : Int) (pl ch : List Int) : Ev (fun k => quietusref12_Few.j0 k true d l m pl ch) false :=
 Ev.step (f := fun _ => some false) (fun k => by simp only [quietusref12_Few.j0]; rfl) (Ev.now _)
theorem few12_ev (d : Int) (l : List (List Int)) (m : Int) (pl ch : List Int) (n : Int) : Ev (fun k => quietusref12_Few.f k d l m pl ch n) (fewB12 l pl ch n) := by
 unfold fewB12
 by_cases e : n < (ch.length : Int)
 ·simp only [e, decide_true, Bool.true_or, Bool.not_true]
  exact Ev.congr (f := fun k => quietusref12_Few.j0 k true d l m pl ch) (fun k => by unfold quietusref12_Few.f; rw [if_pos e]) (few12_j0 ..)
 ·by_cases e2 : 60 < pl.length
  ·simp only [e, e2, decide_true, decide_false, Bool.false_or, Bool.true_or, Bool.not_true]
   exact Ev.congr (f := fun k => quietusref12_Few.j0 k true d l m pl ch) (fun k => by unfold quietusref12_Few.f; rw [if_neg (by omega), if_pos (by omega)]) (few12_j0 ..)
  ·by_cases e3 : 30 < l.length
   ·simp only [e, e2, e3, decide_true, decide_false, Bool.false_or, Bool.true_or, Bool.not_true]
    refine Ev.congr (f := fun k => quietusref12_Few.j0 k true d l m pl ch) (fun k => ?_) (few12_j0 ..)
    unfold quietusref12_Few.f
    rw [if_neg (by omega), if_neg (by omega), show decide ((l.length : Int) > 30) = true from decide_eq_true (by omega)]
   ·simp only [e, e2, e3, decide_false, Bool.false_or]
    refine Ev.congr (f := fun k => quietusref12_Few.j0 k false d l m pl ch) (fun k => ?_) (Ev.step (f := fun k => quietusref12_Few.l0 k ((0 : Nat) : Int) d l m pl ch) (fun k => ?_) (few12_l0 d l m pl ch (by omega) _ 0 (Nat.zero_add _)))
    ·unfold quietusref12_Few.f
     rw [if_neg (by omega), if_neg (by omega), show decide ((l.length : Int) > 30) = false from decide_eq_false (by omega)]
    ·simp only [quietusref12_Few.j0]; rfl
theorem few12_small {l : List (List Int)} {pl ch : List Int} {n : Int} (h : fewB12 l pl ch n = true) : (ch.length : Int) ≤ n ∧ pl.length ≤ 60 ∧ l.length ≤ 30 ∧ Small l := by
 unfold fewB12 at h
 simp only [Bool.not_eq_true', Bool.or_eq_false_iff, decide_eq_false_iff_not] at h
 obtain ⟨h1, h2, h3, h4⟩ := h
 refine ⟨by omega, by omega, by omega, by omega, fun i => ?_⟩
 by_cases hi : i < l.length
 ·have := anyFrom_false h4 i (Nat.zero_le _) (by omega)
  simp only [decide_eq_false_iff_not] at this
  omega
 ·have : rd_L1 l i = [] := by
   unfold rd_L1
   rw [Int.toNat_natCast, List.getD_eq_getElem?_getD, List.getElem?_eq_none (by omega)]
   rfl
  rw [this]; simp
/-! the weights, without wraps -/
def losB (can : Nat → Bool) (pl : List Int) (f : Nat) : Bool := !can (leftUpto pl f pl.length)
/-! the values of Lost, Loss, Least, Total -/
theorem okRows_for {D M : Nat} {l : List (List Int)} (hc : chk (D : Int) l (M : Int) = 0) : okRows (rowsFor (D : Int) l (M : Int)) = true := by
 obtain ⟨h1, h2, h3, h4⟩ := (chk_ok hc).bounds
 have hrf : rowsFor (D : Int) l (M : Int) = rowsOf D l M := by unfold rowsFor; rw [if_pos hc]; rfl
 rw [hrf]
 exact okRows_rows h1 h2 h4
theorem klost_ev {D M : Nat} {l : List (List Int)} {pl ch : List Int} (h : PerilOk D l M pl ch) (hs : Small l) {f : Nat} (hf : f < 2 ^ ch.length) : Ev (fun k => risk_Lost.f k (D : Int) l (M : Int) pl ch (f : Int)) (losB (canN D l M) pl f, 0) := by
 have hb := (chk_ok h.code).bounds
 have hp := h.npl; have hn := h.nch
 refine Ev.congr (f := fun k => (risk_Check.f k (D : Int) l (M : Int) pl ch).bind fun e => if e = 0 then (if okPeril pl ch = true then (if (f : Int) < 0 ∨ ((2 ^ ch.length : Nat) : Int) ≤ (f : Int) then some (false, 1) else (code_Rows.f k (D : Int) l (M : Int)).bind fun r => if okRows r.1 = true then some (!canOf r.1 (leftUpto pl (f : Int).toNat pl.length), 0) else none) else none) else some (false, e)) (fun k => rfl) (Ev.bind (kchk_ev (D : Int) l (M : Int) pl ch hs (by omega) (by omega)) ?_)
 rw [h.chk]
 simp only [if_true, h.okp, show ¬ ((f : Int) < 0 ∨ ((2 ^ ch.length : Nat) : Int) ≤ (f : Int)) by omega, if_false]
 refine Ev.bind (crows_ev (D : Int) l (M : Int) hs) ?_
 simp only [okRows_for h.code, if_true, Int.toNat_natCast]
 exact Ev.now _
theorem kleast_ev {D M : Nat} {l : List (List Int)} {pl ch : List Int} (h : PerilOk D l M pl ch) (hs : Small l) : Ev (fun k => risk_Least.f k (D : Int) l (M : Int) pl ch) (((leastUpto (canN D l M) pl ch.length (2 ^ ch.length) : Nat) : Int), 0) := by
 have hb := (chk_ok h.code).bounds
 have hp := h.npl; have hn := h.nch
 refine Ev.congr (f := fun k => (risk_Check.f k (D : Int) l (M : Int) pl ch).bind fun e => if e = 0 then (if okPeril pl ch = true then (code_Rows.f k (D : Int) l (M : Int)).bind fun r => if okRows r.1 = true then some (((leastUpto (canOf r.1) pl ch.length (2 ^ ch.length) : Nat) : Int), 0) else none else none) else some (0, e)) (fun k => rfl) (Ev.bind (kchk_ev (D : Int) l (M : Int) pl ch hs (by omega) (by omega)) ?_)
 rw [h.chk]
 simp only [if_true, h.okp]
 refine Ev.bind (crows_ev (D : Int) l (M : Int) hs) ?_
 simp only [okRows_for h.code, if_true]
 exact Ev.now _
end Go.Proofs.YtkadfidmfnpohaaDoor.XB

namespace Go.Proofs.YtkadfidmfnpohaaDoor.XB
open Go.RowKit Go.Proofs.YtkadfidmfnpohaaDoorW.PrintWords Go.Proofs.YtkadfidmfnpohaaDoorW.PrintLast Go.Proofs.YtkadfidmfnpohaaDoorW.PrintMore
set_option linter.unusedVariables false
set_option linter.unusedSimpArgs false
theorem least_inv {can : Nat → Bool} {pl : List Int} {n : Nat} (h0 : losB can pl (2 ^ n - 1) = true) : ∀ f, f ≤ 2 ^ n → losB can pl (leastUpto can pl n f) = true ∧ ∀ F, F < f → losB can pl F = true → onesOf (leastUpto can pl n f) ≤ onesOf F
 | 0, _ => ⟨h0, fun F hF => absurd hF (Nat.not_lt_zero _)⟩
 | f + 1, hf => by
  obtain ⟨h1, h2⟩ := least_inv h0 f (by omega)
  show losB can pl (if (onesOf f < onesOf (leastUpto can pl n f) ∨ (onesOf f = onesOf (leastUpto can pl n f) ∧ firstB f (leastUpto can pl n f) = true)) ∧ can (leftUpto pl f pl.length) = false then f else leastUpto can pl n f) = true ∧ ∀ F, F < f + 1 → losB can pl F = true → onesOf (if (onesOf f < onesOf (leastUpto can pl n f) ∨ (onesOf f = onesOf (leastUpto can pl n f) ∧ firstB f (leastUpto can pl n f) = true)) ∧ can (leftUpto pl f pl.length) = false then f else leastUpto can pl n f) ≤ onesOf F
  by_cases hc : (onesOf f < onesOf (leastUpto can pl n f) ∨ (onesOf f = onesOf (leastUpto can pl n f) ∧ firstB f (leastUpto can pl n f) = true)) ∧ can (leftUpto pl f pl.length) = false
  ·rw [if_pos hc]
   refine ⟨by unfold losB; rw [hc.2]; rfl, fun F hF hl => ?_⟩
   by_cases e : F = f
   ·subst e; exact Int.le_refl _
   ·have := h2 F (by omega) hl
    rcases hc.1 with h | h <;> omega
  ·rw [if_neg hc]
   refine ⟨h1, fun F hF hl => ?_⟩
   by_cases e : F = f
   ·subst e
    have : can (leftUpto pl F pl.length) = false := by
     unfold losB at hl
     cases hh : can (leftUpto pl F pl.length)
     ·rfl
     ·rw [hh] at hl; cases hl
    have h3 : ¬ onesOf F < onesOf (leastUpto can pl n F) := fun h => hc ⟨.inl h, this⟩
    omega
   ·exact h2 F (by omega) hl
theorem left_all {pl : List Int} {n : Nat} (h : ∀ x ∈ pl, -1 ≤ x ∧ x < n) : ∀ j, j ≤ pl.length → leftUpto pl (2 ^ n - 1) j = 0
 | 0, _ => rfl
 | j + 1, hj => by
  have hx := h _ (rdm (l := pl) (i := j) (by omega))
  show (if 0 ≤ rd pl (j : Int) ∧ ((2 ^ n - 1) >>> (rd pl (j : Int)).toNat) % 2 = 0 then leftUpto pl (2 ^ n - 1) j ||| 2 ^ j else leftUpto pl (2 ^ n - 1) j) = 0
  rw [if_neg, left_all h j (by omega)]
  rintro ⟨h0, h1⟩
  have h2 : ((2 ^ n - 1) >>> (rd pl (j : Int)).toNat) % 2 = 1 := by
   rw [bit_test, Nat.testBit_two_pow_sub_one]
   exact decide_eq_true (by omega)
  omega
theorem can_zero {D M : Nat} {l : List (List Int)} (hc : chk (D : Int) l (M : Int) = 0) : canN D l M 0 = false := by
 obtain ⟨b1, b2, b3, b4⟩ := (chk_ok hc).bounds
 cases h : canN D l M 0
 ·rfl
 ·have := can_count hc h
  rw [bitsUpto_zero] at this
  omega
theorem all_lose {D M : Nat} {l : List (List Int)} {pl ch : List Int} (h : PerilOk D l M pl ch) : losB (canN D l M) pl (2 ^ ch.length - 1) = true := by
 unfold losB
 rw [left_all h.pls _ (Nat.le_refl _), can_zero h.code]; rfl
theorem ones_less {b j : Nat} (hb : b < 512) (hj : j < 9) (h : (b >>> j) % 2 = 1) : onesOf (b - 2 ^ j) < onesOf b := by
 have hle := (sub_bit h).1
 rw [ones_bits b (by omega), ones_bits (b - 2 ^ j) (Nat.lt_of_le_of_lt (Nat.sub_le _ _) (Nat.lt_trans hb (by decide)))]
 have := QGF.allN_spec (QGF.allN_spec (n := 512) (p := fun b => QGF.allN 9 fun j => !(Nat.beq ((b >>> j) % 2) 1) || Nat.ble (bitsUpto (b - 2 ^ j) 10 + 1) (bitsUpto b 10)) (by decide +kernel) b hb) j hj
 rw [h] at this
 simp only [Nat.beq_refl, Bool.not_true, Bool.false_or] at this
 have := Nat.le_of_ble_eq_true this
 omega
theorem kcount_from : ∀ n x c : Nat, x < 2 ^ n → n ≤ 60 → c + n ≤ 1000 → Ev (fun k => quietuslaw12_count.l0 k (x : Int) (c : Int)) ((c + bitsUpto x n : Nat) : Int) := by
 intro n
 induction n with
 | zero =>
  intro x c hx _ _
  obtain rfl : x = 0 := by have : (2 : Nat) ^ 0 = 1 := rfl; omega
  refine Ev.step (f := fun _ => some (c : Int)) (fun k => ?_) (ev_eq (Ev.now _) (by simp [bitsUpto]))
  simp only [quietuslaw12_count.l0]
  rw [if_neg (by omega)]
 | succ n ih =>
  intro x c hx hn hc
  by_cases e : x = 0
  ·subst e
   refine Ev.step (f := fun _ => some (c : Int)) (fun k => ?_) (ev_eq (Ev.now _) (by rw [bitsUpto_zero]; rfl))
   simp only [quietuslaw12_count.l0]
   rw [if_neg (by omega)]
  ·have h1 : x / 2 < 2 ^ n := Nat.div_lt_of_lt_mul (by rw [Nat.pow_succ] at hx; omega)
   have hm : x % 2 < 2 := Nat.mod_lt _ (by decide)
   have hx62 : x < 2 ^ 63 := Nat.lt_of_lt_of_le hx (Nat.pow_le_pow_right (by decide) (by omega))
   refine Ev.step (f := fun k => quietuslaw12_count.l0 k ((x / 2 : Nat) : Int) ((c + x % 2 : Nat) : Int)) (fun k => ?_) (ev_eq (ih (x / 2) (c + x % 2) h1 (by omega) (by omega)) ?_)
   ·simp only [quietuslaw12_count.l0]
    rw [if_pos (by omega), i64_and1 x hx62, show ((x : Int) / 2) = ((x / 2 : Nat) : Int) by simp]
    congr 1
    clear h1 hx hx62
    unfold wrap64; omega
   ·rw [bitsUpto_low, Nat.add_assoc]
theorem kcount_ev (n x : Nat) (hx : x < 2 ^ n) (hn : n ≤ 60) : Ev (fun k => quietuslaw12_count.f k (x : Int)) ((bitsUpto x n : Nat) : Int) :=
 Ev.congr (f := fun k => quietuslaw12_count.l0 k (x : Int) ((0 : Nat) : Int)) (fun k => by unfold quietuslaw12_count.f; rfl) (ev_eq (kcount_from n x 0 hx hn (by omega)) (by rw [Nat.zero_add]))
theorem and_less (o : Int) (n : Nat) (h0 : 0 ≤ o) (h1 : o < 65536) (hn : n ≤ 24) : Go.bits .and .i64 o (wrap64 (wrap64 ((2 : Int) ^ n) - 1)) = ((o.toNat % 2 ^ n : Nat) : Int) := by
 obtain ⟨x, rfl⟩ := Int.eq_ofNat_of_zero_le h0
 have hp : 2 ^ n ≤ 2 ^ 24 := Nat.pow_le_pow_right (by decide) hn
 have hl : 2 ^ n - 1 < 2 ^ 63 := Nat.lt_of_le_of_lt (Nat.sub_le _ _) (Nat.lt_of_le_of_lt hp (by decide))
 rw [pow_less n hn, i64_and x (2 ^ n - 1) (by have : (65536 : Nat) < 2 ^ 63 := (by decide); omega) hl, Nat.and_two_pow_sub_one_eq_mod, Int.toNat_natCast]
theorem few_err {l : List (List Int)} {pl ch : List Int} (h : fewB12 l pl ch 9 = true) : Small l ∧ pl.length ≤ 1000 ∧ ch.length ≤ 9 := by
 obtain ⟨h1, h2, h3, h4⟩ := few12_small h
 exact ⟨h4, by omega, by omega⟩
theorem sub_num (b j : Nat) (hb : b < 2 ^ 24) (hj : j ≤ 24) (hle : 2 ^ j ≤ b) : wrap64 ((b : Int) - wrap64 ((2 : Int) ^ j)) = ((b - 2 ^ j : Nat) : Int) := by
 rw [pow_wrap j hj]
 generalize 2 ^ j = z at hle
 have hb : b < 16777216 := hb
 unfold wrap64; omega
theorem least_subs {D M : Nat} {l : List (List Int)} {pl ch : List Int} (hok : PerilOk D l M pl ch) (hs : Small l) (h9 : ch.length ≤ 9) {b : Nat} (hblt : b < 2 ^ ch.length) (hinv : ∀ F, F < 2 ^ ch.length → losB (canN D l M) pl F = true → onesOf b ≤ onesOf F) :
  ∀ n, n ≤ ch.length → ∃ K4, ∀ k, K4 ≤ k → ∀ j, j < n → (b >>> j) % 2 = 1 → risk_Lost.f k (D : Int) l (M : Int) pl ch (wrap64 ((b : Int) - wrap64 ((2 : Int) ^ j))) = some (false, 0)
 | 0, _ => ⟨0, fun _ _ j hj => absurd hj (Nat.not_lt_zero _)⟩
 | n + 1, hn => by
  have hb9 : b < 512 := Nat.lt_of_lt_of_le hblt (Nat.pow_le_pow_right (n := 2) (by decide) h9)
  obtain ⟨Ka, ha⟩ := least_subs hok hs h9 hblt hinv n (by omega)
  by_cases hbit : (b >>> n) % 2 = 1
  ·have hev : Ev (fun k => risk_Lost.f k (D : Int) l (M : Int) pl ch (wrap64 ((b : Int) - wrap64 ((2 : Int) ^ n)))) (false, 0) := by
    rw [sub_num b n (Nat.lt_trans hb9 (by decide)) (by omega) (sub_bit hbit).1]
    have hlt : b - 2 ^ n < 2 ^ ch.length := Nat.lt_of_le_of_lt (Nat.sub_le _ _) hblt
    refine ev_eq (klost_ev hok hs hlt) ?_
    have : losB (canN D l M) pl (b - 2 ^ n) = false := by
     cases hh : losB (canN D l M) pl (b - 2 ^ n)
     ·rfl
     ·have h5 := hinv _ hlt hh
      have h6 := ones_less hb9 (by omega) hbit
      exact absurd h5 (by omega)
    rw [this]
   obtain ⟨Kb, hb⟩ := hev
   refine ⟨Ka + Kb, fun k hk j hj hjb => ?_⟩
   by_cases e : j = n
   ·subst e; exact hb k (by omega)
   ·exact ha k (by omega) j (by omega) hjb
  ·refine ⟨Ka, fun k hk j hj hjb => ?_⟩
   by_cases e : j = n
   ·subst e; exact absurd hjb hbit
   ·exact ha k hk j (by omega) hjb
set_option maxHeartbeats 1000000 in
set_option maxRecDepth 100000 in
theorem least_walk (d : Int) (A : Option Addr) (c : Nat) (l : List (List Int)) (m : Int) (Aa : Option Addr) (ca : Nat) (pl : List Int) (Ac : Option Addr) (cc : Nat) (ch : List Int) (other : Int) (w : World) (hG : HG w) (hC : Kd.C (Kd.slice 3 (Kd.int .i64)) w A l.length l) (hc : l.length ≤ c) (hP : (Kd.int .i64).C w Aa pl.length pl) (hca : pl.length ≤ ca) (hH : (Kd.int .i64).C w Ac ch.length ch) (hcc : ch.length ≤ cc) (ho0 : 0 ≤ other) (ho1 : other < 65536) :
  Calls Tryd.prog 11 #[.agg #[.int .i64 d, .slice A l.length c, .int .i64 m, .slice Aa pl.length ca, .slice Ac ch.length cc], .int .u16 other] w fun e w' => e = .returned (.bool true) ∧ Below w.heap.size w w' := by
 obtain ⟨K, hK⟩ := few12_ev d l m pl ch 9
 cases hf : fewB12 l pl ch 9 with
 | false => exact law12_least.aside K d A c l m Aa ca pl Ac cc ch other false 0 w hG hC hc hP hca hH hcc (hf ▸ hK K (Nat.le_refl _)) (fun h => by cases h)
 | true =>
  obtain ⟨hs, hp, h9⟩ := few_err hf
  obtain ⟨K1, h1⟩ := kchk_ev d l m pl ch hs hp (by omega)
  by_cases he : chk12 d l m pl ch = 0
  ·obtain ⟨D, M, rfl, rfl, hok⟩ := chk12_ok he
   rw [he] at h1
   obtain ⟨K2, h2⟩ := kleast_ev hok hs
   obtain ⟨b, hb⟩ : ∃ b, b = leastUpto (canN D l M) pl ch.length (2 ^ ch.length) := ⟨_, rfl⟩
   rw [← hb] at h2
   have hinv := least_inv (n := ch.length) (all_lose hok) (2 ^ ch.length) (Nat.le_refl _)
   have hblt := leastUpto_lt (canN D l M) pl ch.length (2 ^ ch.length) (Nat.le_refl _)
   rw [← hb] at hinv hblt
   have hb9 : b < 512 := Nat.lt_of_lt_of_le hblt (Nat.pow_le_pow_right (n := 2) (by decide) (show ch.length ≤ 9 by omega))
   obtain ⟨K3, h3⟩ := klost_ev hok hs hblt
   rw [hinv.1] at h3
   have h4' := least_subs hok hs h9 hblt hinv.2 ch.length (Nat.le_refl _)
   obtain ⟨K4, h4⟩ := h4'
   have hsl : other.toNat % 2 ^ ch.length < 2 ^ ch.length := Nat.mod_lt _ (Nat.two_pow_pos _)
   have hand := and_less other ch.length ho0 ho1 (by omega)
   obtain ⟨s, hse⟩ : ∃ s, s = other.toNat % 2 ^ ch.length := ⟨_, rfl⟩
   rw [← hse] at hsl hand
   obtain ⟨K5, h5⟩ := klost_ev hok hs hsl
   have hinvs := hinv.2 s hsl
   have hs9 : s < 512 := Nat.lt_of_lt_of_le hsl (Nat.pow_le_pow_right (n := 2) (by decide) h9)
   obtain ⟨K6, h6⟩ := kcount_ev 10 s (Nat.lt_trans hs9 (by decide)) (by decide)
   obtain ⟨K7, h7⟩ := kcount_ev 10 b (Nat.lt_trans hb9 (by decide)) (by decide)
   clear hse hblt hsl
   obtain ⟨k, hk⟩ : ∃ k, k = K + K1 + K2 + K3 + K4 + K5 + K6 + K7 := ⟨_, rfl⟩
   refine law12_least.main k (D : Int) A c l (M : Int) Aa ca pl Ac cc ch other b s (losB (canN D l M) pl s) _ _ w hG hC hc hP hca hH hcc (hf ▸ hK k (by omega)) (h1 k (by omega)) (by omega) ho0 ho1 (Nat.lt_trans hb9 (by decide)) (h2 k (by omega)) (h3 k (by omega)) (h4 k (by omega)) (h5 k (by omega)) hand (h6 k (by omega)) (h7 k (by omega)) (fun hal => ?_)
   have h8 := hinvs hal
   rw [ones_bits b (by omega), ones_bits s (by omega)] at h8
   exact h8
  ·exact law12_least.aside (K + K1) d A c l m Aa ca pl Ac cc ch other true _ w hG hC hc hP hca hH hcc (hf ▸ hK _ (by omega)) (fun _ => ⟨h1 _ (by omega), he⟩)
end Go.Proofs.YtkadfidmfnpohaaDoor.XB

namespace Go.Proofs.YtkadfidmfnpohaaDoor
open Go.ChangeShapes Go.WideShapes Go.ChangeAt Go.RowKit
open Go.ChangeMaps (open_string shut_string)
open Go.Proofs.YtkadfidmfnpohaaDoorW.PrintWords Go.Proofs.YtkadfidmfnpohaaDoorW.PrintLast Go.Proofs.YtkadfidmfnpohaaDoorW.PrintMore Go.Proofs.YtkadfidmfnpohaaDoor.XB
set_option linter.unusedVariables false
set_option linter.unusedSimpArgs false
/-! arguments, read -/
/-- Whatever reads at a type is of a kind. -/
def ReadAt (P : Program) {α : Type} (k : Kd α) (e : TypeId) (Q : α → Prop) : Prop :=
 ∀ (H : Type) (enc : TypeId × Value → H) (w : World) (held : Bool) (fuel : Nat) (cs : List Value) (x : DataW H × List MemPlace), DataW.trod enc P w 0 (fun _ => true) held fuel e cs = some x → ∃ y, k.K w y cs ∧ Q y
theorem readAt_int {P : Program} {k : IntKind} {t : TypeId} (ht : P.underlying t = some (.int k)) : ReadAt P (Kd.int k) t (fun y => (Lit.int k y).wf = true) := by
 intro H enc w held fuel cs x h
 obtain ⟨n, rfl, _, hw⟩ := DataW.trod_int ht h
 exact ⟨n, rfl, hw⟩
theorem readAt_slice {P : Program} {α : Type} {k : Kd α} {t e : TypeId} {Q : α → Prop} (ht : P.underlying t = some (.slice e)) (hs : k.sz = 1) (hc : P.cellsOf e = 1) (he : ReadAt P k e Q) : ReadAt P (Kd.slice e k) t (fun l => l.length ≤ maxLen ∧ ∀ y ∈ l, Q y) := by
 intro H enc w held fuel cs x h
 rcases Go.Deep.open_slice1 ht hc h with ⟨rfl, _⟩ | ⟨a, len, cap, m, n, V, D, Pl, rfl, _, hl, hm, hmm, _, hx⟩
 ·exact ⟨[], ⟨none, 0, rfl, Nat.le_refl _, rfl, by simp, fun h0 => absurd h0 (Nat.lt_irrefl 0)⟩, by simp, by simp⟩
 simp only [if_true] at hmm
 subst hmm
 have hy : ∀ i, i < m → ∃ y, k.K w y [V i] ∧ Q y := fun i hi => he H enc w held n [V i] _ (hx i hi).2
 have hlm : len ≤ m := hl
 have key : ∀ j, j ≤ m → ∃ l : List α, l.length = j ∧ (∀ y ∈ l, Q y) ∧ ∀ i y, l[i]? = some y → k.K w y [V i] := by
  intro j
  induction j with
  | zero => exact fun _ => ⟨[], rfl, by simp, by simp⟩
  | succ j ih =>
   intro hj
   obtain ⟨l, hl1, hl2, hl3⟩ := ih (by omega)
   obtain ⟨y, hy1, hy2⟩ := hy j (by omega)
   refine ⟨l ++ [y], by simp [hl1], fun z hz => ?_, fun i z hz => ?_⟩
   ·rcases List.mem_append.1 hz with hz | hz
    ·exact hl2 z hz
    ·obtain rfl := List.mem_singleton.1 hz; exact hy2
   ·by_cases hi : i < j
    ·rw [List.getElem?_append_left (by omega)] at hz
     exact hl3 i z hz
    ·have hi2 : i < (l ++ [y]).length := (List.getElem?_eq_some_iff.1 hz).1
     obtain rfl : i = j := by simp [hl1] at hi2; omega
     rw [List.getElem?_append_right (by omega)] at hz
     simp [hl1] at hz
     subst hz
     exact hy1
 obtain ⟨l, rfl, hl2, hl3⟩ := key len hlm
 refine ⟨l, ⟨some a, m, rfl, hlm, rfl, by unfold maxLen at hm; omega, fun h0 => ⟨a, rfl, fun j p hp => ?_⟩⟩, by omega, hl2⟩
 have hj : j < l.length := (List.getElem?_eq_some_iff.1 hp).1
 refine ⟨[V j], by rw [hs]; rfl, hl3 j p hp, fun i u hu => ?_⟩
 have hi : i < 1 := (List.getElem?_eq_some_iff.1 hu).1
 obtain rfl : i = 0 := by omega
 simp at hu
 subst hu
 rw [hs, Nat.mul_one, Nat.add_zero]
 exact (hx j (by omega)).1
theorem ReadAt.slice {P : Program} {α : Type} {k : Kd α} {t e : TypeId} {Q : List α → Prop} {H : Type} {enc : TypeId × Value → H} {w : World} {held : Bool} {fuel : Nat} {v : Value} {x : DataW H × List MemPlace} (hr : ReadAt P (Kd.slice e k) t Q) (h : DataW.trod enc P w 0 (fun _ => true) held fuel t [v] = some x) :
  ∃ A c l, v = .slice A l.length c ∧ l.length ≤ c ∧ k.C w A l.length l ∧ Q l := by
 obtain ⟨y, ⟨A, c, hv, hc, hC⟩, hq⟩ := hr H enc w held fuel [v] x h
 exact ⟨A, c, y, by simpa using hv, hc, hC, hq⟩
set_option maxRecDepth 100000 in
/-- What the law's condition says of the tables. -/
theorem hg_of_laid {W : World} (h : laidMetH Tryd.prog [("quietus/gf.high", Rows.laid_quietus_gf_high)] W) : XB.HG W := by
 rw [MakeChecks.laidMetH_plain _ _ _ (by kernel_rfl)] at h
 have hd : (Rows.laid_quietus_gf_high : DataW Unit) = Lib.tabData .u8 XB.tab_high := rfl
 rw [hd] at h
 have g1 : Tryd.prog.globalNamed "quietus/gf.high" = some 0 := by kernel_rfl
 have g2 : (Tryd.prog.globals[0]?).map (·.type) = some 134 := by kernel_rfl
 have g3 : Tryd.prog.cellsOf 5 = 1 := by kernel_rfl
 have g4 : Tryd.prog.cellsOf 134 = 16 := by kernel_rfl
 have hT : Lib.TabIs Tryd.prog W "quietus/gf.high" .u8 XB.tab_high := Lib.tabIs_of_head g1 g2 Tryd.underlying134 Tryd.underlying5 g3 g4 h
 refine ⟨trivial, fun i h0 h1 => ?_⟩
 have hl : XB.tab_high.length = 16 := rfl
 exact hT.cell g1 i.toNat (by omega)
theorem readAt_groups : ReadAt Tryd.prog (Kd.slice 60 (Kd.slice 3 (Kd.int .i64))) 22 (fun l => l.length ≤ maxLen ∧ ∀ g ∈ l, g.length ≤ maxLen ∧ ∀ x ∈ g, (Lit.int .i64 x).wf = true) :=
 readAt_slice Tryd.underlying22 rfl (by kernel_rfl) (readAt_slice Tryd.underlying60 rfl (by kernel_rfl) (readAt_int Tryd.underlying3))
/-! a peril, as it comes in -/
theorem readAt_ints : ReadAt Tryd.prog (Kd.slice 3 (Kd.int .i64)) 60 (fun l => l.length ≤ maxLen ∧ ∀ x ∈ l, (Lit.int .i64 x).wf = true) := readAt_slice Tryd.underlying60 rfl (by kernel_rfl) (readAt_int Tryd.underlying3)
theorem list5 {α : Type} {xs : List α} (h : xs.length = 5) : ∃ a b c d e, xs = [a, b, c, d, e] := by
 match xs, h with
 | [a, b, c, d, e], _ => exact ⟨a, b, c, d, e, rfl⟩
theorem struct_at {P : Program} {H : Type} {enc : TypeId × Value → H} {W : World} {base n : Nat} {spare : Nat → Bool} {held : Bool} {fs : Array Field} {cs : List Value} {xs : List (DataW H × List MemPlace)}
  (hel : ∀ (i : Nat) (f : Field), fs[i]? = some f → DataW.trod enc P W base spare held n f.type ((cs.drop f.offset).take (P.cellsOf f.type)) = xs[i]?) {i : Nat} {f : Field} (hf : fs[i]? = some f) {ty : TypeId} {off q : Nat} (ht : f.type = ty) (ho : f.offset = off) (hq : P.cellsOf ty = q) (hx : i < xs.length) :
  DataW.trod enc P W base spare held n ty ((cs.drop off).take q) = some xs[i] := by
 subst ht ho hq
 rw [hel i f hf, List.getElem?_eq_getElem hx]
set_option maxRecDepth 100000 in
theorem open_peril {H : Type} {enc : TypeId × Value → H} {W : World} {r : Reach} {b0 : Nat} {v : Value} {dd : DataW H} {p : List MemPlace} (hv : Value.okWide Tryd.prog W r b0 64 v) (h : DataW.Trod enc Tryd.prog W 0 (fun _ => true) true 64 v dd p) :
  ∃ d A c l m Aa ca pl Ac cc ch, v = .agg #[.int .i64 d, .slice A l.length c, .int .i64 m, .slice Aa pl.length ca, .slice Ac ch.length cc] ∧ l.length ≤ c ∧ Kd.C (Kd.slice 3 (Kd.int .i64)) W A l.length l ∧ pl.length ≤ ca ∧ (Kd.int .i64).C W Aa pl.length pl ∧ ch.length ≤ cc ∧ (Kd.int .i64).C W Ac ch.length ch := by
 unfold Value.okWide at hv
 rw [Tryd.underlying64] at hv
 obtain ⟨cs, rfl, hsz, _⟩ := hv
 have h5 : Tryd.prog.cellsOf 64 = 5 := by kernel_rfl
 have h3 : Tryd.prog.cellsOf 24 = 3 := by kernel_rfl
 have h1i : Tryd.prog.cellsOf 3 = 1 := by kernel_rfl
 have h1s : Tryd.prog.cellsOf 60 = 1 := by kernel_rfl
 have h1g : Tryd.prog.cellsOf 22 = 1 := by kernel_rfl
 obtain ⟨fuel, hf⟩ := h
 obtain ⟨xs, n, _, _, hl, hxs, hel⟩ := DataW.trod_struct Tryd.underlying64 hf
 have hcells : Value.cells (.agg cs) = cs := rfl
 rw [hcells] at hl hel
 obtain ⟨c0, c1, c2, c3, c4, hcs⟩ := list5 (show cs.toList.length = 5 by rw [hl, h5])
 rw [hcs] at hel
 have hx3 : xs.length = 3 := hxs
 have e0 := struct_at hel (i := 0) rfl (ty := 24) (off := 0) (q := 3) rfl rfl h3 (by omega)
 have e1 := struct_at hel (i := 1) rfl (ty := 60) (off := 3) (q := 1) rfl rfl h1s (by omega)
 have e2 := struct_at hel (i := 2) rfl (ty := 60) (off := 4) (q := 1) rfl rfl h1s (by omega)
 have e0 : DataW.trod enc Tryd.prog W 0 (fun _ => true) true n 24 [c0, c1, c2] = some _ := e0
 have e1 : DataW.trod enc Tryd.prog W 0 (fun _ => true) true n 60 [c3] = some _ := e1
 have e2 : DataW.trod enc Tryd.prog W 0 (fun _ => true) true n 60 [c4] = some _ := e2
 obtain ⟨ys, n2, _, _, _, hys, hel2⟩ := DataW.trod_struct Tryd.underlying24 e0
 have hy3 : ys.length = 3 := hys
 have f0 := struct_at hel2 (i := 0) rfl (ty := 3) (off := 0) (q := 1) rfl rfl h1i (by omega)
 have f1 := struct_at hel2 (i := 1) rfl (ty := 22) (off := 1) (q := 1) rfl rfl h1g (by omega)
 have f2 := struct_at hel2 (i := 2) rfl (ty := 3) (off := 2) (q := 1) rfl rfl h1i (by omega)
 have f0 : DataW.trod enc Tryd.prog W 0 (fun _ => true) true n2 3 [c0] = some _ := f0
 have f1 : DataW.trod enc Tryd.prog W 0 (fun _ => true) true n2 22 [c1] = some _ := f1
 have f2 : DataW.trod enc Tryd.prog W 0 (fun _ => true) true n2 3 [c2] = some _ := f2
 obtain ⟨d, hd, _, _⟩ := DataW.trod_int Tryd.underlying3 f0
 obtain ⟨m, hm, _, _⟩ := DataW.trod_int Tryd.underlying3 f2
 obtain ⟨A, c, l, hA, hc, hC, _⟩ := readAt_groups.slice f1
 obtain ⟨Aa, ca, pl, hAa, hca, hCa, _⟩ := readAt_ints.slice e1
 obtain ⟨Ac, cc, ch, hAc, hcc, hCc, _⟩ := readAt_ints.slice e2
 have hd : c0 = .int .i64 d := by simpa using hd
 have hm : c2 = .int .i64 m := by simpa using hm
 subst hd hm hA hAa hAc
 exact ⟨d, A, c, l, m, Aa, ca, pl, Ac, cc, ch, by rw [show cs = #[.int .i64 d, .slice A l.length c, .int .i64 m, .slice Aa pl.length ca, .slice Ac ch.length cc] from Array.toList_inj.1 hcs], hc, hC, hca, hCa, hcc, hCc⟩
end Go.Proofs.YtkadfidmfnpohaaDoor
