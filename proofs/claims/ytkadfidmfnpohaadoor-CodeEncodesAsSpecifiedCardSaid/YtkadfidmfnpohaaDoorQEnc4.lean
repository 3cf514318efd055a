/- Lemmas for the claim Enc: functions of the program as plain Lean functions, each with its contract, and what is proved of them. -/
import Derived.Test.YtkadfidmfnpohaaDoorQEnc0
import Derived.Test.YtkadfidmfnpohaaDoorQEnc1
import Derived.Test.YtkadfidmfnpohaaDoorQEnc2
import Derived.Test.YtkadfidmfnpohaaDoorQEnc3
namespace Go.Proofs.YtkadfidmfnpohaaDoor.XB
open Go.RowKit Go.Proofs.YtkadfidmfnpohaaDoorW.PrintWords Go.Proofs.YtkadfidmfnpohaaDoorW.PrintLast Go.Proofs.YtkadfidmfnpohaaDoorW.PrintMore
attribute [local go_sem] max2_int min2_int max_two min_two max_three min_three max_four min_four
set_option linter.unusedVariables false
set_option linter.unusedSimpArgs false
theorem snoc_map {α : Type} (f : Nat → α) (i : Nat) : (List.range (i + 1)).map f = (List.range i).map f ++ [f i] := by rw [List.range_succ, List.map_append]; rfl
theorem part_from (s : ByteArray) (t size : Nat) (ht : t ≤ 30) (hz : size ≤ 4096) : ∀ n i, i + n = size → Ev (fun k => quietusref07_part.l0 k s (t : Int) (size : Int) ((List.range i).map fun j => if t * size + j < s.size then bt s ((t * size + j : Nat) : Int) else 0) ((t * size + i : Nat) : Int)) (partOf s size t) := by
 have hm : t * size ≤ 30 * 4096 := Nat.mul_le_mul ht hz
 have hm1 : (t + 1) * size = t * size + size := by rw [Nat.add_mul, Nat.one_mul]
 have hw : wrap64 (wrap64 ((t : Int) + 1) * (size : Int)) = ((t * size + size : Nat) : Int) := by
  rw [wrap_succ (by omega), show ((t + 1 : Nat) : Int) * (size : Int) = (((t + 1) * size : Nat) : Int) by simp, hm1]
  exact wrap_nat (by omega)
 intro n
 induction n with
 | zero =>
  intro i hi
  refine Ev.step (f := fun _ => some (partOf s size t)) (fun k => ?_) (Ev.now _)
  simp only [quietusref07_part.l0]
  rw [hw, if_neg (by omega), show i = size by omega]
  rfl
 | succ n ih =>
  intro i hi
  have hnx := ih (i + 1) (by omega)
  rw [snoc_map] at hnx
  have hlen : ((List.range i).map fun j => if t * size + j < s.size then bt s ((t * size + j : Nat) : Int) else 0).length < 140737488355328 := by simp; omega
  refine Ev.step (f := fun k => quietusref07_part.l0 k s (t : Int) (size : Int) (((List.range i).map fun j => if t * size + j < s.size then bt s ((t * size + j : Nat) : Int) else 0) ++ [if t * size + i < s.size then bt s ((t * size + i : Nat) : Int) else 0]) ((t * size + (i + 1) : Nat) : Int)) (fun k => ?_) hnx
  simp only [quietusref07_part.l0]
  rw [hw, if_pos (by omega), wrap_succ (by omega)]
  by_cases c : t * size + i < s.size
  ·rw [if_pos (by omega), if_pos (by omega), if_pos hlen, if_pos c]
   rfl
  ·rw [if_neg (by omega), if_pos hlen, if_neg c]
   rfl
theorem part_ev (s : ByteArray) (t size : Nat) (ht : t ≤ 30) (hz : size ≤ 4096) : Ev (fun k => quietusref07_part.f k s (t : Int) (size : Int)) (partOf s size t) := by
 have hm : t * size ≤ 30 * 4096 := Nat.mul_le_mul ht hz
 refine Ev.congr (f := fun k => quietusref07_part.l0 k s (t : Int) (size : Int) ((List.range 0).map fun j => if t * size + j < s.size then bt s ((t * size + j : Nat) : Int) else 0) ((t * size + 0 : Nat) : Int)) (fun k => ?_) (part_from s t size ht hz size 0 (Nat.zero_add _))
 unfold quietusref07_part.f
 rw [show (t : Int) * (size : Int) = ((t * size : Nat) : Int) by simp, wrap_nat (by omega)]
 rfl
/-! Scale and Sum of the reference -/
theorem rscale_from (c : Int) (s : ByteArray) (hc : isB c = true) (hs : s.size ≤ 1000000) : ∀ n i, i + n = s.size → Ev (fun k => quietusref04_Scale.l0 k c s ((List.range i).map (gscale c s)) (i : Int)) (scaleBytes c s) := by
 intro n
 induction n with
 | zero =>
  intro i hi
  refine Ev.step (f := fun _ => some (scaleBytes c s)) (fun k => ?_) (Ev.now _)
  simp only [quietusref04_Scale.l0]
  rw [if_neg (by omega), show i = s.size by omega]
  rfl
 | succ n ih =>
  intro i hi
  have hnx := ih (i + 1) (by omega)
  rw [snoc_map] at hnx
  have hlen : ((List.range i).map (gscale c s)).length < 140737488355328 := by simp; omega
  refine Ev.step (f := fun k => (quietusref04_Mul.f k c (bt s (i : Int))).bind fun t => quietusref04_Scale.l0 k c s ((List.range i).map (gscale c s) ++ [t]) ((i + 1 : Nat) : Int)) (fun k => ?_) (Ev.bind (rmul_ev hc (isB_bt s i)) hnx)
  simp only [quietusref04_Scale.l0]
  rw [if_pos (by omega), if_pos (by omega)]
  simp only [if_pos hlen]
  rw [wrap_succ (by omega)]
theorem rscale_ev (c : Int) (s : ByteArray) (hc : isB c = true) (hs : s.size ≤ 1000000) : Ev (fun k => quietusref04_Scale.f k c s) (scaleBytes c s) := rscale_from c s hc hs _ 0 (Nat.zero_add _)
def xorAt (a b : ByteArray) (i : Nat) : Int := ixor (bt a (i : Int)) (bt b (i : Int))
def xorBytes (a b : ByteArray) : ByteArray := strOfNums ((List.range (max a.size b.size)).map (xorAt a b))
theorem rat_eq (s : ByteArray) (i : Nat) : quietusref04_at.f s (i : Int) = some (bt s (i : Int)) := by
 unfold quietusref04_at.f
 by_cases h : i < s.size
 ·rw [if_pos (by omega), if_pos (by omega)]
 ·rw [if_neg (by omega), bt_out s i (by omega)]
theorem rsum_from (a b : ByteArray) (ha : a.size ≤ 1000000) (hb : b.size ≤ 1000000) : ∀ n i, i + n = max a.size b.size → Ev (fun k => quietusref04_Sum.l0 k a b ((List.range i).map (xorAt a b)) (i : Int)) (xorBytes a b) := by
 have hmx : mx (a.size : Int) (b.size : Int) = ((max a.size b.size : Nat) : Int) := by unfold mx; omega
 intro n
 induction n with
 | zero =>
  intro i hi
  refine Ev.step (f := fun _ => some (xorBytes a b)) (fun k => ?_) (Ev.now _)
  simp only [quietusref04_Sum.l0, hmx]
  rw [if_neg (by omega), show i = max a.size b.size by omega]
  rfl
 | succ n ih =>
  intro i hi
  have hnx := ih (i + 1) (by omega)
  rw [snoc_map] at hnx
  have hlen : ((List.range i).map (xorAt a b)).length < 140737488355328 := by simp; omega
  refine Ev.step (f := fun k => quietusref04_Sum.l0 k a b ((List.range i).map (xorAt a b) ++ [xorAt a b i]) ((i + 1 : Nat) : Int)) (fun k => ?_) hnx
  simp only [quietusref04_Sum.l0, hmx, rat_eq, Option.bind_some]
  rw [if_pos (by omega), if_pos hlen, wrap_succ (by omega), bits_xor_u8 (isB_bt a i) (isB_bt b i)]
  rfl
theorem rsum_ev (a b : ByteArray) (ha : a.size ≤ 1000000) (hb : b.size ≤ 1000000) : Ev (fun k => quietusref04_Sum.f k a b) (xorBytes a b) := rsum_from a b ha hb _ 0 (Nat.zero_add _)
/-! Combine of the reference -/
def combUpto (coef : List Int) (parts : List ByteArray) (n : Nat) : Nat → ByteArray
 | 0 => ⟨#[]⟩
 | i + 1 => strOfNums ((List.range n).map fun k => gcomb coef parts k (i + 1))
theorem all_map_isB {n : Nat} {f : Nat → Int} (h : ∀ i, i < n → isB (f i) = true) : ∀ x ∈ (List.range n).map f, isB x = true := by
 intro x hx
 obtain ⟨i, hi, rfl⟩ := List.mem_map.1 hx
 exact h i (List.mem_range.1 hi)
theorem bt_map {n : Nat} {f : Nat → Int} (h : ∀ i, i < n → isB (f i) = true) (i : Nat) (hi : i < n) : bt (strOfNums ((List.range n).map f)) (i : Int) = f i := by
 rw [bt_get _ (all_map_isB h) i (by simpa using hi)]
 simp
theorem combUpto_succ (coef : List Int) (parts : List ByteArray) (n : Nat) (hc : coef.all isB = true) (i : Nat) (hi : i < coef.length) (hp : (rdOf ByteArray.empty parts (i : Int)).size = n) :
  xorBytes (combUpto coef parts n i) (scaleBytes (rd coef (i : Int)) (rdOf ByteArray.empty parts (i : Int))) = combUpto coef parts n (i + 1) := by
 have hci : isB (rd coef (i : Int)) = true := by
  have : rd coef (i : Int) = coef[i] := rdi hi
  rw [this]; exact List.all_eq_true.1 hc _ (List.getElem_mem hi)
 have hsz : (scaleBytes (rd coef (i : Int)) (rdOf ByteArray.empty parts (i : Int))).size = n := by rw [scaleBytes_size, hp]
 have hss : (combUpto coef parts n i).size ≤ n := by
  cases i with
  | zero => exact Nat.zero_le _
  | succ i => show (strOfNums _).size ≤ n; rw [strOfNums_size]; simp
 unfold xorBytes
 rw [hsz, show max (combUpto coef parts n i).size n = n by omega]
 show _ = strOfNums ((List.range n).map fun k => gcomb coef parts k (i + 1))
 congr 1
 apply List.map_congr_left
 intro k hk
 have hk := List.mem_range.1 hk
 unfold xorAt
 have h2 : bt (scaleBytes (rd coef (i : Int)) (rdOf ByteArray.empty parts (i : Int))) (k : Int) = imul (rd coef (i : Int)) (bt (rdOf ByteArray.empty parts (i : Int)) (k : Int)) := by
  unfold scaleBytes
  rw [bt_map (f := gscale (rd coef (i : Int)) (rdOf ByteArray.empty parts (i : Int))) (fun j _ => isB_mul _ hci) k (by omega)]
  rfl
 rw [h2]
 cases i with
 | zero =>
  show ixor (bt (⟨#[]⟩ : ByteArray) (k : Int)) _ = ixor 0 _
  rw [bt_nil]
 | succ i =>
  show ixor (bt (strOfNums ((List.range n).map fun k => gcomb coef parts k (i + 1))) (k : Int)) _ = ixor (gcomb coef parts k (i + 1)) _
  rw [bt_map (f := fun k => gcomb coef parts k (i + 1)) (fun j _ => isB_comb coef parts j hc (i + 1) (by omega)) k hk]
theorem rcomb_from (coef : List Int) (parts : List ByteArray) (n : Nat) (hn : n ≤ 1000000) (hl : coef.length = parts.length) (hll : parts.length ≤ 1000000) (hc : coef.all isB = true) (hp : ∀ i : Nat, i < parts.length → (rdOf ByteArray.empty parts (i : Int)).size = n) :
  ∀ j i, i + j = parts.length → Ev (fun k => quietusref04_Combine.l0 k coef parts (combUpto coef parts n i) (i : Int)) (combUpto coef parts n parts.length, 0) := by
 intro j
 induction j with
 | zero =>
  intro i hi
  refine Ev.step (f := fun _ => some (combUpto coef parts n parts.length, 0)) (fun k => ?_) (Ev.now _)
  simp only [quietusref04_Combine.l0]
  rw [if_neg (by omega), show i = parts.length by omega]
 | succ j ih =>
  intro i hi
  have hci : isB (rd coef (i : Int)) = true := by
   have : rd coef (i : Int) = coef[i]'(by omega) := rdi (by omega)
   rw [this]; exact List.all_eq_true.1 hc _ (List.getElem_mem _)
  have hpi := hp i (by omega)
  have hp0 := hp 0 (by omega)
  have hss : (combUpto coef parts n i).size ≤ n := by
   cases i with
   | zero => exact Nat.zero_le _
   | succ i => show (strOfNums _).size ≤ n; rw [strOfNums_size]; simp
  refine Ev.step (f := fun k => (quietusref04_Scale.f k (rd coef (i : Int)) (rdOf ByteArray.empty parts (i : Int))).bind fun t => (quietusref04_Sum.f k (combUpto coef parts n i) t).bind fun t2 => quietusref04_Combine.l0 k coef parts t2 ((i + 1 : Nat) : Int)) (fun k => ?_) (Ev.bind (rscale_ev _ _ hci (by omega)) (Ev.bind (rsum_ev _ _ (by omega) (by rw [scaleBytes_size]; omega)) ?_))
  ·simp only [quietusref04_Combine.l0]
   rw [if_pos (by omega), if_pos (by omega), if_pos (by omega), if_pos (by rw [show ((0 : Nat) : Int) = 0 from rfl] at hp0; omega), if_pos (by omega), wrap_succ (by omega)]
  ·rw [combUpto_succ coef parts n hc i (by omega) hpi]
   exact ih (i + 1) (by omega)
theorem rcomb_ev (coef : List Int) (parts : List ByteArray) (n : Nat) (hn : n ≤ 1000000) (hl : coef.length = parts.length) (hll : parts.length ≤ 1000000) (h0 : 0 < parts.length) (hc : coef.all isB = true) (hp : ∀ i : Nat, i < parts.length → (rdOf ByteArray.empty parts (i : Int)).size = n) :
  Ev (fun k => quietusref04_Combine.f k coef parts) (combBytes coef parts n, 0) := by
 refine Ev.congr (f := fun k => quietusref04_Combine.l0 k coef parts (combUpto coef parts n 0) ((0 : Nat) : Int)) (fun k => by unfold quietusref04_Combine.f; rw [if_pos (by omega)]; rfl) (ev_eq (rcomb_from coef parts n hn hl hll hc hp _ 0 (Nat.zero_add _)) ?_)
 congr 1
 unfold combBytes
 rw [hl]
 obtain ⟨i, hi⟩ : ∃ i, parts.length = i + 1 := ⟨parts.length - 1, by omega⟩
 rw [hi]
 rfl
theorem ccomb_eq (coef : List Int) (parts : List ByteArray) (n : Nat) (hn : n ≤ 1000000) (hl : coef.length = parts.length) (h0 : 0 < parts.length) (hc : coef.all isB = true) (hp : ∀ i : Nat, i < parts.length → (rdOf ByteArray.empty parts (i : Int)).size = n) :
  gf_Combine.f coef parts = some (combBytes coef parts n, 0) := by
 have hs : partSize parts = n := by
  have := hp 0 h0
  cases parts with
  | nil => simp at h0
  | cons a l => exact this
 unfold gf_Combine.f
 rw [if_pos hl, hs, if_pos ⟨hc, by omega⟩, if_pos (sameSize_iff.2 hp)]
/-! parts -/
theorem partOf_size (s : ByteArray) (size i : Nat) : (partOf s size i).size = size := by unfold partOf; rw [strOfNums_size]; simp
theorem partsOf_length (s : ByteArray) (size n : Nat) : (partsOf s size n).length = n := by simp [partsOf]
theorem partsOf_get (s : ByteArray) (size n i : Nat) (h : i < n) : rdOf ByteArray.empty (partsOf s size n) (i : Int) = partOf s size i := by
 simp [rdOf, partsOf, List.getD_eq_getElem?_getD, h]
theorem rowAt_length (D : Nat) (l : List (List Int)) (t : Nat) : (rowAt D l t).length = D := by simp [rowAt]
theorem elAt_isB (D : Nat) (l : List (List Int)) (t i : Nat) : isB (elAt D l t i) = true := by
 unfold elAt
 split
 ·unfold unitAt; split <;> decide
 ·split
  ·unfold setAt; exact isB_nat (by omega)
  ·unfold expAt; exact isB_nat (QGF.xtp_lt (by decide) _)
theorem rowAt_isB (D : Nat) (l : List (List Int)) (t : Nat) : (rowAt D l t).all isB = true := by
 rw [List.all_eq_true]
 exact all_map_isB (fun i _ => elAt_isB D l t i)
/-- The pieces of a chunk. -/
def piecesFor (D : Nat) (l : List (List Int)) (M : Nat) (s : ByteArray) : List ByteArray := (rowsOf D l M).map fun r => combBytes r (partsOf s (((s.size : Int) + D - 1) / D).toNat D) (((s.size : Int) + D - 1) / D).toNat
def encFor (d : Int) (l : List (List Int)) (m : Int) (s : ByteArray) : List ByteArray × Int := if chk d l m = 0 then (if s.size ≤ 4096 then (piecesFor d.toNat l m.toNat s, 0) else ([], 2)) else ([], chk d l m)
theorem size_le {D n : Nat} (h1 : 1 ≤ D) (h2 : n ≤ 4096) : (((n : Int) + D - 1) / D).toNat ≤ 4096 ∧ n ≤ D * (((n : Int) + D - 1) / D).toNat ∧ 0 ≤ ((n : Int) + D - 1) / D := by
 have e : ((n : Int) + D - 1) / D = (((n + D - 1) / D : Nat) : Int) := by
  rw [show (n : Int) + D - 1 = ((n + D - 1 : Nat) : Int) by omega]
  exact (Int.natCast_ediv _ _).symm
 rw [e, Int.toNat_natCast]
 refine ⟨?_, ?_, Int.natCast_nonneg _⟩
 ·rw [Nat.div_le_iff_le_mul_add_pred h1]
  have : D * 4096 ≥ 4096 * 1 := by rw [Nat.mul_comm]; exact Nat.mul_le_mul_left _ h1
  have h3 : 4096 * D ≥ 4096 + (D - 1) * 4096 := by
   obtain ⟨k, rfl⟩ : ∃ k, D = k + 1 := ⟨D - 1, by omega⟩
   simp; omega
  rw [Nat.mul_comm] at h3
  omega
 ·have := Nat.div_add_mod (n + D - 1) D
  have h3 := Nat.mod_lt (n + D - 1) (show 0 < D by omega)
  omega
theorem combRows_eq (parts : List ByteArray) (n : Nat) : ∀ rows : List (List Int), (∀ r ∈ rows, gf_Combine.f r parts = some (combBytes r parts n, 0)) → combRows parts rows = some (rows.map fun r => combBytes r parts n)
 | [], _ => rfl
 | r :: rows, h => by
  unfold combRows
  rw [h r (List.mem_cons_self), combRows_eq parts n rows (fun x hx => h x (List.mem_cons_of_mem _ hx))]
  rfl
theorem cenc_ev (d : Int) (l : List (List Int)) (m : Int) (s : ByteArray) (hs : Small l) (hb : s.size ≤ 140737488351232) : Ev (fun k => code_Encode.f k d l m s) (encFor d l m s) := by
 unfold encFor
 refine Ev.congr (f := fun k => (code_Rows.f k d l m).bind fun r => if r.2 = 0 then (if (s.size : Int) > 4096 then some ([], 2) else (code_Size.f k d l m (s.size : Int)).bind fun size => if 0 ≤ d ∧ 0 ≤ size then encodeWith d.toNat size.toNat r.1 s else none) else some ([], r.2)) (fun k => rfl) (Ev.bind (crows_ev d l m hs) ?_)
 by_cases e : chk d l m = 0
 ·have hok := chk_ok e
  obtain ⟨D, M, rfl, rfl⟩ := hok.nats
  have h1 := hok.d1; have h2 := hok.d2; have h4 := hok.sum
  simp only [e, if_true, rowsFor]
  by_cases c : s.size ≤ 4096
  ·rw [if_pos c]
   simp only [show ¬ ((s.size : Int) > 4096) by omega, if_false]
   refine Ev.bind (csize_ev (D : Int) l (M : Int) (s.size : Int) hs) ?_
   rw [sizeOf_in e (by omega) (by omega)]
   obtain ⟨z1, z2, z3⟩ := size_le (D := D) (n := s.size) (by omega) c
   simp only [show (0 : Int) ≤ (D : Int) ∧ 0 ≤ ((s.size : Int) + D - 1) / D from ⟨by omega, z3⟩, if_true]
   rw [Int.toNat_natCast, Int.toNat_natCast]
   have hrl : (rowsOf D l M).length ≤ 100 := by rw [rowsOf_eq]; simp; omega
   have hew : encodeWith D (((s.size : Int) + D - 1) / D).toNat (rowsOf D l M) s = some (piecesFor D l M s, 0) := by
    unfold encodeWith piecesFor
    rw [if_pos ⟨by omega, z2, z1, hrl⟩, combRows_eq _ (((s.size : Int) + D - 1) / D).toNat]
    ·rfl
    ·intro r hr
     rw [rowsOf_eq] at hr
     obtain ⟨t, _, rfl⟩ := List.mem_map.1 hr
     refine ccomb_eq _ _ _ (by omega) (by rw [rowAt_length, partsOf_length]) (by rw [partsOf_length]; omega) (rowAt_isB D l t) (fun i hi => ?_)
     rw [partsOf_length] at hi
     rw [partsOf_get _ _ _ _ hi, partOf_size]
   simp only [hew]
   exact Ev.now _
  ·rw [if_neg c]
   simp only [show ((s.size : Int) > 4096) by omega, if_true]
   exact Ev.now _
 ·simp only [e, if_false]
  exact Ev.now _
theorem renc_l1 (D M : Nat) (l : List (List Int)) (s : ByteArray) (hs : Small l) (hok : CodeOk (D : Int) l (M : Int)) (hc : chk (D : Int) l (M : Int) = 0) (z : Nat) (hz : z ≤ 4096) : ∀ n i, i + n = D + l.length + M →
  Ev (fun k => quietusref07_Encode.l1 k (partsOf s z D) ((List.range i).map fun t => combBytes (rowAt D l t) (partsOf s z D) z) (i : Int) (D : Int) l (M : Int)) ((rowsOf D l M).map (fun r => combBytes r (partsOf s z D) z), 0) := by
 have h1 := hok.d1; have h2 := hok.d2; have h3 := hok.m2; have h4 := hok.sum
 have hp : piecesOf (D : Int) l (M : Int) = ((D + l.length + M : Nat) : Int) := by unfold piecesOf; rw [if_pos hc]; omega
 have hpe := rpieces_ev (D : Int) l (M : Int) hs
 rw [hp] at hpe
 intro n
 induction n with
 | zero =>
  intro i hi
  refine Ev.step (f := fun k => (quietusref07_Pieces.f k (D : Int) l (M : Int)).bind fun t => if (i : Int) < t then (quietusref07_row.f k (D : Int) l (M : Int) (i : Int)).bind fun t171 => (quietusref04_Combine.f k t171 (partsOf s z D)).bind fun bt174 => if ((List.range i).map fun t => combBytes (rowAt D l t) (partsOf s z D) z).length < 8796093022208 then quietusref07_Encode.l1 k (partsOf s z D) (((List.range i).map fun t => combBytes (rowAt D l t) (partsOf s z D) z) ++ [bt174.1]) (wrap64 ((i : Int) + 1)) (D : Int) l (M : Int) else none else some (((List.range i).map fun t => combBytes (rowAt D l t) (partsOf s z D) z), 0)) (fun k => by simp only [quietusref07_Encode.l1]) (Ev.bind hpe ?_)
  rw [rowsOf_eq, show i = D + l.length + M by omega, List.map_map]
  simp only [Int.lt_irrefl, if_false]
  exact Ev.now _
 | succ n ih =>
  intro i hi
  refine Ev.step (f := fun k => (quietusref07_Pieces.f k (D : Int) l (M : Int)).bind fun t => if (i : Int) < t then (quietusref07_row.f k (D : Int) l (M : Int) (i : Int)).bind fun t171 => (quietusref04_Combine.f k t171 (partsOf s z D)).bind fun bt174 => if ((List.range i).map fun t => combBytes (rowAt D l t) (partsOf s z D) z).length < 8796093022208 then quietusref07_Encode.l1 k (partsOf s z D) (((List.range i).map fun t => combBytes (rowAt D l t) (partsOf s z D) z) ++ [bt174.1]) (wrap64 ((i : Int) + 1)) (D : Int) l (M : Int) else none else some (((List.range i).map fun t => combBytes (rowAt D l t) (partsOf s z D) z), 0)) (fun k => by simp only [quietusref07_Encode.l1]) (Ev.bind hpe ?_)
  have hi2 : (i : Int) < ((D + l.length + M : Nat) : Int) := by omega
  simp only [hi2, if_true]
  have hlen : ((List.range i).map fun t => combBytes (rowAt D l t) (partsOf s z D) z).length < 8796093022208 := by simp; omega
  simp only [hlen, if_true]
  refine Ev.bind (rrow_ev D l (M : Int) hs (by omega) (by omega) hok.elems i (by omega)) (Ev.bind (rcomb_ev (rowAt D l i) (partsOf s z D) z (by omega) (by rw [rowAt_length, partsOf_length]) (by rw [partsOf_length]; omega) (by rw [partsOf_length]; omega) (rowAt_isB D l i) (fun j hj => ?_)) ?_)
  ·rw [partsOf_length] at hj
   rw [partsOf_get _ _ _ _ hj, partOf_size]
  ·have := ih (i + 1) (by omega)
   rw [snoc_map] at this
   rw [wrap_succ (by omega)]
   exact this
theorem renc_l0 (D M : Nat) (l : List (List Int)) (s : ByteArray) (hs : Small l) (hok : CodeOk (D : Int) l (M : Int)) (hc : chk (D : Int) l (M : Int) = 0) (hsz : s.size ≤ 4096) : ∀ n i, i + n = D →
  Ev (fun k => quietusref07_Encode.l0 k s (partsOf s (((s.size : Int) + D - 1) / D).toNat i) (i : Int) (D : Int) l (M : Int)) (piecesFor D l M s, 0) := by
 have h1 := hok.d1; have h2 := hok.d2; have h3 := hok.m2; have h4 := hok.sum
 obtain ⟨z1, z2, z3⟩ := size_le (D := D) (n := s.size) (by omega) hsz
 have hz : sizeOf (D : Int) l (M : Int) (s.size : Int) = (((((s.size : Int) + D - 1) / D).toNat : Nat) : Int) := by rw [sizeOf_in hc (by omega) (by omega)]; omega
 have hze := rsize_ev (D : Int) l (M : Int) (s.size : Int) hs
 rw [hz] at hze
 have hpf : piecesFor D l M s = (rowsOf D l M).map fun r => combBytes r (partsOf s (((s.size : Int) + D - 1) / D).toNat D) (((s.size : Int) + D - 1) / D).toNat := rfl
 rw [hpf]
 generalize (((s.size : Int) + D - 1) / D).toNat = z at *
 intro n
 induction n with
 | zero =>
  intro i hi
  refine Ev.step (f := fun k => quietusref07_Encode.l1 k (partsOf s z D) [] ((0 : Nat) : Int) (D : Int) l (M : Int)) (fun k => ?_) (renc_l1 D M l s hs hok hc z z1 _ 0 (Nat.zero_add _))
  simp only [quietusref07_Encode.l0]
  rw [if_neg (by omega), show i = D by omega]
  rfl
 | succ n ih =>
  intro i hi
  have hlen : (partsOf s z i).length < 8796093022208 := by rw [partsOf_length]; omega
  refine Ev.step (f := fun k => (quietusref07_Size.f k (D : Int) l (M : Int) (s.size : Int)).bind fun t => (quietusref07_part.f k s (i : Int) t).bind fun t2 => quietusref07_Encode.l0 k s (partsOf s z i ++ [t2]) ((i + 1 : Nat) : Int) (D : Int) l (M : Int)) (fun k => ?_) (Ev.bind hze (Ev.bind (part_ev s i z (by omega) z1) ?_))
  ·simp only [quietusref07_Encode.l0]
   rw [if_pos (by omega)]
   simp only [if_pos hlen]
   rw [wrap_succ (by omega)]
  ·have := ih (i + 1) (by omega)
   unfold partsOf at this ⊢
   rw [snoc_map] at this
   exact this
theorem renc_ev (d : Int) (l : List (List Int)) (m : Int) (s : ByteArray) (hs : Small l) : Ev (fun k => quietusref07_Encode.f k d l m s) (encFor d l m s) := by
 unfold encFor
 refine Ev.congr (f := fun k => (quietusref07_Check.f k d l m).bind fun t => if t = 0 then (if (s.size : Int) > 4096 then some (([] : List ByteArray), 2) else quietusref07_Encode.l0 k s ([] : List ByteArray) 0 d l m) else some (([] : List ByteArray), t)) (fun k => rfl) (Ev.bind (rchk_ev d l m hs) ?_)
 by_cases e : chk d l m = 0
 ·have hok := chk_ok e
  obtain ⟨D, M, rfl, rfl⟩ := hok.nats
  simp only [e, if_true]
  by_cases c : s.size ≤ 4096
  ·rw [if_pos c]
   simp only [show ¬ ((s.size : Int) > 4096) by omega, if_false]
   exact renc_l0 D M l s hs hok e c D 0 (Nat.zero_add _)
  ·rw [if_neg c]
   simp only [show ((s.size : Int) > 4096) by omega, if_true]
   exact Ev.now _
 ·simp only [e, if_false]
  exact Ev.now _
/-! the same lists -/
theorem sametexts_from (L : List ByteArray) (hl : L.length ≤ 1000000) : ∀ n i, i + n = L.length → Ev (fun k => quietusref07_SameTexts.l0 k L L (i : Int)) true := by
 intro n
 induction n with
 | zero =>
  intro i hi
  refine Ev.step (f := fun _ => some true) (fun k => ?_) (Ev.now _)
  simp only [quietusref07_SameTexts.l0]
  rw [if_neg (by omega)]
 | succ n ih =>
  intro i hi
  refine Ev.step (f := fun k => quietusref07_SameTexts.l0 k L L ((i + 1 : Nat) : Int)) (fun k => ?_) (ih (i + 1) (by omega))
  simp only [quietusref07_SameTexts.l0]
  rw [if_pos (by omega), if_pos (by omega), if_pos (by omega), wrap_succ (by omega)]
  rfl
theorem sametexts_ev (L : List ByteArray) (hl : L.length ≤ 1000000) : Ev (fun k => quietusref07_SameTexts.f k L L) true :=
 Ev.congr (f := fun k => quietusref07_SameTexts.l0 k L L ((0 : Nat) : Int)) (fun k => by unfold quietusref07_SameTexts.f; rw [if_pos rfl]; rfl) (sametexts_from L hl _ 0 (Nat.zero_add _))
theorem samerows_from (L : List (List Int)) (hl : L.length ≤ 1000000) : ∀ n i, i + n = L.length → Ev (fun k => quietusref07_SameRows.l0 k L L (i : Int)) true := by
 intro n
 induction n with
 | zero =>
  intro i hi
  refine Ev.step (f := fun _ => some true) (fun k => ?_) (Ev.now _)
  simp only [quietusref07_SameRows.l0]
  rw [if_neg (by omega)]
 | succ n ih =>
  intro i hi
  refine Ev.step (f := fun k => quietusref07_SameRows.l0 k L L ((i + 1 : Nat) : Int)) (fun k => ?_) (ih (i + 1) (by omega))
  simp only [quietusref07_SameRows.l0]
  rw [if_pos (by omega), if_pos (by omega), if_pos (by omega), wrap_succ (by omega)]
  rfl
theorem samerows_ev (L : List (List Int)) (hl : L.length ≤ 1000000) : Ev (fun k => quietusref07_SameRows.f k L L) true :=
 Ev.congr (f := fun k => quietusref07_SameRows.l0 k L L ((0 : Nat) : Int)) (fun k => by unfold quietusref07_SameRows.f; rw [if_pos rfl]; rfl) (samerows_from L hl _ 0 (Nat.zero_add _))
theorem rowsFor_length {d : Int} {l : List (List Int)} {m : Int} : (rowsFor d l m).length ≤ 100 := by
 unfold rowsFor
 by_cases e : chk d l m = 0
 ·have hok := chk_ok e
  have h0 := hok.m1; have h1 := hok.d1; have h2 := hok.d2; have h3 := hok.m2; have h4 := hok.sum
  rw [if_pos e, rowsOf_eq]
  simp; omega
 ·rw [if_neg e]; simp
theorem encFor_length {d : Int} {l : List (List Int)} {m : Int} {s : ByteArray} : (encFor d l m s).1.length ≤ 100 := by
 unfold encFor
 by_cases e : chk d l m = 0
 ·rw [if_pos e]
  have := rowsFor_length (d := d) (l := l) (m := m)
  unfold rowsFor at this
  rw [if_pos e] at this
  split
  ·unfold piecesFor; rw [List.length_map]; exact this
  ·simp
 ·rw [if_neg e]; simp
/-! the law -/
theorem enc_walk (d : Int) (A : Option Addr) (c : Nat) (l : List (List Int)) (m : Int) (s : ByteArray) (n : Int) (w : World) (hG : HG w) (hC : Kd.C (Kd.slice 3 (Kd.int .i64)) w A l.length l) (hc : l.length ≤ c) (hs : s.size ≤ maxLen) :
  Calls Tryd.prog 3 #[.agg #[.int .i64 d, .slice A l.length c, .int .i64 m], .string s, .int .i64 n] w fun e w' => e = .returned (.bool true) ∧ Below w.heap.size w w' := by
 obtain ⟨K, hK⟩ := few_ev d l m 20 (by decide)
 by_cases hout : fewB l 20 = false ∨ (200 < s.size ∧ s.size ≤ 4096) ∨ 4106 < s.size
 ·exact law07_enc.aside K d A c l m s n _ w hG hC hc (hK K (Nat.le_refl _)) hout
 ·have hf : fewB l 20 = true := by
   cases h : fewB l 20
   ·exact absurd (.inl h) hout
   ·rfl
  obtain ⟨_, hsm, _⟩ := few_small hf (by decide)
  have hin : s.size ≤ 200 ∨ (4096 < s.size ∧ s.size ≤ 4106) := by
   by_cases h1 : s.size ≤ 200
   ·exact .inl h1
   ·refine .inr ⟨?_, ?_⟩
    ·by_cases h2 : 4096 < s.size
     ·exact h2
     ·exact absurd (.inr (.inl ⟨by omega, by omega⟩)) hout
    ·by_cases h2 : 4106 < s.size
     ·exact absurd (.inr (.inr h2)) hout
     ·omega
  obtain ⟨K1, h1⟩ := rchk_ev d l m hsm
  obtain ⟨K2, h2⟩ := cchk_ev d l m hsm
  obtain ⟨K3, h3⟩ := crows_ev d l m hsm
  obtain ⟨K4, h4⟩ := cenc_ev d l m s hsm (by omega)
  obtain ⟨K5, h5⟩ := renc_ev d l m s hsm
  obtain ⟨K6, h6⟩ := cpieces_ev d l m hsm
  obtain ⟨K7, h7⟩ := rpieces_ev d l m hsm
  obtain ⟨K8, h8⟩ := csize_ev d l m n hsm
  obtain ⟨K9, h9⟩ := rsize_ev d l m n hsm
  obtain ⟨K10, h10⟩ := sametexts_ev (encFor d l m s).1 (Nat.le_trans encFor_length (by decide))
  obtain ⟨K11, h11⟩ := rrows_ev d l m hsm
  obtain ⟨K12, h12⟩ := samerows_ev (rowsFor d l m) (Nat.le_trans rowsFor_length (by decide))
  obtain ⟨k, hk⟩ : ∃ k, k = K + K1 + K2 + K3 + K4 + K5 + K6 + K7 + K8 + K9 + K10 + K11 + K12 := ⟨_, rfl⟩
  exact law07_enc.main k d A c l m s n _ _ _ _ _ _ w hG hC hc (hf ▸ hK k (by omega)) hin (h1 k (by omega)) (h2 k (by omega)) (h3 k (by omega)) (h4 k (by omega)) (h5 k (by omega)) (h6 k (by omega)) (h7 k (by omega)) (h8 k (by omega)) (h9 k (by omega)) (h10 k (by omega)) (h11 k (by omega)) (h12 k (by omega))
end Go.Proofs.YtkadfidmfnpohaaDoor.XB
