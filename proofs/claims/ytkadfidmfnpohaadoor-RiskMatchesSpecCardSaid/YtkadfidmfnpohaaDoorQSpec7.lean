/- Lemmas for the claim Spec: functions of the program as plain Lean functions, each with its contract, and what is proved of them. -/
import Derived.Test.YtkadfidmfnpohaaDoorQSpec1
import Derived.Test.YtkadfidmfnpohaaDoorQSpec5
import Derived.Test.YtkadfidmfnpohaaDoorQSpec3
import Derived.Test.YtkadfidmfnpohaaDoorQSpec4
import Derived.Test.YtkadfidmfnpohaaDoorQSpec2
import Derived.Test.YtkadfidmfnpohaaDoorQSpec6
namespace Go.Proofs.YtkadfidmfnpohaaDoor.XB
open Go.RowKit Go.Proofs.YtkadfidmfnpohaaDoorW.PrintWords Go.Proofs.YtkadfidmfnpohaaDoorW.PrintLast Go.Proofs.YtkadfidmfnpohaaDoorW.PrintMore
set_option linter.unusedVariables false
set_option linter.unusedSimpArgs false
def lossV (d : Int) (l : List (List Int)) (m : Int) (pl ch : List Int) : Int × Int :=
 if chk12 d l m pl ch = 0 then (lossFor d.toNat l m.toNat pl ch, 0) else (0, chk12 d l m pl ch)
theorem lossV_err {d : Int} {l : List (List Int)} {m : Int} {pl ch : List Int} (e : chk12 d l m pl ch ≠ 0) : lossV d l m pl ch = (0, chk12 d l m pl ch) := by unfold lossV; rw [if_neg e]
theorem lossV_ok {D M : Nat} {l : List (List Int)} {pl ch : List Int} (h : PerilOk D l M pl ch) : lossV (D : Int) l (M : Int) pl ch = (lossFor D l M pl ch, 0) := by unfold lossV; rw [if_pos h.chk, Int.toNat_natCast, Int.toNat_natCast]
theorem kloss_all (d : Int) (l : List (List Int)) (m : Int) (pl ch : List Int) (hs : Small l) (hp : pl.length ≤ 1000) (hc : ch.length ≤ 1000) : Ev (fun k => risk_Loss.f k d l m pl ch) (lossV d l m pl ch) := by
 by_cases e : chk12 d l m pl ch = 0
 ·obtain ⟨D, M, rfl, rfl, hok⟩ := chk12_ok e
  rw [lossV_ok hok]; exact kloss_ev hok hs
 ·rw [lossV_err e]
  refine Ev.congr (f := fun k => (risk_Check.f k d l m pl ch).bind fun e => if e = 0 then (if okPeril pl ch = true then (code_Rows.f k d l m).bind fun r => if okRows r.1 = true then some (lossUpto (canOf r.1) pl ch (2 ^ ch.length), 0) else none else none) else some (0, e)) (fun k => rfl) (Ev.bind (kchk_ev d l m pl ch hs hp hc) ?_)
  simp only [e, if_false]; exact Ev.now _
theorem rloss_all (d : Int) (l : List (List Int)) (m : Int) (pl ch : List Int) (hs : Small l) (hp : pl.length ≤ 1000) (hc : ch.length ≤ 1000) : Ev (fun k => quietusref12_Loss.f k d l m pl ch) (lossV d l m pl ch) := by
 by_cases e : chk12 d l m pl ch = 0
 ·obtain ⟨D, M, rfl, rfl, hok⟩ := chk12_ok e
  rw [lossV_ok hok]; exact rloss_ev hok hs
 ·rw [lossV_err e]
  refine Ev.congr (f := fun k => (quietusref12_Check.f k d l m pl ch).bind fun t => if t = 0 then quietusref12_Loss.l0 k 0 0 d l m pl ch else some (0, t)) (fun k => rfl) (Ev.bind (rck12_ev d l m pl ch hs hp hc) ?_)
  simp only [e, if_false]; exact Ev.now _
theorem kleast_err {d : Int} {l : List (List Int)} {m : Int} {pl ch : List Int} (hs : Small l) (hp : pl.length ≤ 1000) (hc : ch.length ≤ 1000) (e : chk12 d l m pl ch ≠ 0) : Ev (fun k => risk_Least.f k d l m pl ch) (0, chk12 d l m pl ch) := by
 refine Ev.congr (f := fun k => (risk_Check.f k d l m pl ch).bind fun e => if e = 0 then (if okPeril pl ch = true then (code_Rows.f k d l m).bind fun r => if okRows r.1 = true then some (((leastUpto (canOf r.1) pl ch.length (2 ^ ch.length) : Nat) : Int), 0) else none else none) else some (0, e)) (fun k => rfl) (Ev.bind (kchk_ev d l m pl ch hs hp hc) ?_)
 simp only [e, if_false]; exact Ev.now _
theorem rleast_err {d : Int} {l : List (List Int)} {m : Int} {pl ch : List Int} (hs : Small l) (hp : pl.length ≤ 1000) (hc : ch.length ≤ 1000) (e : chk12 d l m pl ch ≠ 0) : Ev (fun k => quietusref12_Least.f k d l m pl ch) (0, chk12 d l m pl ch) := by
 refine Ev.congr (f := fun k => (quietusref12_Check.f k d l m pl ch).bind fun e => if e = 0 then (if ch.length ≤ 12 then (rleastUpto k d l m pl ch (2 ^ ch.length)).bind fun b => some (b, 0) else none) else some (0, e)) (fun k => rfl) (Ev.bind (rck12_ev d l m pl ch hs hp hc) ?_)
 simp only [e, if_false]; exact Ev.now _
theorem klost_err {d : Int} {l : List (List Int)} {m : Int} {pl ch : List Int} (f : Int) (hs : Small l) (hp : pl.length ≤ 1000) (hc : ch.length ≤ 1000) (e : chk12 d l m pl ch ≠ 0) : Ev (fun k => risk_Lost.f k d l m pl ch f) (false, chk12 d l m pl ch) := by
 refine Ev.congr (f := fun k => (risk_Check.f k d l m pl ch).bind fun e => if e = 0 then (if okPeril pl ch = true then (if f < 0 ∨ ((2 ^ ch.length : Nat) : Int) ≤ f then some (false, 1) else (code_Rows.f k d l m).bind fun r => if okRows r.1 = true then some (!canOf r.1 (leftUpto pl f.toNat pl.length), 0) else none) else none) else some (false, e)) (fun k => rfl) (Ev.bind (kchk_ev d l m pl ch hs hp hc) ?_)
 simp only [e, if_false]; exact Ev.now _
theorem klost_out {D M : Nat} {l : List (List Int)} {pl ch : List Int} (h : PerilOk D l M pl ch) (hs : Small l) {f : Int} (hf : f < 0 ∨ ((2 ^ ch.length : Nat) : Int) ≤ f) : Ev (fun k => risk_Lost.f k (D : Int) l (M : Int) pl ch f) (false, 1) := by
 have hb := (chk_ok h.code).bounds
 have hp := h.npl; have hn := h.nch
 refine Ev.congr (f := fun k => (risk_Check.f k (D : Int) l (M : Int) pl ch).bind fun e => if e = 0 then (if okPeril pl ch = true then (if f < 0 ∨ ((2 ^ ch.length : Nat) : Int) ≤ f then some (false, 1) else (code_Rows.f k (D : Int) l (M : Int)).bind fun r => if okRows r.1 = true then some (!canOf r.1 (leftUpto pl f.toNat pl.length), 0) else none) else none) else some (false, e)) (fun k => rfl) (Ev.bind (kchk_ev (D : Int) l (M : Int) pl ch hs (by omega) (by omega)) ?_)
 rw [h.chk]
 simp only [if_true, h.okp, hf]
 exact Ev.now _
/-- 16^n, as the code finds it. -/
theorem shl_total {n : Nat} (h : n ≤ 12) : shl .i64 1 (wrap64 (4 * (n : Int))) = ((16 ^ n : Nat) : Int) := by
 have e : (2 : Nat) ^ (4 * n) = 16 ^ n := by rw [Nat.pow_mul]
 have hp : 16 ^ n ≤ 16 ^ 12 := Nat.pow_le_pow_right (by decide) h
 have hsh := shl_i64_nat 1 (4 * n) (by omega) (by rw [Nat.one_mul, e]; exact Nat.lt_of_le_of_lt hp (by decide))
 rw [Nat.one_mul, e] at hsh
 rw [show wrap64 (4 * (n : Int)) = ((4 * n : Nat) : Int) by unfold wrap64; omega]
 exact hsh
theorem ktotal_err {d : Int} {l : List (List Int)} {m : Int} {pl ch : List Int} (hs : Small l) (hp : pl.length ≤ 1000) (hc : ch.length ≤ 1000) (e : chk12 d l m pl ch ≠ 0) : Ev (fun k => risk_Total.f k d l m pl ch) (0, chk12 d l m pl ch) := by
 refine Ev.congr (f := fun k => (risk_Check.f k d l m pl ch).bind fun t => if t = 0 then (if 0 ≤ (wrap64 (4 * (ch.length : Int))) then (some (shl .i64 1 (wrap64 (4 * (ch.length : Int))), 0)) else none) else some (0, t)) (fun k => rfl) (Ev.bind (kchk_ev d l m pl ch hs hp hc) ?_)
 simp only [e, if_false]; exact Ev.now _
theorem ktotal_ev {D M : Nat} {l : List (List Int)} {pl ch : List Int} (h : PerilOk D l M pl ch) (hs : Small l) : Ev (fun k => risk_Total.f k (D : Int) l (M : Int) pl ch) (((16 ^ ch.length : Nat) : Int), 0) := by
 have hb := (chk_ok h.code).bounds
 have hp := h.npl; have hn := h.nch
 refine Ev.congr (f := fun k => (risk_Check.f k (D : Int) l (M : Int) pl ch).bind fun t => if t = 0 then (if 0 ≤ (wrap64 (4 * (ch.length : Int))) then (some (shl .i64 1 (wrap64 (4 * (ch.length : Int))), 0)) else none) else some (0, t)) (fun k => rfl) (Ev.bind (kchk_ev (D : Int) l (M : Int) pl ch hs (by omega) (by omega)) ?_)
 rw [h.chk]
 simp only [if_true]
 rw [if_pos (by unfold wrap64; omega), shl_total hn]
 exact Ev.now _
/-! Millionths -/
theorem loss_bd9 {D M : Nat} {l : List (List Int)} {pl ch : List Int} (h : PerilOk D l M pl ch) (h9 : ch.length ≤ 9) : ∃ N : Nat, lossFor D l M pl ch = (N : Int) ∧ N ≤ 512 * 16 ^ ch.length := by
 have hw : ∀ g, 0 ≤ wtOf ch g ∧ wtOf ch g ≤ 16 ^ ch.length := fun g => wNat_bd h.chs g _ (Nat.le_refl _)
 have hs := lossSum_bd (los := losB (canN D l M) pl) hw (2 ^ ch.length)
 have h2 : 2 ^ ch.length ≤ 512 := Nat.pow_le_pow_right (n := 2) (by decide) h9
 have h0 := (hw 0)
 obtain ⟨N, hN⟩ := Int.eq_ofNat_of_zero_le hs.1
 refine ⟨N, hN, ?_⟩
 have h5 : lossSum (losB (canN D l M) pl) (wtOf ch) (2 ^ ch.length) ≤ 512 * (16 : Int) ^ ch.length := Int.le_trans hs.2 (Int.mul_le_mul_of_nonneg_right (by omega) (Int.le_trans h0.1 h0.2))
 rw [hN] at h5
 rw [show (16 : Int) ^ ch.length = ((16 ^ ch.length : Nat) : Int) by simp] at h5
 omega
/-- rounded up -/
def upDiv (X T : Nat) : Nat := (X + T - 1) / T
theorem up_eq {X T : Nat} (hT : 0 < T) : upDiv X T = X / T + (if 0 < X % T then 1 else 0) := by
 unfold upDiv
 have h1 := Nat.div_add_mod X T
 have h2 := Nat.mod_lt X hT
 generalize X / T = q at *
 generalize X % T = r at *
 subst h1
 by_cases h : 0 < r
 ·rw [if_pos h, show T * q + r + T - 1 = (r - 1) + T * (q + 1) by rw [Nat.mul_add]; omega, Nat.add_mul_div_left _ _ hT, Nat.div_eq_of_lt (by omega)]; omega
 ·rw [if_neg h, show T * q + r + T - 1 = (T - 1) + T * q by omega, Nat.add_mul_div_left _ _ hT, Nat.div_eq_of_lt (by omega)]; omega
theorem up_split (N T : Nat) (hT : 0 < T) : (N * 1000 / T) * 1000 + (N * 1000 % T * 1000 + T - 1) / T = upDiv (N * 1000000) T := by
 unfold upDiv
 have h1 := Nat.div_add_mod (N * 1000) T
 generalize N * 1000 / T = q at *
 generalize N * 1000 % T = r at *
 rw [show N * 1000000 + T - 1 = (r * 1000 + T - 1) + T * (q * 1000) by
  have : T * (q * 1000) = T * q * 1000 := by rw [Nat.mul_assoc]
  omega, Nat.add_mul_div_left _ _ hT, Nat.add_comm]
theorem tdiv_nat (a b : Nat) : Int.tdiv (a : Int) (b : Int) = ((a / b : Nat) : Int) := rfl
theorem tmod_nat (a b : Nat) : Int.tmod (a : Int) (b : Int) = ((a % b : Nat) : Int) := rfl
theorem div_le_of {N T c : Nat} (hT : 0 < T) (h : N ≤ c * T) : N / T ≤ c := by
 have := Nat.div_le_div_right (c := T) h
 rwa [Nat.mul_div_cancel _ hT] at this
theorem mil_val {N T : Nat} (hT : 0 < T) (hTb : T ≤ 68719476736) (hN : N ≤ 512 * T) :
  wrap64 ((wrap64 ((wrap64 (Int.tdiv (wrap64 ((N : Int) * 1000)) (T : Int))) * 1000)) + (wrap64 (Int.tdiv (wrap64 ((wrap64 ((wrap64 ((Int.tmod (wrap64 ((N : Int) * 1000)) (T : Int)) * 1000)) + (T : Int))) - 1)) (T : Int)))) = ((upDiv (N * 1000000) T : Nat) : Int) := by
 have e1 : wrap64 ((N : Int) * 1000) = ((N * 1000 : Nat) : Int) := by unfold wrap64; omega
 rw [e1, tdiv_nat, tmod_nat, ← up_split N T hT]
 have hq : N * 1000 / T ≤ 512000 := div_le_of hT (by omega)
 have hr := Nat.mod_lt (N * 1000) hT
 generalize N * 1000 / T = q at *
 generalize N * 1000 % T = r at *
 have e2 : wrap64 (wrap64 (wrap64 ((r : Int) * 1000) + (T : Int)) - 1) = ((r * 1000 + T - 1 : Nat) : Int) := by unfold wrap64; omega
 rw [e2, tdiv_nat]
 have hs : (r * 1000 + T - 1) / T ≤ 1001 := div_le_of hT (by omega)
 generalize (r * 1000 + T - 1) / T = s at *
 clear e1 e2
 unfold wrap64; omega
theorem kmil_at {k : Nat} {d : Int} {l : List (List Int)} {m : Int} {pl ch : List Int} {N T : Int} {u : Int × Int} (hL : risk_Loss.f k d l m pl ch = some u) (h1 : u.1 = N) (h2 : u.2 = 0) (hw0 : 0 ≤ wrap64 (4 * (ch.length : Int))) (hsh : shl .i64 1 (wrap64 (4 * (ch.length : Int))) = T) (hne : ¬ T = 0) :
  risk_Millionths.f k d l m pl ch = some (wrap64 ((wrap64 ((wrap64 (Int.tdiv (wrap64 (N * 1000)) T)) * 1000)) + (wrap64 (Int.tdiv (wrap64 ((wrap64 ((wrap64 ((Int.tmod (wrap64 (N * 1000)) T) * 1000)) + T)) - 1)) T))), 0) := by
 subst h1
 unfold risk_Millionths.f
 rw [hL, Option.bind_some, if_pos h2, if_pos hw0]
 generalize shl .i64 1 (wrap64 (4 * (ch.length : Int))) = z at hsh
 subst hsh
 rw [if_neg hne]
theorem four_pos {n : Nat} (h : n ≤ 9) : 0 ≤ wrap64 (4 * (n : Int)) := by unfold wrap64; omega
theorem kmil_ev {D M : Nat} {l : List (List Int)} {pl ch : List Int} (h : PerilOk D l M pl ch) (hs : Small l) (h9 : ch.length ≤ 9) {N : Nat} (hN : lossFor D l M pl ch = (N : Int)) (hNb : N ≤ 512 * 16 ^ ch.length) : Ev (fun k => risk_Millionths.f k (D : Int) l (M : Int) pl ch) (((upDiv (N * 1000000) (16 ^ ch.length) : Nat) : Int), 0) := by
 have hl := kloss_ev h hs
 rw [hN] at hl
 have hT : 0 < 16 ^ ch.length := Nat.pow_pos (by decide)
 have hTb : 16 ^ ch.length ≤ 68719476736 := Nat.pow_le_pow_right (n := 16) (by decide) h9
 have hsh := shl_total (n := ch.length) (Nat.le_trans h9 (by decide))
 have hw0 := four_pos h9
 generalize 16 ^ ch.length = T at *
 have hv := mil_val hT hTb hNb
 obtain ⟨K, hK⟩ := hl
 refine ⟨K, fun k hk => ?_⟩
 have h5 := kmil_at (hK k hk) rfl rfl hw0 hsh (fun hh => Nat.ne_of_gt hT (Int.ofNat_eq_zero.1 hh))
 dsimp only at h5
 rw [hv] at h5
 exact h5
theorem kmil_err {d : Int} {l : List (List Int)} {m : Int} {pl ch : List Int} (hs : Small l) (hp : pl.length ≤ 1000) (hc : ch.length ≤ 1000) (e : chk12 d l m pl ch ≠ 0) : Ev (fun k => risk_Millionths.f k d l m pl ch) (0, chk12 d l m pl ch) := by
 have hl := kloss_all d l m pl ch hs hp hc
 rw [lossV_err e] at hl
 obtain ⟨K, hK⟩ := hl
 refine ⟨K, fun k hk => ?_⟩
 show (risk_Millionths.f k d l m pl ch) = _
 unfold risk_Millionths.f
 rw [show risk_Loss.f k d l m pl ch = _ from hK k hk]
 simp only [Option.bind_some, e, if_false]
theorem mil_step {q s z : Nat} (h : q * 10 + s ≤ 512 * z) (hz : z ≤ 1000000) : wrap64 (wrap64 ((q : Int) * 10) + wrap64 (s : Int)) = ((q * 10 + s : Nat) : Int) := by unfold wrap64; omega
theorem mil_rest {r T : Nat} (hr : r < T) (hTb : T ≤ 68719476736) : wrap64 ((r : Int) * 10) = ((r * 10 : Nat) : Int) := by unfold wrap64; omega
theorem rmil_from {N T : Nat} (hT : 0 < T) (hTb : T ≤ 68719476736) (hN : N ≤ 512 * T) : ∀ n i Q : Nat, i + n = 6 → Q = N * 10 ^ i → Q / T ≤ 512 * 10 ^ i → Ev (fun k => quietusref12_Millionths.l0 k (T : Int) ((Q / T : Nat) : Int) ((Q % T : Nat) : Int) (i : Int)) (((upDiv (N * 1000000) T : Nat) : Int), 0) := by
 intro n
 induction n with
 | zero =>
  intro i Q hi hQ hq
  obtain rfl : i = 6 := by omega
  have hQ6 : N * 1000000 = Q := hQ.symm
  rw [hQ6, up_eq hT]
  have h6 : (512 : Nat) * 10 ^ 6 = 512000000 := by decide
  by_cases h0 : 0 < Q % T
  ·rw [if_pos h0]
   refine Ev.step (f := fun _ => some (wrap64 (((Q / T : Nat) : Int) + 1), 0)) (fun k => ?_) (ev_eq (Ev.now _) (by rw [wrap_succ (by omega)]))
   simp only [quietusref12_Millionths.l0]; rw [if_neg (by decide), if_pos (by omega)]
  ·rw [if_neg h0]
   refine Ev.step (f := fun _ => some (((Q / T : Nat) : Int), 0)) (fun k => ?_) (ev_eq (Ev.now _) (by rw [Nat.add_zero]))
   simp only [quietusref12_Millionths.l0]; rw [if_neg (by decide), if_neg (by omega)]
 | succ n ih =>
  intro i Q hi hQ hq
  have hr := Nat.mod_lt Q hT
  have hdm := Nat.div_add_mod Q T
  have e1 : Q * 10 / T = Q / T * 10 + Q % T * 10 / T := by
   rw [show Q * 10 = Q % T * 10 + T * (Q / T * 10) by
    have : T * (Q / T * 10) = T * (Q / T) * 10 := by rw [Nat.mul_assoc]
    omega, Nat.add_mul_div_left _ _ hT, Nat.add_comm]
  have e2 : Q * 10 % T = Q % T * 10 % T := by rw [Nat.mod_mul_mod]
  have hp : 10 ^ (i + 1) = 10 ^ i * 10 := Nat.pow_succ ..
  have hp6 : 10 ^ (i + 1) ≤ 10 ^ 6 := Nat.pow_le_pow_right (by decide) (by omega)
  have h6 : (10 : Nat) ^ 6 = 1000000 := by decide
  have hd : Q % T * 10 / T ≤ 10 := div_le_of hT (by omega)
  have hd9 : Q % T * 10 / T < 10 := (Nat.div_lt_iff_lt_mul hT).2 (by omega)
  have hnx : Q * 10 / T ≤ 512 * 10 ^ (i + 1) := by
   refine div_le_of hT ?_
   rw [hQ]
   have h7 : N * 10 ^ i * 10 = N * 10 ^ (i + 1) := by rw [hp, Nat.mul_assoc]
   rw [h7]
   have h8 := Nat.mul_le_mul_right (10 ^ (i + 1)) hN
   rw [show 512 * 10 ^ (i + 1) * T = 512 * T * 10 ^ (i + 1) by rw [Nat.mul_assoc, Nat.mul_comm (10 ^ (i + 1)) T, ← Nat.mul_assoc]]
   exact h8
  refine Ev.step (f := fun k => quietusref12_Millionths.l0 k (T : Int) ((Q * 10 / T : Nat) : Int) ((Q * 10 % T : Nat) : Int) ((i + 1 : Nat) : Int)) (fun k => ?_) (ih (i + 1) (Q * 10) (by omega) (by rw [hQ, hp, Nat.mul_assoc]) hnx)
  simp only [quietusref12_Millionths.l0]
  rw [if_pos (by omega), if_neg (by omega), wrap_succ (by omega), mil_rest hr hTb, tdiv_nat, tmod_nat, e1, e2]
  rw [e1] at hnx
  rw [mil_step hnx (by rw [← h6]; exact hp6)]
theorem rmil_ev {D M : Nat} {l : List (List Int)} {pl ch : List Int} (h : PerilOk D l M pl ch) (hs : Small l) (h9 : ch.length ≤ 9) {N : Nat} (hN : lossFor D l M pl ch = (N : Int)) (hNb : N ≤ 512 * 16 ^ ch.length) : Ev (fun k => quietusref12_Millionths.f k (D : Int) l (M : Int) pl ch) (((upDiv (N * 1000000) (16 ^ ch.length) : Nat) : Int), 0) := by
 have hl := rloss_ev h hs
 rw [hN] at hl
 have hT : 0 < 16 ^ ch.length := Nat.pow_pos (by decide)
 have hTb : 16 ^ ch.length ≤ 68719476736 := Nat.pow_le_pow_right (n := 16) (by decide) h9
 have hq := div_le_of hT hNb
 have hpw := rpow_ev (N := ch.length) (by omega)
 refine Ev.congr (f := fun k => (quietusref12_Loss.f k (D : Int) l (M : Int) pl ch).bind fun bt => (if bt.2 = 0 then ((quietusref12_Power.f k (ch.length : Int)).bind fun t => (if t = 0 then none else (quietusref12_Millionths.l0 k t (wrap64 (Int.tdiv bt.1 t)) (Int.tmod bt.1 t) 0))) else (some (bt.1, bt.2)))) (fun k => rfl) (Ev.bind hl ?_)
 simp only [if_true]
 refine Ev.bind hpw ?_
 generalize 16 ^ ch.length = T at *
 refine Ev.congr (f := fun k => quietusref12_Millionths.l0 k (T : Int) ((N / T : Nat) : Int) ((N % T : Nat) : Int) ((0 : Nat) : Int)) (fun k => ?_) (rmil_from hT hTb hNb 6 0 N rfl (by simp) (by simpa using hq))
 rw [if_neg (by omega), tdiv_nat, tmod_nat, wrap_nat (by omega)]
 rfl
theorem rmil_err {d : Int} {l : List (List Int)} {m : Int} {pl ch : List Int} (hs : Small l) (hp : pl.length ≤ 1000) (hc : ch.length ≤ 1000) (e : chk12 d l m pl ch ≠ 0) : Ev (fun k => quietusref12_Millionths.f k d l m pl ch) (0, chk12 d l m pl ch) := by
 have hl := rloss_all d l m pl ch hs hp hc
 rw [lossV_err e] at hl
 obtain ⟨K, hK⟩ := hl
 refine ⟨K, fun k hk => ?_⟩
 show (quietusref12_Millionths.f k d l m pl ch) = _
 unfold quietusref12_Millionths.f
 rw [show quietusref12_Loss.f k d l m pl ch = _ from hK k hk]
 simp only [Option.bind_some, e, if_false]
/-! Compare -/
def cmpV (x y : Int × Int) (n m : Nat) : Int × Int :=
 if x.2 = 0 then (if y.2 = 0 then (if wrap64 (x.1 * ((16 ^ (max n m - n) : Nat) : Int)) < wrap64 (y.1 * ((16 ^ (max n m - m) : Nat) : Int)) then (-1, 0) else if wrap64 (y.1 * ((16 ^ (max n m - m) : Nat) : Int)) < wrap64 (x.1 * ((16 ^ (max n m - n) : Nat) : Int)) then (1, 0) else (0, 0)) else (0, y.2)) else (0, x.2)
theorem lossV_fst {d : Int} {l : List (List Int)} {m : Int} {pl ch : List Int} (h : (lossV d l m pl ch).2 ≠ 0) : lossV d l m pl ch = (0, (lossV d l m pl ch).2) := by
 by_cases e : chk12 d l m pl ch = 0
 ·exact absurd (by unfold lossV; rw [if_pos e]) h
 ·rw [lossV_err e]
theorem lossV_bd {d : Int} {l : List (List Int)} {m : Int} {pl ch : List Int} (h9 : ch.length ≤ 9) : ∃ N : Nat, (lossV d l m pl ch).1 = (N : Int) ∧ N ≤ 512 * 68719476736 := by
 by_cases e : chk12 d l m pl ch = 0
 ·obtain ⟨D, M, rfl, rfl, hok⟩ := chk12_ok e
  rw [lossV_ok hok]
  obtain ⟨N, hN, hb⟩ := loss_bd9 hok h9
  have hTb : 16 ^ ch.length ≤ 68719476736 := Nat.pow_le_pow_right (n := 16) (by decide) h9
  exact ⟨N, hN, by omega⟩
 ·rw [lossV_err e]; exact ⟨0, rfl, by decide⟩
theorem rcmp_ev (d : Int) (l : List (List Int)) (m : Int) (pl ch : List Int) (hs : Small l) (hp : pl.length ≤ 1000) (hc : ch.length ≤ 9) (d2 : Int) (l2 : List (List Int)) (m2 : Int) (pl2 ch2 : List Int) (hs2 : Small l2) (hp2 : pl2.length ≤ 1000) (hc2 : ch2.length ≤ 9) :
  Ev (fun k => quietusref12_Compare.f k d l m pl ch d2 l2 m2 pl2 ch2) (cmpV (lossV d l m pl ch) (lossV d2 l2 m2 pl2 ch2) ch.length ch2.length) := by
 refine Ev.congr (f := fun k => (quietusref12_Loss.f k d l m pl ch).bind fun x => if x.2 = 0 then ((quietusref12_Loss.f k d2 l2 m2 pl2 ch2).bind fun y => if y.2 = 0 then (if ch.length ≤ 1000 ∧ ch2.length ≤ 1000 then
  ((quietusref12_Power.f k ((max ch.length ch2.length - ch.length : Nat) : Int)).bind fun p => (quietusref12_Power.f k ((max ch.length ch2.length - ch2.length : Nat) : Int)).bind fun q =>
   if wrap64 (x.1 * p) < wrap64 (y.1 * q) then some (-1, 0) else if wrap64 (y.1 * q) < wrap64 (x.1 * p) then some (1, 0) else some (0, 0)) else none) else some y) else some x) (fun k => rfl) (Ev.bind (rloss_all d l m pl ch hs hp (by omega)) ?_)
 unfold cmpV
 by_cases e1 : (lossV d l m pl ch).2 = 0
 ·simp only [e1, if_true]
  refine Ev.bind (rloss_all d2 l2 m2 pl2 ch2 hs2 hp2 (by omega)) ?_
  by_cases e2 : (lossV d2 l2 m2 pl2 ch2).2 = 0
  ·simp only [e2, if_true]
   refine Ev.congr (f := fun k => (quietusref12_Power.f k ((max ch.length ch2.length - ch.length : Nat) : Int)).bind fun p => (quietusref12_Power.f k ((max ch.length ch2.length - ch2.length : Nat) : Int)).bind fun q =>
    if wrap64 ((lossV d l m pl ch).1 * p) < wrap64 ((lossV d2 l2 m2 pl2 ch2).1 * q) then some (-1, 0) else if wrap64 ((lossV d2 l2 m2 pl2 ch2).1 * q) < wrap64 ((lossV d l m pl ch).1 * p) then some (1, 0) else some (0, 0)) (fun k => by rw [if_pos ⟨by omega, by omega⟩]) (Ev.bind (rpow_ev (by omega)) (Ev.bind (rpow_ev (by omega)) ?_))
   refine Ev.congr (f := fun _ => some _) (fun k => ?_) (Ev.now _)
   split
   ·rfl
   ·split <;> rfl
  ·simp only [e2, if_false]
   exact ev_eq (Ev.now _) (lossV_fst e2)
 ·simp only [e1, if_false]
  exact ev_eq (Ev.now _) (lossV_fst e1)
theorem shl_16 (x : Int) {a : Nat} (ha : a ≤ 9) : shl .i64 x (wrap64 (4 * (a : Int))) = wrap64 (x * ((16 ^ a : Nat) : Int)) := by
 rw [show wrap64 (4 * (a : Int)) = ((4 * a : Nat) : Int) by unfold wrap64; omega]
 unfold shl
 rw [show min ((4 * a : Nat) : Int).toNat IntKind.i64.bits = 4 * a by simp [IntKind.bits]; omega, IntKind.wrap_i64]
 rw [show (2 : Int) ^ (4 * a) = ((16 ^ a : Nat) : Int) by rw [Int.pow_mul]; simp]
 generalize x * ((16 ^ a : Nat) : Int) = z
 unfold wrap64; omega
theorem kcmp_ev (d : Int) (l : List (List Int)) (m : Int) (pl ch : List Int) (hs : Small l) (hp : pl.length ≤ 1000) (hc : ch.length ≤ 9) (d2 : Int) (l2 : List (List Int)) (m2 : Int) (pl2 ch2 : List Int) (hs2 : Small l2) (hp2 : pl2.length ≤ 1000) (hc2 : ch2.length ≤ 9) :
  Ev (fun k => risk_Compare.f k d l m pl ch d2 l2 m2 pl2 ch2) (cmpV (lossV d l m pl ch) (lossV d2 l2 m2 pl2 ch2) ch.length ch2.length) := by
 obtain ⟨N1, hN1, hb1⟩ := lossV_bd (d := d) (l := l) (m := m) (pl := pl) hc
 obtain ⟨N2, hN2, hb2⟩ := lossV_bd (d := d2) (l := l2) (m := m2) (pl := pl2) hc2
 have h1 := kloss_all d l m pl ch hs hp (by omega)
 have h2 := kloss_all d2 l2 m2 pl2 ch2 hs2 hp2 (by omega)
 generalize lossV d l m pl ch = x at *
 generalize lossV d2 l2 m2 pl2 ch2 = y at *
 obtain ⟨x1, x2⟩ := x
 obtain ⟨y1, y2⟩ := y
 simp only at hN1 hN2
 subst hN1 hN2
 have hj : ∀ a b : Int, Ev (fun k => risk_Compare.j0 k a b) (if a < b then (-1, 0) else if b < a then (1, 0) else (0, 0)) := fun a b => by
  refine Ev.step (f := fun _ => some (if a < b then (-1, 0) else if b < a then (1, 0) else (0, 0))) (fun k => ?_) (Ev.now _)
  simp only [risk_Compare.j0]
  split
  ·rfl
  ·by_cases hh : b < a
   ·rw [if_pos hh, if_pos (by omega)]
   ·rw [if_neg hh, if_neg (by omega)]
 have key : ∀ k, risk_Compare.f k d l m pl ch d2 l2 m2 pl2 ch2 = (risk_Loss.f k d l m pl ch).bind fun u => if u.2 = 0 then ((risk_Loss.f k d2 l2 m2 pl2 ch2).bind fun v => if v.2 = 0 then (if ch.length < ch2.length then risk_Compare.j0 k (wrap64 (u.1 * ((16 ^ (ch2.length - ch.length) : Nat) : Int))) v.1 else risk_Compare.j0 k u.1 (wrap64 (v.1 * ((16 ^ (ch.length - ch2.length) : Nat) : Int)))) else some (0, v.2)) else some (0, u.2) := fun k => by
  unfold risk_Compare.f
  congr 1; funext u
  by_cases e1 : u.2 = 0
  ·simp only [e1, if_true]
   congr 1; funext v
   by_cases e2 : v.2 = 0
   ·simp only [e2, if_true]
    by_cases hlt : ch.length < ch2.length
    ·have ew : wrap64 ((-4) * (wrap64 ((ch.length : Int) - (ch2.length : Int)))) = wrap64 (4 * ((ch2.length - ch.length : Nat) : Int)) := by unfold wrap64; omega
     rw [if_pos hlt, if_pos (by unfold wrap64; omega), ew, if_pos (by unfold wrap64; omega), shl_16 u.1 (by omega)]
    ·have ew : wrap64 (4 * (wrap64 ((ch.length : Int) - (ch2.length : Int)))) = wrap64 (4 * ((ch.length - ch2.length : Nat) : Int)) := by unfold wrap64; omega
     rw [if_neg hlt, if_neg (by unfold wrap64; omega), ew, if_pos (by unfold wrap64; omega), shl_16 v.1 (by omega)]
   ·simp only [e2, if_false]
  ·simp only [e1, if_false]
 refine Ev.congr key (Ev.bind h1 ?_)
 unfold cmpV
 by_cases e1 : x2 = 0
 ·simp only [e1, if_true]
  refine Ev.bind h2 ?_
  by_cases e2 : y2 = 0
  ·simp only [e2, if_true]
   by_cases hlt : ch.length < ch2.length
   ·simp only [if_pos hlt]
    rw [show max ch.length ch2.length - ch2.length = 0 by omega, show max ch.length ch2.length - ch.length = ch2.length - ch.length by omega]
    rw [show wrap64 ((N2 : Int) * ((16 ^ 0 : Nat) : Int)) = (N2 : Int) by rw [Nat.pow_zero]; unfold wrap64; omega]
    exact hj _ _
   ·simp only [if_neg hlt]
    rw [show max ch.length ch2.length - ch.length = 0 by omega, show max ch.length ch2.length - ch2.length = ch.length - ch2.length by omega]
    rw [show wrap64 ((N1 : Int) * ((16 ^ 0 : Nat) : Int)) = (N1 : Int) by rw [Nat.pow_zero]; unfold wrap64; omega]
    exact hj _ _
  ·simp only [e2, if_false]; exact Ev.now _
 ·simp only [e1, if_false]; exact Ev.now _
set_option maxHeartbeats 1000000 in
set_option maxRecDepth 100000 in
theorem spec_walk (d : Int) (A : Option Addr) (c : Nat) (l : List (List Int)) (m : Int) (Aa : Option Addr) (ca : Nat) (pl : List Int) (Ac : Option Addr) (cc : Nat) (ch : List Int) (d2 : Int) (A2 : Option Addr) (c2 : Nat) (l2 : List (List Int)) (m2 : Int) (Aa2 : Option Addr) (ca2 : Nat) (pl2 : List Int) (Ac2 : Option Addr) (cc2 : Nat) (ch2 : List Int) (failed : Int) (w : World) (hG : HG w)
  (hC : Kd.C (Kd.slice 3 (Kd.int .i64)) w A l.length l) (hc : l.length ≤ c) (hP : (Kd.int .i64).C w Aa pl.length pl) (hca : pl.length ≤ ca) (hH : (Kd.int .i64).C w Ac ch.length ch) (hcc : ch.length ≤ cc)
  (hC2 : Kd.C (Kd.slice 3 (Kd.int .i64)) w A2 l2.length l2) (hc2 : l2.length ≤ c2) (hP2 : (Kd.int .i64).C w Aa2 pl2.length pl2) (hca2 : pl2.length ≤ ca2) (hH2 : (Kd.int .i64).C w Ac2 ch2.length ch2) (hcc2 : ch2.length ≤ cc2) :
  Calls Tryd.prog 8 #[.agg #[.int .i64 d, .slice A l.length c, .int .i64 m, .slice Aa pl.length ca, .slice Ac ch.length cc], .agg #[.int .i64 d2, .slice A2 l2.length c2, .int .i64 m2, .slice Aa2 pl2.length ca2, .slice Ac2 ch2.length cc2], .int .i64 failed] w fun e w' => e = .returned (.bool true) ∧ Below w.heap.size w w' := by
 obtain ⟨K1, f1⟩ := few12_ev d l m pl ch 9
 obtain ⟨K2, f2⟩ := few12_ev d2 l2 m2 pl2 ch2 9
 cases hf : (fewB12 l pl ch 9 && fewB12 l2 pl2 ch2 9) with
 | false => exact law12_spec.aside (K1 + K2) d A c l m Aa ca pl Ac cc ch d2 A2 c2 l2 m2 Aa2 ca2 pl2 Ac2 cc2 ch2 failed _ _ w hG hC hc hP hca hH hcc hC2 hc2 hP2 hca2 hH2 hcc2 (f1 _ (by omega)) (f2 _ (by omega)) hf
 | true =>
  obtain ⟨hf1, hf2⟩ := (Bool.and_eq_true _ _).mp hf
  rw [hf1] at f1
  rw [hf2] at f2
  obtain ⟨hs, hp, h9⟩ := few_err hf1
  obtain ⟨hs2, hp2, h92⟩ := few_err hf2
  obtain ⟨K3, e3⟩ := kchk_ev d l m pl ch hs hp (by omega)
  obtain ⟨K4, e4⟩ := rck12_ev d l m pl ch hs hp (by omega)
  obtain ⟨K5, e5⟩ := kloss_all d l m pl ch hs hp (by omega)
  obtain ⟨K6, e6⟩ := rloss_all d l m pl ch hs hp (by omega)
  obtain ⟨K7, e7⟩ := kcmp_ev d l m pl ch hs hp h9 d2 l2 m2 pl2 ch2 hs2 hp2 h92
  obtain ⟨K8, e8⟩ := rcmp_ev d l m pl ch hs hp h9 d2 l2 m2 pl2 ch2 hs2 hp2 h92
  obtain ⟨k0, hk0⟩ : ∃ k0, k0 = K1 + K2 + K3 + K4 + K5 + K6 + K7 + K8 := ⟨_, rfl⟩
  by_cases he : chk12 d l m pl ch = 0
  ·obtain ⟨D, M, rfl, rfl, hok⟩ := chk12_ok he
   obtain ⟨N, hN, hNb⟩ := loss_bd9 hok h9
   obtain ⟨L1, t1⟩ := ktotal_ev hok hs
   obtain ⟨L2, t2⟩ := kleast_ev hok hs
   obtain ⟨L3, t3⟩ := rleast_ev hok hs h9
   obtain ⟨L4, t4⟩ := kmil_ev hok hs h9 hN hNb
   obtain ⟨L5, t5⟩ := rmil_ev hok hs h9 hN hNb
   obtain ⟨L6, t6⟩ := rpow_ev (N := ch.length) (by omega)
   rw [he] at e3 e4
   by_cases hout : failed < 0 ∨ ((2 ^ ch.length : Nat) : Int) ≤ failed
   ·obtain ⟨L7, t7⟩ := klost_out hok hs hout
    obtain ⟨k, hk⟩ : ∃ k, k = k0 + L1 + L2 + L3 + L4 + L5 + L6 + L7 := ⟨_, rfl⟩
    exact law12_spec.main k (D : Int) A c l (M : Int) Aa ca pl Ac cc ch d2 A2 c2 l2 m2 Aa2 ca2 pl2 Ac2 cc2 ch2 failed 0 _ _ _ _ _ _ _ _ _ _ _ w hG hC hc hP hca hH hcc hC2 hc2 hP2 hca2 hH2 hcc2 (f1 k (by omega)) (f2 k (by omega)) (e4 k (by omega)) (e3 k (by omega)) (t1 k (by omega)) (t7 k (by omega)) (e5 k (by omega)) (t2 k (by omega)) (e7 k (by omega)) (t4 k (by omega)) (e6 k (by omega)) (t3 k (by omega)) (e8 k (by omega)) (t5 k (by omega)) (.inr ⟨rfl, by omega, t6 k (by omega), .inl ⟨hout, rfl, rfl⟩⟩)
   ·obtain ⟨f, rfl⟩ := Int.eq_ofNat_of_zero_le (show 0 ≤ failed by omega)
    obtain ⟨L7, t7⟩ := klost_ev hok hs (show f < 2 ^ ch.length by omega)
    have h12 : 2 ^ ch.length ≤ 512 := Nat.pow_le_pow_right (n := 2) (by decide) h9
    obtain ⟨L8, t8⟩ := rloses_ev hok hs f (Nat.lt_of_lt_of_le (show f < 512 by omega) (by decide))
    obtain ⟨k, hk⟩ : ∃ k, k = k0 + L1 + L2 + L3 + L4 + L5 + L6 + L7 + L8 := ⟨_, rfl⟩
    exact law12_spec.main k (D : Int) A c l (M : Int) Aa ca pl Ac cc ch d2 A2 c2 l2 m2 Aa2 ca2 pl2 Ac2 cc2 ch2 (f : Int) 0 _ _ _ _ _ _ _ _ _ _ _ w hG hC hc hP hca hH hcc hC2 hc2 hP2 hca2 hH2 hcc2 (f1 k (by omega)) (f2 k (by omega)) (e4 k (by omega)) (e3 k (by omega)) (t1 k (by omega)) (t7 k (by omega)) (e5 k (by omega)) (t2 k (by omega)) (e7 k (by omega)) (t4 k (by omega)) (e6 k (by omega)) (t3 k (by omega)) (e8 k (by omega)) (t5 k (by omega)) (.inr ⟨rfl, by omega, t6 k (by omega), .inr ⟨by omega, by omega, rfl, t8 k (by omega)⟩⟩)
  ·obtain ⟨L1, t1⟩ := ktotal_err hs hp (by omega) he
   obtain ⟨L2, t2⟩ := kleast_err hs hp (by omega) he
   obtain ⟨L3, t3⟩ := rleast_err hs hp (by omega) he
   obtain ⟨L4, t4⟩ := kmil_err hs hp (by omega) he
   obtain ⟨L5, t5⟩ := rmil_err hs hp (by omega) he
   obtain ⟨L7, t7⟩ := klost_err failed hs hp (by omega) he
   obtain ⟨k, hk⟩ : ∃ k, k = k0 + L1 + L2 + L3 + L4 + L5 + L7 := ⟨_, rfl⟩
   exact law12_spec.main k d A c l m Aa ca pl Ac cc ch d2 A2 c2 l2 m2 Aa2 ca2 pl2 Ac2 cc2 ch2 failed _ _ _ _ _ _ _ _ _ _ _ _ w hG hC hc hP hca hH hcc hC2 hc2 hP2 hca2 hH2 hcc2 (f1 k (by omega)) (f2 k (by omega)) (e4 k (by omega)) (e3 k (by omega)) (t1 k (by omega)) (t7 k (by omega)) (e5 k (by omega)) (t2 k (by omega)) (e7 k (by omega)) (t4 k (by omega)) (e6 k (by omega)) (t3 k (by omega)) (e8 k (by omega)) (t5 k (by omega)) (.inl ⟨he, rfl, rfl, rfl⟩)
end Go.Proofs.YtkadfidmfnpohaaDoor.XB
