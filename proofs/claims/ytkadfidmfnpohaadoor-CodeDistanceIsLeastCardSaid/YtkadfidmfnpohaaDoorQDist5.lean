/- Lemmas for the claim Dist: functions of the program as plain Lean functions, each with its contract, and what is proved of them. -/
import Derived.Test.YtkadfidmfnpohaaDoorQDist1
import Derived.Test.YtkadfidmfnpohaaDoorQDist3
import Derived.Test.YtkadfidmfnpohaaDoorQDist4
import Derived.Test.YtkadfidmfnpohaaDoorQDist2
namespace Go.Proofs.YtkadfidmfnpohaaDoor.XB
open Go.RowKit Go.Proofs.YtkadfidmfnpohaaDoorW.PrintWords Go.Proofs.YtkadfidmfnpohaaDoorW.PrintLast Go.Proofs.YtkadfidmfnpohaaDoorW.PrintMore
set_option linter.unusedVariables false
set_option linter.unusedSimpArgs false
def Lead1 (st : St) : Prop := ∀ x ∈ st, rd x.1 ((fstIdx x.1 : Nat) : Int) = 1
def Cleared (st : St) : Prop := st.Pairwise fun a b => rd b.1 ((fstIdx a.1 : Nat) : Int) = 0
theorem redStep_row {w : Nat} {a x : List Int × ByteArray} (ha : RowB w a.1) (hx : RowB w x.1) (hf : fstIdx x.1 < w) : RowB w (redStep a x).1 := by
 unfold redStep
 split
 ·exact ha
 ·exact ⟨all_isB_sub ha.1 (ha.at hf), by rw [subRow_length]; exact ha.2⟩
theorem redStep_dot {w : Nat} {a x : List Int × ByteArray} {v : Vec} (ha : RowB w a.1) (hx : RowB w x.1) (hf : fstIdx x.1 < w) (hv : IsV v) (h0 : dotU x.1 v w = 0) : dotU (redStep a x).1 v w = dotU a.1 v w := by
 unfold redStep
 split
 ·rfl
 ·show dotU (subRow _ x.1 a.1) v w = _
  rw [dotU_sub (ha.at hf) ha hx hv w (Nat.le_refl _), h0, imul_zero_right, ixor_zero_right (dotU_isB ha w (Nat.le_refl _))]
theorem redStep_at {w : Nat} {a x : List Int × ByteArray} (ha : RowB w a.1) (hx : RowB w x.1) (hf : fstIdx x.1 < w) (h1 : rd x.1 ((fstIdx x.1 : Nat) : Int) = 1) :
  rd (redStep a x).1 ((fstIdx x.1 : Nat) : Int) = 0 ∧ ∀ z, z < w → rd x.1 (z : Int) = 0 → rd a.1 (z : Int) = 0 → rd (redStep a x).1 (z : Int) = 0 := by
 unfold redStep
 split
 ·rename_i h; exact ⟨h, fun z _ _ h => h⟩
 ·have key : ∀ z, z < w → rd (subRow (rd a.1 ((fstIdx x.1 : Nat) : Int)) x.1 a.1) (z : Int) = ixor (rd a.1 (z : Int)) (imul (rd a.1 ((fstIdx x.1 : Nat) : Int)) (rd x.1 (z : Int))) := by
   intro z hz
   rw [rdi (by rw [subRow_length, ha.2]; exact hz)]
   simp [subRow]
  refine ⟨?_, fun z hz h2 h3 => ?_⟩
  ·show rd (subRow _ x.1 a.1) _ = 0
   rw [key _ hf, h1, imul_comm (ha.at hf) rfl, imul_one_left (ha.at hf), ixor_self]
  ·show rd (subRow _ x.1 a.1) _ = 0
   rw [key z hz, h2, h3, imul_zero_right]
   rfl
theorem redRow_row {w : Nat} : ∀ {st : St} {a}, (∀ x ∈ st, RowB w x.1 ∧ fstIdx x.1 < w) → RowB w a.1 → RowB w (redRow st a).1
 | [], _, _, ha => ha
 | x :: st, a, h, ha => redRow_row (st := st) (fun y hy => h y (List.mem_cons_of_mem _ hy)) (redStep_row ha (h x List.mem_cons_self).1 (h x List.mem_cons_self).2)
theorem redRow_dot {w : Nat} {v : Vec} (hv : IsV v) : ∀ {st : St} {a}, (∀ x ∈ st, RowB w x.1 ∧ fstIdx x.1 < w) → RowB w a.1 → (∀ x ∈ st, dotU x.1 v w = 0) → dotU (redRow st a).1 v w = dotU a.1 v w
 | [], _, _, _, _ => rfl
 | x :: st, a, h, ha, h0 => by
  have hx := h x List.mem_cons_self
  have e := redRow_dot hv (st := st) (a := redStep a x) (fun y hy => h y (List.mem_cons_of_mem _ hy)) (redStep_row ha hx.1 hx.2) (fun y hy => h0 y (List.mem_cons_of_mem _ hy))
  exact e.trans (redStep_dot ha hx.1 hx.2 hv (h0 x List.mem_cons_self))
theorem redRow_at {w : Nat} : ∀ {st : St} {a} (Z : Nat → Prop), (∀ x ∈ st, RowB w x.1 ∧ fstIdx x.1 < w) → Lead1 st → Cleared st → RowB w a.1 → (∀ z, Z z → z < w ∧ rd a.1 (z : Int) = 0 ∧ ∀ x ∈ st, rd x.1 (z : Int) = 0) →
  (∀ z, Z z → rd (redRow st a).1 (z : Int) = 0) ∧ ∀ x ∈ st, rd (redRow st a).1 ((fstIdx x.1 : Nat) : Int) = 0
 | [], _, _, _, _, _, _, hZ => ⟨fun z hz => (hZ z hz).2.1, fun x hx => by cases hx⟩
 | x :: st, a, Z, h, h1, hc, ha, hZ => by
  have hx := h x List.mem_cons_self
  have hcl := List.pairwise_cons.1 hc
  have hs := redStep_at ha hx.1 hx.2 (h1 x List.mem_cons_self)
  obtain ⟨e1, e2⟩ := redRow_at (st := st) (a := redStep a x) (fun z => Z z ∨ z = fstIdx x.1) (fun y hy => h y (List.mem_cons_of_mem _ hy)) (fun y hy => h1 y (List.mem_cons_of_mem _ hy)) hcl.2 (redStep_row ha hx.1 hx.2) (fun z hz => by
   rcases hz with hz | rfl
   ·obtain ⟨h2, h3, h4⟩ := hZ z hz
    exact ⟨h2, hs.2 z h2 (h4 x List.mem_cons_self) h3, fun y hy => h4 y (List.mem_cons_of_mem _ hy)⟩
   ·exact ⟨hx.2, hs.1, fun y hy => hcl.1 y hy⟩)
  refine ⟨fun z hz => e1 z (.inl hz), fun y hy => ?_⟩
  rcases List.mem_cons.1 hy with rfl | hy
  ·exact e1 _ (.inr rfl)
  ·exact e2 y hy
structure Stairs (w : Nat) (st : St) : Prop where
 rows : ∀ x ∈ st, RowB w x.1 ∧ fstIdx x.1 < w
 apart : (st.map fun x => fstIdx x.1).Nodup
 one : Lead1 st
 clear : Cleared st
theorem Stairs.leads {w : Nat} {st : St} (h : Stairs w st) : Leads w (st.map Prod.fst) :=
 ⟨fun r hr => by obtain ⟨x, hx, rfl⟩ := List.mem_map.1 hr; exact h.rows x hx, by rw [List.map_map]; exact h.apart⟩
theorem Stairs.nil (w : Nat) : Stairs w [] := ⟨fun x hx => (by cases hx), List.nodup_nil, fun x hx => (by cases hx), List.Pairwise.nil⟩
/-- A row more. -/
theorem addSt_some {w : Nat} {st : St} (h : Stairs w st) {row : List Int} {part : ByteArray} (hr : RowB w row) {x} (he : addSt st row part = some x) :
  Stairs w (st ++ [x]) ∧ ∀ v, IsV v → (∀ y ∈ st, dotU y.1 v w = 0) → (dotU x.1 v w = 0 ↔ dotU row v w = 0) := by
 have hB := redRow_row (a := (row, part)) h.rows hr
 have hat := (redRow_at (a := (row, part)) (fun _ => False) h.rows h.one h.clear hr (fun z hz => hz.elim)).2
 have hdot := fun v hv h0 => redRow_dot (v := v) hv (a := (row, part)) h.rows hr h0
 unfold addSt at he
 generalize redRow st (row, part) = rr at *
 obtain ⟨r, q⟩ := rr
 dsimp only at *
 by_cases e : fstIdx r = r.length
 ·rw [if_pos e] at he; cases he
 ·rw [if_neg e] at he
  obtain rfl := (Option.some.inj he).symm
  have hfl : fstIdx r < r.length := by have := fstIdx_le r; omega
  have hfw : fstIdx r < w := by rw [← hB.2]; exact hfl
  have hne := fst_ne r hfl
  have hrf := hB.at hfw
  have hcB : isB (iinv (rd r ((fstIdx r : Nat) : Int))) = true := isB_inv _
  have hget : ∀ z, z < w → rd (mulRow (iinv (rd r ((fstIdx r : Nat) : Int))) r) (z : Int) = imul (iinv (rd r ((fstIdx r : Nat) : Int))) (rd r (z : Int)) := by
   intro z hz
   rw [rdi (by rw [mulRow_length, hB.2]; exact hz)]
   simp [mulRow]
  have hone : rd (mulRow (iinv (rd r ((fstIdx r : Nat) : Int))) r) ((fstIdx r : Nat) : Int) = 1 := by rw [hget _ hfw, imul_inv hrf hne]
  have hfst : fstIdx (mulRow (iinv (rd r ((fstIdx r : Nat) : Int))) r) = fstIdx r := by
   refine fst_of (by rw [mulRow_length]; exact hfl) (fun i hi => ?_) (by rw [hone]; decide)
   rw [hget i (by omega), fst_zero r hi, imul_zero_right]
  have hnew : RowB w (mulRow (iinv (rd r ((fstIdx r : Nat) : Int))) r) := ⟨all_isB_mul hcB, by rw [mulRow_length]; exact hB.2⟩
  refine ⟨⟨fun y hy => ?_, ?_, fun y hy => ?_, ?_⟩, fun v hv h0 => ?_⟩
  ·rcases List.mem_append.1 hy with hy | hy
   ·exact h.rows y hy
   ·obtain rfl := List.mem_singleton.1 hy
    exact ⟨hnew, by dsimp only; rw [hfst]; exact hfw⟩
  ·rw [List.map_append, List.nodup_append]
   refine ⟨h.apart, by simp, fun p hp p' hp' => ?_⟩
   obtain ⟨y, hy, rfl⟩ := List.mem_map.1 hp
   simp only [List.map_cons, List.map_nil, List.mem_singleton] at hp'
   rw [hp', hfst]
   intro hc
   have := hat y hy
   rw [hc] at this
   exact hne this
  ·rcases List.mem_append.1 hy with hy | hy
   ·exact h.one y hy
   ·obtain rfl := List.mem_singleton.1 hy
    dsimp only
    rw [hfst]; exact hone
  ·refine List.pairwise_append.2 ⟨h.clear, List.pairwise_singleton _ _, fun a ha b hb => ?_⟩
   obtain rfl := List.mem_singleton.1 hb
   dsimp only
   rw [hget _ (h.rows a ha).2, hat a ha, imul_zero_right]
  ·dsimp only
   rw [dotU_mul hcB hB hv w (Nat.le_refl _), ← hdot v hv h0]
   constructor
   ·intro hz
    rcases imul_eq_zero hcB (dotU_isB hB w (Nat.le_refl _)) hz with e2 | e2
    ·have := imul_inv hrf hne
     rw [e2, imul_zero_left hrf] at this
     cases this
    ·exact e2
   ·intro hz
    rw [hz, imul_zero_right]
theorem addSt_none {w : Nat} {st : St} (h : Stairs w st) {row : List Int} {part : ByteArray} (hr : RowB w row) (he : addSt st row part = none) :
  ∀ v, IsV v → (∀ y ∈ st, dotU y.1 v w = 0) → dotU row v w = 0 := by
 intro v hv h0
 have hB := redRow_row (a := (row, part)) h.rows hr
 rw [← redRow_dot hv (a := (row, part)) h.rows hr h0]
 unfold addSt at he
 generalize redRow st (row, part) = rr at *
 obtain ⟨r, q⟩ := rr
 dsimp only at *
 by_cases e : fstIdx r = r.length
 ·exact dotU_below hB hv (p := w) (fun i hi => fst_zero r (by rw [e, hB.2]; exact hi)) w (Nat.le_refl _)
 ·rw [if_neg e] at he; cases he
/-! rows of a set of pieces -/
def selRows (rows : List (List Int)) (mask : Nat) : Nat → List (List Int)
 | 0 => []
 | n + 1 => if (mask >>> n) % 2 = 1 then selRows rows mask n ++ [rd_L4 rows (n : Int)] else selRows rows mask n
theorem ker_append {w : Nat} {S T : List (List Int)} {v : Vec} : Ker w (S ++ T) v ↔ Ker w S v ∧ Ker w T v := by
 unfold Ker
 constructor
 ·exact fun h => ⟨fun r hr => h r (List.mem_append_left _ hr), fun r hr => h r (List.mem_append_right _ hr)⟩
 ·rintro ⟨h1, h2⟩ r hr
  rcases List.mem_append.1 hr with hr | hr
  ·exact h1 r hr
  ·exact h2 r hr
theorem ker_map {w : Nat} {st : St} {v : Vec} : Ker w (st.map Prod.fst) v ↔ ∀ y ∈ st, dotU y.1 v w = 0 := by
 unfold Ker
 constructor
 ·exact fun h y hy => h _ (List.mem_map_of_mem hy)
 ·intro h r hr
  obtain ⟨y, hy, rfl⟩ := List.mem_map.1 hr
  exact h y hy
theorem collect_inv {w mask : Nat} {rows : List (List Int)} {pieces : List ByteArray} (hrows : ∀ k : Nat, k < rows.length → RowB w (rd_L4 rows (k : Int))) :
  ∀ n, n ≤ rows.length → Stairs w (collectUpto w mask rows pieces n) ∧ (∀ v, IsV v → Ker w (selRows rows mask n) v → Ker w ((collectUpto w mask rows pieces n).map Prod.fst) v) ∧
   ((collectUpto w mask rows pieces n).length < w → ∀ v, IsV v → Ker w ((collectUpto w mask rows pieces n).map Prod.fst) v → Ker w (selRows rows mask n) v) := by
 intro n
 induction n with
 | zero => intro _; exact ⟨Stairs.nil w, fun v _ h r hr => (by cases hr), fun _ v _ h r hr => (by cases hr)⟩
 | succ n ih =>
  intro hn
  obtain ⟨h1, h2, h3⟩ := ih (by omega)
  have hr := hrows n (by omega)
  simp only [collectUpto, selRows]
  by_cases hb : (mask >>> n) % 2 = 1
  ·rw [if_pos hb]
   by_cases hl : (collectUpto w mask rows pieces n).length < w
   ·rw [if_pos ⟨hb, hl⟩]
    cases he : addSt (collectUpto w mask rows pieces n) (rd_L4 rows (n : Int)) (rdOf ByteArray.empty pieces (n : Int)) with
    | none =>
     have hz := addSt_none h1 hr he
     simp only [Option.toList_none, List.append_nil]
     refine ⟨h1, fun v hv hk => h2 v hv (ker_append.1 hk).1, fun _ v hv hk => ker_append.2 ⟨h3 hl v hv hk, fun r hr2 => ?_⟩⟩
     obtain rfl := List.mem_singleton.1 hr2
     exact hz v hv (ker_map.1 hk)
    | some x =>
     obtain ⟨h4, h5⟩ := addSt_some h1 hr he
     simp only [Option.toList_some]
     refine ⟨h4, fun v hv hk => ?_, fun _ v hv hk => ?_⟩
     ·obtain ⟨k1, k2⟩ := ker_append.1 hk
      have k3 := h2 v hv k1
      rw [List.map_append]
      refine ker_append.2 ⟨k3, fun r hr2 => ?_⟩
      obtain rfl := List.mem_singleton.1 hr2
      exact (h5 v hv (ker_map.1 k3)).2 (k2 _ (List.mem_singleton.2 rfl))
     ·rw [List.map_append] at hk
      obtain ⟨k1, k2⟩ := ker_append.1 hk
      refine ker_append.2 ⟨h3 hl v hv k1, fun r hr2 => ?_⟩
      obtain rfl := List.mem_singleton.1 hr2
      exact (h5 v hv (ker_map.1 k1)).1 (k2 _ (List.mem_singleton.2 rfl))
   ·rw [if_neg (fun h => hl h.2)]
    exact ⟨h1, fun v hv hk => h2 v hv (ker_append.1 hk).1, fun h => absurd h hl⟩
  ·rw [if_neg hb, if_neg (fun h => hb h.1)]
   exact ⟨h1, h2, h3⟩
/-- A set of pieces suffices if only 0 is sent to 0 by its rows. -/
theorem collect_iff {w mask : Nat} {rows : List (List Int)} {pieces : List ByteArray} (hrows : ∀ k : Nat, k < rows.length → RowB w (rd_L4 rows (k : Int))) :
  (collectUpto w mask rows pieces rows.length).length = w ↔ Full w (selRows rows mask rows.length) := by
 obtain ⟨h1, h2, h3⟩ := collect_inv (mask := mask) (pieces := pieces) hrows rows.length (Nat.le_refl _)
 have hle := collectUpto_length w mask rows pieces rows.length
 constructor
 ·intro h
  exact (h1.leads.full (by rw [List.length_map]; exact h)).mono h2
 ·intro hf
  by_cases e : (collectUpto w mask rows pieces rows.length).length = w
  ·exact e
  ·have hlt : (collectUpto w mask rows pieces rows.length).length < w := by omega
   obtain ⟨p, hp, hm⟩ := h1.leads.missing (by rw [List.length_map]; exact hlt)
   obtain ⟨v, hv, hk, hv1⟩ := h1.leads.free hp hm
   have := hf v hv (h3 hlt v hv hk) p hp
   rw [hv1] at this
   cases this
/-! pieces that fit -/
/-! solving -/
theorem only_dot {w : Nat} {r : List Int} {q : Nat} {c : Int} (hr : RowB w r) (hc : isB c = true) (hq : q < w) : ∀ i, i ≤ w → dotU r (fun i => if i = q then c else 0) i = if q < i then imul (rd r (q : Int)) c else 0 := by
 intro i
 induction i with
 | zero => intro _; rw [if_neg (by omega)]; rfl
 | succ i ih =>
  intro hi
  show ixor (dotU r _ i) (imul (rd r (i : Int)) (if i = q then c else 0)) = _
  rw [ih (by omega)]
  by_cases e : i = q
  ·subst e
   rw [if_neg (by omega), if_pos rfl, if_pos (by omega), ixor_zero (isB_mul _ (hr.at (by omega)))]
  ·rw [if_neg e, imul_zero_right]
   by_cases e2 : q < i
   ·rw [if_pos e2, if_pos (by omega), ixor_zero_right (isB_mul _ (hr.at hq))]
   ·rw [if_neg e2, if_neg (by omega)]; rfl
end Go.Proofs.YtkadfidmfnpohaaDoor.XB

namespace Go.Proofs.YtkadfidmfnpohaaDoor.XB
open Go.RowKit Go.Proofs.YtkadfidmfnpohaaDoorW.PrintWords Go.Proofs.YtkadfidmfnpohaaDoorW.PrintLast Go.Proofs.YtkadfidmfnpohaaDoorW.PrintMore
set_option linter.unusedVariables false
set_option linter.unusedSimpArgs false
theorem rinv_from (a : Nat) (ha : a < 256) (h0 : a ≠ 0) : ∀ j x : Nat, x + j = QGF.invN a → 1 ≤ x → Ev (fun k => quietusref04_Inv.l0 k (a : Int) (x : Int)) ((QGF.invN a : Nat) : Int) := by
 have hi := QGF.inv_lt (a := a)
 intro j
 induction j with
 | zero =>
  intro x hx h1
  have hb := rmul_ev (isB_nat ha) (isB_nat (n := x) (by omega))
  refine Ev.step (f := fun k => (quietusref04_Mul.f k (a : Int) (x : Int)).bind fun t => if t = 1 then some (x : Int) else quietusref04_Inv.l0 k (a : Int) ((x + 1 : Nat) : Int)) (fun k => ?_) (Ev.bind hb ?_)
  ·simp only [quietusref04_Inv.l0]
   rw [if_pos (by omega), show ((x : Int) % 256) = (x : Int) by omega, wrap_succ (by omega)]
  ·have e : imul (a : Int) (x : Int) = 1 := by
    show ((QGF.mulN a x : Nat) : Int) = 1
    rw [show x = QGF.invN a by omega, QGF.mul_inv ha h0]; rfl
   simp only [e, if_true]
   rw [show x = QGF.invN a by omega]
   exact Ev.now _
 | succ j ih =>
  intro x hx h1
  have hb := rmul_ev (isB_nat ha) (isB_nat (n := x) (by omega))
  refine Ev.step (f := fun k => (quietusref04_Mul.f k (a : Int) (x : Int)).bind fun t => if t = 1 then some (x : Int) else quietusref04_Inv.l0 k (a : Int) ((x + 1 : Nat) : Int)) (fun k => ?_) (Ev.bind hb ?_)
  ·simp only [quietusref04_Inv.l0]
   rw [if_pos (by omega), show ((x : Int) % 256) = (x : Int) by omega, wrap_succ (by omega)]
  ·have e : ¬ imul (a : Int) (x : Int) = 1 := by
    intro h
    have h : ((QGF.mulN a x : Nat) : Int) = 1 := h
    have := QGF.inv_unique ha (show x < 256 by omega) (by omega)
    omega
   simp only [e, if_false]
   exact ih (x + 1) (by omega) (by omega)
theorem rinv_ev {a : Int} (ha : isB a = true) (h0 : a ≠ 0) : Ev (fun k => quietusref04_Inv.f k a) (iinv a) := by
 obtain ⟨m, rfl, hm⟩ := isB_ex ha
 have h1 : QGF.invN m ≠ 0 := QGF.inv_ne hm (by omega)
 exact Ev.congr (f := fun k => quietusref04_Inv.l0 k (m : Int) ((1 : Nat) : Int)) (fun k => by unfold quietusref04_Inv.f; rfl) (rinv_from m hm (by omega) (QGF.invN m - 1) 1 (by omega) (Nat.le_refl _))
/-! a row from which a multiple of another is taken -/
def lessRow (r P : List Int) (z : Nat) : List Int := subRow (imul (rd r (z : Int)) (iinv (rd P (z : Int)))) P r
theorem rless_from (w : Nat) (hw : w ≤ 1000000) (r P : List Int) (f : Int) (hf : isB f = true) (hr : RowB w r) (hP : RowB w P) : ∀ n i, i + n = w → Ev (fun k => quietusref07_less.l0 k r P f ((List.range i).map fun (i : Nat) => ixor (rd r (i : Int)) (imul f (rd P (i : Int)))) (i : Int)) (subRow f P r) := by
 have h1 := hr.2; have h2 := hP.2
 intro n
 induction n with
 | zero =>
  intro i hi
  refine Ev.step (f := fun _ => some (subRow f P r)) (fun k => ?_) (Ev.now _)
  simp only [quietusref07_less.l0]
  rw [if_neg (by omega), show i = r.length by omega]
  rfl
 | succ n ih =>
  intro i hi
  have hnx := ih (i + 1) (by omega)
  rw [snoc_map] at hnx
  have hlen : ((List.range i).map fun (i : Nat) => ixor (rd r (i : Int)) (imul f (rd P (i : Int)))).length < 140737488355328 := by simp; omega
  refine Ev.step (f := fun k => (quietusref04_Mul.f k f (rd P (i : Int))).bind fun t => quietusref07_less.l0 k r P f (((List.range i).map fun (i : Nat) => ixor (rd r (i : Int)) (imul f (rd P (i : Int)))) ++ [Go.bits .xor .u8 (rd r (i : Int)) t]) ((i + 1 : Nat) : Int)) (fun k => ?_) (Ev.bind (rmul_ev hf (hP.at (by omega))) ?_)
  ·simp only [quietusref07_less.l0]
   rw [if_pos (by omega), if_pos (by omega), if_pos (by omega)]
   simp only [if_pos hlen]
   rw [wrap_succ (by omega)]
  ·rw [bits_xor_u8 (hr.at (by omega)) (isB_mul _ hf)]
   exact hnx
theorem rless_ev (w : Nat) (hw : w ≤ 1000000) (r P : List Int) (z : Nat) (hz : z < w) (hr : RowB w r) (hP : RowB w P) (h0 : rd P (z : Int) ≠ 0) : Ev (fun k => quietusref07_less.f k r P (z : Int)) (lessRow r P z) := by
 have h1 := hr.2; have h2 := hP.2
 refine Ev.congr (f := fun k => (quietusref04_Inv.f k (rd P (z : Int))).bind fun t => (quietusref04_Mul.f k (rd r (z : Int)) t).bind fun t2 => quietusref07_less.l0 k r P t2 ([] : List Int) 0) (fun k => ?_) (Ev.bind (rinv_ev (hP.at hz) h0) (Ev.bind (rmul_ev (hr.at hz) (isB_inv _)) ?_))
 ·unfold quietusref07_less.f
  rw [if_pos (by omega), if_pos (by omega), if_pos (by omega)]
 ·exact rless_from w hw r P _ (isB_mul _ (hr.at hz)) hr hP w 0 (Nat.zero_add _)
theorem lessRow_row {w : Nat} {r P : List Int} {z : Nat} (hz : z < w) (hr : RowB w r) : RowB w (lessRow r P z) := ⟨all_isB_sub hr.1 (isB_mul _ (hr.at hz)), by unfold lessRow; rw [subRow_length]; exact hr.2⟩
theorem lessRow_at {w : Nat} {r P : List Int} {z : Nat} (hz : z < w) (hr : RowB w r) (hP : RowB w P) (h0 : rd P (z : Int) ≠ 0) : rd (lessRow r P z) (z : Int) = 0 := by
 unfold lessRow
 rw [rdi (by rw [subRow_length, hr.2]; exact hz)]
 simp only [subRow, List.getElem_map, List.getElem_range]
 rw [imul_assoc (hr.at hz) (isB_inv _) (hP.at hz), imul_inv (hP.at hz) h0, imul_comm (hr.at hz) rfl, imul_one_left (hr.at hz), ixor_self]
theorem lessRow_below {w : Nat} {r P : List Int} {z i : Nat} (hz : z < w) (hi : i < w) (hr : RowB w r) (h1 : rd r (i : Int) = 0) (h2 : rd P (i : Int) = 0) : rd (lessRow r P z) (i : Int) = 0 := by
 unfold lessRow
 rw [rdi (by rw [subRow_length, hr.2]; exact hi)]
 simp only [subRow, List.getElem_map, List.getElem_range]
 rw [h1, h2, imul_zero_right]
 rfl
theorem lessRow_dot {w : Nat} {r P : List Int} {z : Nat} (hz : z < w) (hr : RowB w r) (hP : RowB w P) {v : Vec} (hv : IsV v) (h0 : dotU P v w = 0) : dotU (lessRow r P z) v w = dotU r v w := by
 unfold lessRow
 rw [dotU_sub (isB_mul _ (hr.at hz)) hr hP hv w (Nat.le_refl _), h0, imul_zero_right, ixor_zero_right (dotU_isB hr w (Nat.le_refl _))]
/-! the rank, plainly -/
def pivFrom (l : List (List Int)) (z : Nat) : Nat → Nat → Nat
 | i, 0 => i
 | i, n + 1 => if rd (rd_L4 l (i : Int)) (z : Int) = 0 then pivFrom l z (i + 1) n else i
def restFrom (l : List (List Int)) (p z : Nat) : Nat → Nat → List (List Int)
 | _, 0 => []
 | i, n + 1 => if i = p then restFrom l p z (i + 1) n else lessRow (rd_L4 l (i : Int)) (rd_L4 l (p : Int)) z :: restFrom l p z (i + 1) n
def rkFrom : Nat → Nat → List (List Int) → Nat
 | 0, _, _ => 0
 | n + 1, z, l => if pivFrom l z 0 l.length = l.length then rkFrom n (z + 1) l else 1 + rkFrom n (z + 1) (restFrom l (pivFrom l z 0 l.length) z 0 l.length)
theorem rkFrom_le : ∀ n z l, rkFrom n z l ≤ n
 | 0, _, _ => Nat.le_refl _
 | n + 1, z, l => by
  simp only [rkFrom]
  split
  ·have := rkFrom_le n (z + 1) l; omega
  ·have := rkFrom_le n (z + 1) (restFrom l (pivFrom l z 0 l.length) z 0 l.length); omega
theorem piv_spec (l : List (List Int)) (z : Nat) : ∀ n i, i ≤ pivFrom l z i n ∧ pivFrom l z i n ≤ i + n ∧ (∀ t : Nat, i ≤ t → t < pivFrom l z i n → rd (rd_L4 l (t : Int)) (z : Int) = 0) ∧ (pivFrom l z i n < i + n → rd (rd_L4 l ((pivFrom l z i n : Nat) : Int)) (z : Int) ≠ 0) := by
 intro n
 induction n with
 | zero => intro i; simp only [pivFrom]; exact ⟨Nat.le_refl _, Nat.le_refl _, fun t h1 h2 => by omega, fun h => by omega⟩
 | succ n ih =>
  intro i
  simp only [pivFrom]
  by_cases e : rd (rd_L4 l (i : Int)) (z : Int) = 0
  ·rw [if_pos e]
   obtain ⟨h1, h2, h3, h4⟩ := ih (i + 1)
   refine ⟨by omega, by omega, fun t h5 h6 => ?_, fun h => h4 (by omega)⟩
   by_cases e2 : t = i
   ·subst e2; exact e
   ·exact h3 t (by omega) h6
  ·rw [if_neg e]
   exact ⟨Nat.le_refl _, by omega, fun t h1 h2 => by omega, fun _ => e⟩
theorem mem_rest {l : List (List Int)} {p z : Nat} {x : List Int} : ∀ n i, x ∈ restFrom l p z i n ↔ ∃ t, i ≤ t ∧ t < i + n ∧ t ≠ p ∧ x = lessRow (rd_L4 l (t : Int)) (rd_L4 l (p : Int)) z := by
 intro n
 induction n with
 | zero => intro i; simp only [restFrom]; exact ⟨fun h => (by cases h), fun ⟨t, h1, h2, _⟩ => by omega⟩
 | succ n ih =>
  intro i
  simp only [restFrom]
  by_cases e : i = p
  ·rw [if_pos e, ih (i + 1)]
   constructor
   ·rintro ⟨t, h1, h2, h3, h4⟩; exact ⟨t, by omega, by omega, h3, h4⟩
   ·rintro ⟨t, h1, h2, h3, h4⟩; exact ⟨t, by omega, by omega, h3, h4⟩
  ·rw [if_neg e, List.mem_cons, ih (i + 1)]
   constructor
   ·rintro (h | ⟨t, h1, h2, h3, h4⟩)
    ·exact ⟨i, Nat.le_refl _, by omega, e, h⟩
    ·exact ⟨t, by omega, by omega, h3, h4⟩
   ·rintro ⟨t, h1, h2, h3, h4⟩
    by_cases e2 : t = i
    ·subst e2; exact .inl h4
    ·exact .inr ⟨t, by omega, by omega, h3, h4⟩
theorem rest_length (l : List (List Int)) (p z : Nat) : ∀ n i, (restFrom l p z i n).length ≤ n := by
 intro n
 induction n with
 | zero => intro i; simp [restFrom]
 | succ n ih =>
  intro i
  simp only [restFrom]
  split
  ·have := ih (i + 1); omega
  ·have := ih (i + 1); simp; omega
theorem rdL_at {l : List (List Int)} {t : Nat} (h : t < l.length) : rd_L4 l (t : Int) ∈ l := by
 have : rd_L4 l (t : Int) = l[t] := by simp [rd_L4, List.getD_eq_getElem?_getD, List.getElem?_eq_getElem h]
 rw [this]; exact List.getElem_mem h
theorem mem_rdL {l : List (List Int)} {r : List Int} (h : r ∈ l) : ∃ t : Nat, t < l.length ∧ r = rd_L4 l (t : Int) := by
 obtain ⟨t, ht, rfl⟩ := List.mem_iff_getElem.1 h
 exact ⟨t, ht, by simp [rd_L4, List.getD_eq_getElem?_getD, List.getElem?_eq_getElem ht]⟩
def FullFrom (w z : Nat) (l : List (List Int)) : Prop := ∀ v, IsV v → Ker w l v → ∀ i, z ≤ i → i < w → v i = 0
theorem rk_iff (w : Nat) : ∀ n z l, z + n = w → (∀ r ∈ l, RowB w r ∧ ∀ i, i < z → rd r (i : Int) = 0) → (rkFrom n z l = n ↔ FullFrom w z l) := by
 intro n
 induction n with
 | zero => intro z l hz _; exact ⟨fun _ v _ _ i h1 h2 => by omega, fun _ => rfl⟩
 | succ n ih =>
  intro z l hz hl
  have hzw : z < w := by omega
  obtain ⟨_, p2, p3, p4⟩ := piv_spec l z l.length 0
  simp only [rkFrom]
  by_cases e : pivFrom l z 0 l.length = l.length
  ·rw [if_pos e]
   constructor
   ·intro h; have := rkFrom_le n (z + 1) l; omega
   ·intro hf
    exfalso
    have h1 : IsV (fun i => if i = z then (1 : Int) else 0) := fun i => by
     by_cases e : i = z <;> simp only [e, if_true, if_false] <;> rfl
    have := hf _ h1 (fun r hr => by
     obtain ⟨t, ht, rfl⟩ := mem_rdL hr
     rw [only_dot (hl _ hr).1 rfl hzw w (Nat.le_refl _), if_pos hzw, p3 t (Nat.zero_le _) (by omega), imul_zero_left rfl]) z (Nat.le_refl _) hzw
    simp at this
  ·rw [if_neg e]
   generalize pivFrom l z 0 l.length = p at *
   have hpl : p < l.length := by omega
   have hPm := rdL_at hpl
   obtain ⟨hPB, hP0⟩ := hl _ hPm
   have hPz := p4 (by omega)
   have hrest : ∀ r ∈ restFrom l p z 0 l.length, RowB w r ∧ ∀ i, i < z + 1 → rd r (i : Int) = 0 := by
    intro r hr
    obtain ⟨t, _, ht, _, rfl⟩ := (mem_rest l.length 0).1 hr
    obtain ⟨h1, h2⟩ := hl _ (rdL_at (show t < l.length by omega))
    refine ⟨lessRow_row hzw h1, fun i hi => ?_⟩
    by_cases e2 : i = z
    ·subst e2; exact lessRow_at hzw h1 hPB hPz
    ·exact lessRow_below hzw (by omega) h1 (h2 i (by omega)) (hP0 i (by omega))
   have ih := ih (z + 1) (restFrom l p z 0 l.length) (by omega) hrest
   have hiff : (1 + rkFrom n (z + 1) (restFrom l p z 0 l.length) = n + 1) ↔ (rkFrom n (z + 1) (restFrom l p z 0 l.length) = n) := by omega
   rw [hiff, ih]
   have hker : ∀ v, IsV v → (Ker w l v ↔ (dotU (rd_L4 l (p : Int)) v w = 0 ∧ Ker w (restFrom l p z 0 l.length) v)) := by
    intro v hv
    constructor
    ·intro hk
     have h0 := hk _ hPm
     refine ⟨h0, fun r hr => ?_⟩
     obtain ⟨t, _, ht, _, rfl⟩ := (mem_rest l.length 0).1 hr
     have hm := rdL_at (show t < l.length by omega)
     rw [lessRow_dot hzw (hl _ hm).1 hPB hv h0]
     exact hk _ hm
    ·rintro ⟨h0, hk⟩ r hr
     obtain ⟨t, ht, rfl⟩ := mem_rdL hr
     by_cases e2 : t = p
     ·subst e2; exact h0
     ·rw [← lessRow_dot hzw (hl _ hr).1 hPB hv h0]
      exact hk _ ((mem_rest l.length 0).2 ⟨t, Nat.zero_le _, by omega, e2, rfl⟩)
   constructor
   ·intro hf v hv hk i hi1 hi2
    obtain ⟨h0, hk2⟩ := (hker v hv).1 hk
    by_cases e2 : i = z
    ·subst e2
     have h1 := dotU_zeros (r := rd_L4 l (p : Int)) (v := v) (p := i + 1) w (by omega) (fun j h2 h3 => hf v hv hk2 j h2 h3) (dotU_isB hPB (i + 1) (by omega))
     rw [h0] at h1
     have h2 : dotU (rd_L4 l (p : Int)) v (i + 1) = ixor (dotU (rd_L4 l (p : Int)) v i) (imul (rd (rd_L4 l (p : Int)) (i : Int)) (v i)) := rfl
     rw [dotU_below hPB hv hP0 i (Nat.le_refl _), ixor_zero (isB_mul _ (hPB.at hi2)), ← h1] at h2
     rcases imul_eq_zero (hPB.at hi2) (hv i) h2.symm with h3 | h3
     ·exact absurd h3 hPz
     ·exact h3
    ·exact hf v hv hk2 i (by omega) hi2
   ·intro hf v hv hk i hi1 hi2
    obtain ⟨c, hc⟩ : ∃ c, c = imul (iinv (rd (rd_L4 l (p : Int)) (z : Int))) (dotU (rd_L4 l (p : Int)) (fun i => if i = z then 0 else v i) w) := ⟨_, rfl⟩
    have hcB : isB c = true := by rw [hc]; exact isB_mul _ (isB_inv _)
    have hv0 : IsV (fun i => if i = z then 0 else v i) := fun i => by
     by_cases e : i = z
     ·simp only [e, if_true]; rfl
     ·simp only [e, if_false]; exact hv i
    have hv1 : IsV (fun i => if i = z then c else 0) := fun i => by
     by_cases e : i = z
     ·simp only [e, if_true]; exact hcB
     ·simp only [e, if_false]; rfl
    have hv2 : IsV (fun i => if i = z then c else v i) := fun i => by
     by_cases e : i = z
     ·simp only [e, if_true]; exact hcB
     ·simp only [e, if_false]; exact hv i
    have hsum : ∀ r, RowB w r → dotU r (fun i => if i = z then c else v i) w = ixor (dotU r (fun i => if i = z then 0 else v i) w) (imul (rd r (z : Int)) c) := by
     intro r hr
     have e1 : dotU r (fun i => if i = z then c else v i) w = dotU r (fun i => ixor (if i = z then 0 else v i) (if i = z then c else 0)) w := dotU_congr w (fun j hj => by
      by_cases e : j = z
      ·simp only [e, if_true]; rw [ixor_zero hcB]
      ·simp only [e, if_false]; rw [ixor_zero_right (hv j)])
     rw [e1, dotU_add (u := fun i => if i = z then 0 else v i) (v := fun i => if i = z then c else 0) hr w (Nat.le_refl _), only_dot hr hcB hzw w (Nat.le_refl _), if_pos hzw]
    have hpz := hPB.at hzw
    have hd := dotU_isB (x := fun i => if i = z then 0 else v i) hPB w (Nat.le_refl _)
    have hP : dotU (rd_L4 l (p : Int)) (fun i => if i = z then c else v i) w = 0 := by
     rw [hsum _ hPB, hc, ← imul_assoc hpz (isB_inv _) hd, imul_comm hpz (isB_inv _), imul_inv hpz hPz, imul_one_left hd, ixor_self]
    have hR : Ker w (restFrom l p z 0 l.length) (fun i => if i = z then c else v i) := by
     intro r hr
     obtain ⟨hrB, hr0⟩ := hrest r hr
     have hrz := hr0 z (Nat.lt_succ_self z)
     have e1 : dotU r (fun i => if i = z then c else v i) w = dotU r v w := by
      rw [hsum r hrB, hrz, imul_zero_left hcB, ixor_zero_right (dotU_isB hrB w (Nat.le_refl _))]
      have e2 : dotU r v w = dotU r (fun i => ixor (if i = z then 0 else v i) (if i = z then v z else 0)) w := dotU_congr w (fun j hj => by
       by_cases e : j = z
       ·subst e; simp only [if_true]; rw [ixor_zero (hv j)]
       ·simp only [e, if_false]; rw [ixor_zero_right (hv j)])
      rw [e2, dotU_add (u := fun i => if i = z then 0 else v i) (v := fun i => if i = z then v z else 0) hrB w (Nat.le_refl _), only_dot hrB (hv z) hzw w (Nat.le_refl _), if_pos hzw, hrz, imul_zero_left (hv z), ixor_zero_right (dotU_isB hrB w (Nat.le_refl _))]
     rw [e1]; exact hk r hr
    have := hf _ hv2 ((hker _ hv2).2 ⟨hP, hR⟩) i (by omega) hi2
    have e : i ≠ z := by omega
    simpa only [e, if_false] using this
/-! the reference's Rank -/
theorem rrank_l2 (w : Nat) (hw : w ≤ 30) (l : List (List Int)) (hl : ∀ r ∈ l, RowB w r) (hll : l.length ≤ 100) (rank z p : Nat) (hz : z < w) (hp : p < l.length) (hP : rd (rd_L4 l (p : Int)) (z : Int) ≠ 0) (R : Int) :
  ∀ n i acc, i + n = l.length → acc.length ≤ i → Ev (fun k => quietusref07_Rank.l0 k (w : Int) (acc ++ restFrom l p z i n) (rank : Int) ((z + 1 : Nat) : Int)) R → Ev (fun k => quietusref07_Rank.l2 k (w : Int) l (rank : Int) (z : Int) (p : Int) acc (i : Int)) R := by
 intro n
 induction n with
 | zero =>
  intro i acc hi hacc hR
  refine Ev.step (f := fun k => quietusref07_Rank.l0 k (w : Int) acc (rank : Int) ((z + 1 : Nat) : Int)) (fun k => ?_) (by simpa [restFrom] using hR)
  simp only [quietusref07_Rank.l2]
  rw [if_neg (by omega), wrap_succ (by omega)]
 | succ n ih =>
  intro i acc hi hacc hR
  simp only [restFrom] at hR
  by_cases e : i = p
  ·rw [if_pos e] at hR
   refine Ev.step (f := fun k => quietusref07_Rank.l2 k (w : Int) l (rank : Int) (z : Int) (p : Int) acc ((i + 1 : Nat) : Int)) (fun k => ?_) (ih (i + 1) acc (by omega) (by omega) hR)
   simp only [quietusref07_Rank.l2]
   rw [if_pos (by omega), if_pos (by omega), wrap_succ (by omega)]
  ·rw [if_neg e] at hR
   have hi' := rdL_at (show i < l.length by omega)
   have hp' := rdL_at hp
   refine Ev.step (f := fun k => (quietusref07_less.f k (rd_L4 l (i : Int)) (rd_L4 l (p : Int)) (z : Int)).bind fun t => quietusref07_Rank.l2 k (w : Int) l (rank : Int) (z : Int) (p : Int) (acc ++ [t]) ((i + 1 : Nat) : Int)) (fun k => ?_) (Ev.bind (rless_ev w (by omega) _ _ z hz (hl _ hi') (hl _ hp') hP) (ih (i + 1) _ (by omega) (by simp; omega) ?_))
   ·have hlen : acc.length < 5864062014805 := by omega
    simp only [quietusref07_Rank.l2]
    rw [if_pos (by omega), if_neg (by omega), if_pos (by omega), if_pos (by omega), if_pos (by omega)]
    simp only [if_pos hlen]
    rw [wrap_succ (by omega)]
   ·rw [List.append_assoc]; exact hR
theorem rrank_l1 (w : Nat) (hw : w ≤ 30) (l : List (List Int)) (hl : ∀ r ∈ l, RowB w r) (hll : l.length ≤ 100) (rank z : Nat) (hrank : rank ≤ 30) (hz : z < w) (R : Int)
  (hnone : pivFrom l z 0 l.length = l.length → Ev (fun k => quietusref07_Rank.l0 k (w : Int) l (rank : Int) ((z + 1 : Nat) : Int)) R)
  (hsome : pivFrom l z 0 l.length < l.length → Ev (fun k => quietusref07_Rank.l0 k (w : Int) (restFrom l (pivFrom l z 0 l.length) z 0 l.length) ((rank + 1 : Nat) : Int) ((z + 1 : Nat) : Int)) R) :
  ∀ n i, i + n = l.length → pivFrom l z i n = pivFrom l z 0 l.length → Ev (fun k => quietusref07_Rank.l1 k (w : Int) l (rank : Int) (z : Int) (-1) (i : Int)) R := by
 intro n
 induction n with
 | zero =>
  intro i hi hpv
  refine Ev.step (f := fun k => quietusref07_Rank.j2 k (w : Int) l (rank : Int) (z : Int) (-1) (i : Int) false) (fun k => ?_) (Ev.step (f := fun k => quietusref07_Rank.l0 k (w : Int) l (rank : Int) ((z + 1 : Nat) : Int)) (fun k => ?_) (hnone ?_))
  ·simp only [quietusref07_Rank.l1]
   rw [if_neg (by omega)]
  ·simp only [quietusref07_Rank.j2]
   rw [if_neg (by decide), if_pos (by decide), wrap_succ (by omega)]
  ·rw [← hpv]; simp only [pivFrom]; omega
 | succ n ih =>
  intro i hi hpv
  have hi' := rdL_at (show i < l.length by omega)
  have hrl := (hl _ hi').2
  by_cases e : rd (rd_L4 l (i : Int)) (z : Int) = 0
  ·refine Ev.step (f := fun k => quietusref07_Rank.j2 k (w : Int) l (rank : Int) (z : Int) (-1) (i : Int) true) (fun k => ?_) (Ev.step (f := fun k => quietusref07_Rank.l1 k (w : Int) l (rank : Int) (z : Int) (-1) ((i + 1 : Nat) : Int)) (fun k => ?_) (ih (i + 1) (by omega) ?_))
   ·simp only [quietusref07_Rank.l1]
    rw [if_pos (by omega)]
    rfl
   ·simp only [quietusref07_Rank.j2, if_true]
    rw [if_pos (by omega), if_pos (by omega), if_pos (by omega), if_pos (by omega), if_pos e, wrap_succ (by omega)]
   ·rw [← hpv]; simp only [pivFrom]; rw [if_pos e]
  ·have hpi : pivFrom l z 0 l.length = i := by rw [← hpv]; simp only [pivFrom]; rw [if_neg e]
   have hs := hsome (by omega)
   rw [hpi] at hs
   have h2 := rrank_l2 w hw l hl hll (rank + 1) z i hz (by omega) e R l.length 0 [] (Nat.zero_add _) (Nat.zero_le _) hs
   refine Ev.step (f := fun k => quietusref07_Rank.j2 k (w : Int) l (rank : Int) (z : Int) (-1) (i : Int) true) (fun k => ?_) (Ev.step (f := fun k => quietusref07_Rank.l1 k (w : Int) l (rank : Int) (z : Int) (i : Int) ((i + 1 : Nat) : Int)) (fun k => ?_) (Ev.step (f := fun k => quietusref07_Rank.j2 k (w : Int) l (rank : Int) (z : Int) (i : Int) ((i + 1 : Nat) : Int) false) (fun k => ?_) (Ev.step (f := fun k => quietusref07_Rank.l2 k (w : Int) l ((rank + 1 : Nat) : Int) (z : Int) (i : Int) [] ((0 : Nat) : Int)) (fun k => ?_) h2)))
   ·simp only [quietusref07_Rank.l1]
    rw [if_pos (by omega)]
    rfl
   ·simp only [quietusref07_Rank.j2, if_true]
    rw [if_pos (by omega), if_pos (by omega), if_pos (by omega), if_pos (by omega), if_neg e, wrap_succ (by omega)]
   ·simp only [quietusref07_Rank.l1]
    have : decide ((i : Int) < 0) = false := decide_eq_false (by omega)
    rw [this, ite_self]
   ·simp only [quietusref07_Rank.j2]
    rw [if_neg (by decide), if_neg (by omega), wrap_succ (by omega)]
    rfl
theorem rrank_l0 (w : Nat) (hw : w ≤ 30) : ∀ n z l rank, z + n = w → (∀ r ∈ l, RowB w r) → l.length ≤ 100 → rank ≤ z → Ev (fun k => quietusref07_Rank.l0 k (w : Int) l (rank : Int) (z : Int)) ((rank + rkFrom n z l : Nat) : Int) := by
 intro n
 induction n with
 | zero =>
  intro z l rank hz _ _ _
  refine Ev.step (f := fun _ => some (rank : Int)) (fun k => ?_) (Ev.now _)
  simp only [quietusref07_Rank.l0]
  rw [if_neg (by omega)]
 | succ n ih =>
  intro z l rank hz hl hll hrank
  refine Ev.step (f := fun k => quietusref07_Rank.l1 k (w : Int) l (rank : Int) (z : Int) (-1) ((0 : Nat) : Int)) (fun k => ?_) (rrank_l1 w hw l hl hll rank z (by omega) (by omega) _ (fun h => ?_) (fun h => ?_) l.length 0 (Nat.zero_add _) rfl)
  ·simp only [quietusref07_Rank.l0]
   rw [if_pos (by omega)]
   rfl
  ·simp only [rkFrom]
   rw [if_pos h]
   exact ih (z + 1) l rank (by omega) hl hll (by omega)
  ·simp only [rkFrom]
   rw [if_neg (by omega), ← Nat.add_assoc]
   refine ih (z + 1) _ (rank + 1) (by omega) (fun r hr => ?_) ?_ (by omega)
   ·obtain ⟨t, _, ht, _, rfl⟩ := (mem_rest l.length 0).1 hr
    exact lessRow_row (by omega) (hl _ (rdL_at (by omega)))
   ·have := rest_length l (pivFrom l z 0 l.length) z l.length 0; omega
theorem rrank_ev (w : Nat) (hw : w ≤ 30) (l : List (List Int)) (hl : ∀ r ∈ l, RowB w r) (hll : l.length ≤ 100) : Ev (fun k => quietusref07_Rank.f k l (w : Int)) ((rkFrom w 0 l : Nat) : Int) := by
 refine Ev.congr (f := fun k => quietusref07_Rank.l0 k (w : Int) l ((0 : Nat) : Int) ((0 : Nat) : Int)) (fun k => by unfold quietusref07_Rank.f; rfl) (ev_eq (rrank_l0 w hw w 0 l 0 (Nat.zero_add _) hl hll (Nat.le_refl _)) (by rw [Nat.zero_add]))
theorem rank_full {w : Nat} {l : List (List Int)} (hl : ∀ r ∈ l, RowB w r) : rkFrom w 0 l = w ↔ Full w l := by
 rw [rk_iff w w 0 l (Nat.zero_add _) (fun r hr => ⟨hl r hr, fun i hi => absurd hi (Nat.not_lt_zero i)⟩)]
 exact ⟨fun h v hv hk i hi => h v hv hk i (Nat.zero_le _) hi, fun h v hv hk i _ hi => h v hv hk i hi⟩

set_option linter.unusedSimpArgs false
theorem half_shift (x i : Nat) : (x >>> i) / 2 = x >>> (i + 1) := by
 rw [Nat.shiftRight_eq_div_pow, Nat.shiftRight_eq_div_pow, Nat.div_div_eq_div_mul, Nat.pow_succ]
theorem rin_from (x n : Nat) (hx : x < 2 ^ 62) (hn : n ≤ 64) : ∀ j i, i + j = n → Ev (fun k => quietusref07_In.l0 k ((x >>> i : Nat) : Int) (n : Int) (i : Int)) (decide ((x >>> n) % 2 = 1)) := by
 intro j
 induction j with
 | zero =>
  intro i hi
  obtain rfl : i = n := by omega
  refine Ev.step (f := fun _ => some (decide ((x >>> i) % 2 = 1))) (fun k => ?_) (Ev.now _)
  generalize x >>> i = y
  simp only [quietusref07_In.l0]
  rw [if_neg (by omega), Int.tmod_eq_emod_of_nonneg (by omega)]
  congr 1
  rw [Bool.eq_iff_iff, beq_iff_eq, decide_eq_true_eq]
  omega
 | succ j ih =>
  intro i hi
  have hle : x >>> i ≤ x := Nat.shiftRight_le x i
  have hnx := ih (i + 1) (by omega)
  rw [← half_shift] at hnx
  generalize x >>> i = y at *
  have e : wrap64 (Int.tdiv ((y : Nat) : Int) 2) = ((y / 2 : Nat) : Int) := by
   rw [Int.tdiv_eq_ediv_of_nonneg (by omega)]
   unfold wrap64; omega
  refine Ev.step (f := fun k => quietusref07_In.l0 k ((y / 2 : Nat) : Int) (n : Int) ((i + 1 : Nat) : Int)) (fun k => ?_) hnx
  simp only [quietusref07_In.l0]
  rw [if_pos (by omega), e, wrap_succ (by omega)]
theorem rin_ev (x n : Nat) (hx : x < 2 ^ 62) (hn : n ≤ 64) : Ev (fun k => quietusref07_In.f k (x : Int) (n : Int)) (decide ((x >>> n) % 2 = 1)) :=
 Ev.congr (f := fun k => quietusref07_In.l0 k ((x >>> 0 : Nat) : Int) (n : Int) ((0 : Nat) : Int)) (fun k => by unfold quietusref07_In.f; rfl) (rin_from x n hx hn n 0 (Nat.zero_add _))
theorem rbit_from (n : Nat) (hn : n ≤ 60) : ∀ j i, i + j = n → Ev (fun k => quietusref07_Bit.l0 k (n : Int) ((2 ^ i : Nat) : Int) (i : Int)) ((2 ^ n : Nat) : Int) := by
 intro j
 induction j with
 | zero =>
  intro i hi
  obtain rfl : i = n := by omega
  refine Ev.step (f := fun _ => some ((2 ^ i : Nat) : Int)) (fun k => ?_) (Ev.now _)
  simp only [quietusref07_Bit.l0]
  rw [if_neg (by omega)]
 | succ j ih =>
  intro i hi
  have hp : 2 ^ (i + 1) ≤ 2 ^ 60 := Nat.pow_le_pow_right (by decide) (by omega)
  have hs : 2 ^ (i + 1) = 2 * 2 ^ i := by rw [Nat.pow_succ, Nat.mul_comm]
  have e : wrap64 (2 * ((2 ^ i : Nat) : Int)) = ((2 ^ (i + 1) : Nat) : Int) := by
   rw [hs] at hp ⊢
   generalize 2 ^ i = z at *
   unfold wrap64; omega
  refine Ev.step (f := fun k => quietusref07_Bit.l0 k (n : Int) ((2 ^ (i + 1) : Nat) : Int) ((i + 1 : Nat) : Int)) (fun k => ?_) (ih (i + 1) (by omega))
  simp only [quietusref07_Bit.l0]
  rw [if_pos (by omega), e, wrap_succ (by omega)]
theorem rbit_ev (n : Nat) (hn : n ≤ 60) : Ev (fun k => quietusref07_Bit.f k (n : Int)) ((2 ^ n : Nat) : Int) :=
 Ev.congr (f := fun k => quietusref07_Bit.l0 k (n : Int) ((2 ^ 0 : Nat) : Int) ((0 : Nat) : Int)) (fun k => by unfold quietusref07_Bit.f; rfl) (rbit_from n hn n 0 (Nat.zero_add _))
/-- How many pieces of the first n a set has. -/
def bitsUpto (x : Nat) : Nat → Nat
 | 0 => 0
 | n + 1 => bitsUpto x n + (x >>> n) % 2
theorem bitsUpto_low (x : Nat) : ∀ n, bitsUpto x (n + 1) = x % 2 + bitsUpto (x / 2) n
 | 0 => by simp [bitsUpto]
 | n + 1 => by
  show bitsUpto x (n + 1) + (x >>> (n + 1)) % 2 = x % 2 + (bitsUpto (x / 2) n + ((x / 2) >>> n) % 2)
  rw [bitsUpto_low x n]
  have : x >>> (n + 1) = (x / 2) >>> n := by rw [Nat.shiftRight_eq_div_pow, Nat.shiftRight_eq_div_pow, Nat.div_div_eq_div_mul, Nat.pow_succ, Nat.mul_comm]
  rw [this]; omega
theorem bitsUpto_zero : ∀ n, bitsUpto 0 n = 0
 | 0 => rfl
 | n + 1 => by show bitsUpto 0 n + (0 >>> n) % 2 = 0; rw [bitsUpto_zero n]; simp
theorem bitsUpto_le (x : Nat) : ∀ n, bitsUpto x n ≤ n
 | 0 => Nat.le_refl _
 | n + 1 => by show bitsUpto x n + (x >>> n) % 2 ≤ n + 1; have := bitsUpto_le x n; omega
theorem rcount_from : ∀ n x c : Nat, x < 2 ^ n → n ≤ 60 → c + n ≤ 1000 → Ev (fun k => quietusref07_Count.l0 k (x : Int) (c : Int)) ((c + bitsUpto x n : Nat) : Int) := by
 intro n
 induction n with
 | zero =>
  intro x c hx _ _
  obtain rfl : x = 0 := by simpa using hx
  refine Ev.step (f := fun _ => some (c : Int)) (fun k => ?_) (Ev.now _)
  simp only [quietusref07_Count.l0]
  rw [if_neg (by omega)]
 | succ n ih =>
  intro x c hx hn hc
  by_cases h0 : x = 0
  ·subst h0
   rw [bitsUpto_zero]
   refine Ev.step (f := fun _ => some (c : Int)) (fun k => ?_) (Ev.now _)
   simp only [quietusref07_Count.l0]
   rw [if_neg (by omega)]
  ·have hp : 2 ^ (n + 1) ≤ 2 ^ 60 := Nat.pow_le_pow_right (by decide) hn
   have hs : 2 ^ (n + 1) = 2 * 2 ^ n := by rw [Nat.pow_succ, Nat.mul_comm]
   have e1 : wrap64 (Int.tdiv (x : Int) 2) = ((x / 2 : Nat) : Int) := by
    rw [Int.tdiv_eq_ediv_of_nonneg (by omega)]
    generalize 2 ^ n = z at *
    unfold wrap64; omega
   have e2 : wrap64 ((c : Int) + Int.tmod (x : Int) 2) = ((c + x % 2 : Nat) : Int) := by
    rw [Int.tmod_eq_emod_of_nonneg (by omega)]
    unfold wrap64; omega
   rw [bitsUpto_low, ← Nat.add_assoc]
   refine Ev.step (f := fun k => quietusref07_Count.l0 k ((x / 2 : Nat) : Int) ((c + x % 2 : Nat) : Int)) (fun k => ?_) (ih (x / 2) (c + x % 2) (by omega) (by omega) (by omega))
   simp only [quietusref07_Count.l0]
   rw [if_pos (by omega), e1, e2]
theorem rcount_ev (n x : Nat) (hx : x < 2 ^ n) (hn : n ≤ 60) : Ev (fun k => quietusref07_Count.f k (x : Int)) ((bitsUpto x n : Nat) : Int) :=
 Ev.congr (f := fun k => quietusref07_Count.l0 k (x : Int) ((0 : Nat) : Int)) (fun k => by unfold quietusref07_Count.f; rfl) (ev_eq (rcount_from n x 0 hx hn (by omega)) (by rw [Nat.zero_add]))
theorem ones_bits : ∀ m, m < 1024 → onesOf m = ((bitsUpto m 10 : Nat) : Int) := fun m hm => of_decide_eq_true (QGF.allN_spec (n := 1024) (p := fun m => decide (onesOf m = ((bitsUpto m 10 : Nat) : Int))) (by decide +kernel) m hm)
theorem bitsUpto_small {x n : Nat} (hx : x < 2 ^ n) : ∀ j, bitsUpto x (n + j) = bitsUpto x n
 | 0 => rfl
 | j + 1 => by
  show bitsUpto x (n + j) + (x >>> (n + j)) % 2 = _
  rw [bitsUpto_small hx j, Nat.shiftRight_eq_div_pow, Nat.div_eq_of_lt (Nat.lt_of_lt_of_le hx (Nat.pow_le_pow_right (by decide) (by omega)))]
  rfl
theorem bit_test (x i : Nat) : (x >>> i) % 2 = 1 ↔ x.testBit i = true := by
 rw [Nat.testBit_eq_decide_div_mod_eq, Nat.shiftRight_eq_div_pow, decide_eq_true_eq]
theorem bit_of_test (x i : Nat) : (x >>> i) % 2 = if x.testBit i = true then 1 else 0 := by
 have h := bit_test x i
 by_cases e : x.testBit i = true
 ·rw [if_pos e]; exact h.2 e
 ·rw [if_neg e]; have : ¬ (x >>> i) % 2 = 1 := fun h2 => e (h.1 h2)
  omega
/-- The other pieces. -/
theorem bitsUpto_compl {x n : Nat} (hx : x < 2 ^ n) : ∀ j, j ≤ n → bitsUpto (2 ^ n - 1 - x) j = j - bitsUpto x j := by
 intro j
 induction j with
 | zero => intro _; rfl
 | succ j ih =>
  intro hj
  have h1 := bitsUpto_le x j
  show bitsUpto (2 ^ n - 1 - x) j + ((2 ^ n - 1 - x) >>> j) % 2 = (j + 1) - (bitsUpto x j + (x >>> j) % 2)
  rw [ih (by omega), bit_of_test, bit_of_test, show 2 ^ n - 1 - x = 2 ^ n - (x + 1) by omega, Nat.testBit_two_pow_sub_succ hx]
  have hjn : j < n := by omega
  simp only [hjn, decide_true, Bool.true_and]
  cases x.testBit j <;> simp <;> omega
/-! can it be recovered -/
def canB (d : Int) (l : List (List Int)) (m mask : Int) : Bool := (collectOk (rowsFor d l m) mask []).isSome
theorem rowsOf_rd {D M : Nat} {l : List (List Int)} {t : Nat} (h : t < D + l.length + M) : rd_L4 (rowsOf D l M) (t : Int) = rowAt D l t := by
 rw [rowsOf_eq]
 simp [rd_L4, List.getD_eq_getElem?_getD, h]
theorem rowsOf_length (D M : Nat) (l : List (List Int)) : (rowsOf D l M).length = D + l.length + M := by rw [rowsOf_eq]; simp
theorem rowAt_row (D : Nat) (l : List (List Int)) (t : Nat) : RowB D (rowAt D l t) := ⟨rowAt_isB D l t, rowAt_length D l t⟩
theorem rowWidth_rows {D M : Nat} {l : List (List Int)} (h : 0 < D) : rowWidth (rowsOf D l M) = D := by
 unfold rowWidth
 rw [rowsOf_rd (by omega), rowAt_length]
theorem rowsOf_rowB {D M : Nat} {l : List (List Int)} (k : Nat) (hk : k < (rowsOf D l M).length) : RowB D (rd_L4 (rowsOf D l M) (k : Int)) := by
 rw [rowsOf_length] at hk
 rw [rowsOf_rd hk]
 exact rowAt_row D l k
theorem okRows_rows {D M : Nat} {l : List (List Int)} (h1 : 1 ≤ D) (h2 : D ≤ 16) (h3 : D + l.length + M ≤ 24) : okRows (rowsOf D l M) = true := by
 unfold okRows
 rw [rowWidth_rows (by omega), rowsOf_length]
 simp only [Bool.and_eq_true, Bool.or_eq_true, decide_eq_true_eq, List.all_eq_true]
 refine ⟨⟨⟨h3, .inl h1⟩, h2⟩, fun r hr => ?_⟩
 rw [rowsOf_eq] at hr
 obtain ⟨t, _, rfl⟩ := List.mem_map.1 hr
 exact ⟨fun x hx => List.all_eq_true.1 (rowAt_isB D l t) x hx, rowAt_length D l t⟩
theorem CodeOk.bounds {D M : Nat} {l : List (List Int)} (h : CodeOk (D : Int) l (M : Int)) : 1 ≤ D ∧ D ≤ 16 ∧ M ≤ 4 ∧ D + l.length + M ≤ 24 := by
 have h1 := h.d1; have h2 := h.d2; have h3 := h.m2; have h4 := h.sum
 omega
theorem canB_iff {D M : Nat} {l : List (List Int)} (hc : chk (D : Int) l (M : Int) = 0) (mask : Int) :
  canB (D : Int) l (M : Int) mask = true ↔ 0 ≤ mask ∧ mask < ((2 ^ (D + l.length + M) : Nat) : Int) ∧ Full D (selRows (rowsOf D l M) mask.toNat (D + l.length + M)) := by
 obtain ⟨h1, h2, h3, h4⟩ := (chk_ok hc).bounds
 have hrf : rowsFor (D : Int) l (M : Int) = rowsOf D l M := by unfold rowsFor; rw [if_pos hc]; rfl
 have hci := collect_iff (w := D) (mask := mask.toNat) (pieces := []) (rows := rowsOf D l M) rowsOf_rowB
 have hle := collectUpto_length D mask.toNat (rowsOf D l M) [] (rowsOf D l M).length
 unfold canB collectOk collectSt
 rw [hrf, rowWidth_rows (by omega)]
 rw [rowsOf_length] at hci hle ⊢
 have hp : ((2 : Int) ^ (D + l.length + M)) = ((2 ^ (D + l.length + M) : Nat) : Int) := by simp
 rw [hp]
 by_cases c1 : D + l.length + M = 0 ∨ mask < 0 ∨ ((2 ^ (D + l.length + M) : Nat) : Int) ≤ mask
 ·rw [if_pos c1]
  constructor
  ·intro h; cases h
  ·rintro ⟨h5, h6, _⟩; omega
 ·rw [if_neg c1]
  by_cases c2 : (collectUpto D mask.toNat (rowsOf D l M) [] (D + l.length + M)).length < D
  ·rw [if_pos c2]
   constructor
   ·intro h; cases h
   ·rintro ⟨_, _, h7⟩
    have := hci.2 h7; omega
  ·rw [if_neg c2]
   constructor
   ·intro _
    exact ⟨by omega, by omega, hci.1 (by omega)⟩
   ·intro _; rfl
theorem canB_err {d : Int} {l : List (List Int)} {m mask : Int} (h : chk d l m ≠ 0) : canB d l m mask = false := by
 unfold canB rowsFor
 rw [if_neg h]
 rfl
theorem crec_ev (d : Int) (l : List (List Int)) (m mask : Int) (hs : Small l) : Ev (fun k => code_Recoverable.f k d l m mask) (canB d l m mask) := by
 refine Ev.congr (f := fun k => (code_Rows.f k d l m).bind fun r => if okRows r.1 = true then some (collectOk r.1 mask []).isSome else none) (fun k => rfl) (Ev.bind (crows_ev d l m hs) ?_)
 have hok : okRows (rowsFor d l m) = true := by
  unfold rowsFor
  by_cases e : chk d l m = 0
  ·have hok := chk_ok e
   obtain ⟨D, M, rfl, rfl⟩ := hok.nats
   obtain ⟨h1, h2, h3, h4⟩ := hok.bounds
   rw [if_pos e]
   exact okRows_rows h1 h2 h4
  ·rw [if_neg e]; rfl
 simp only [hok, if_true]
 exact Ev.now _
def setB (d : Int) (l : List (List Int)) (m mask : Int) : Bool := decide (0 ≤ mask) && decide (mask < ((2 ^ (piecesOf d l m).toNat : Nat) : Int))
theorem rset_ev (d : Int) (l : List (List Int)) (m mask : Int) (hs : Small l) : Ev (fun k => quietusref07_IsSet.f k d l m mask) (setB d l m mask) := by
 unfold setB
 by_cases h0 : 0 ≤ mask
 ·have hp : ∃ n : Nat, piecesOf d l m = (n : Int) ∧ n ≤ 24 := by
   unfold piecesOf
   by_cases e : chk d l m = 0
   ·have hok := chk_ok e
    obtain ⟨D, M, rfl, rfl⟩ := hok.nats
    obtain ⟨h1, h2, h3, h4⟩ := hok.bounds
    rw [if_pos e]
    exact ⟨D + l.length + M, by omega, h4⟩
   ·rw [if_neg e]; exact ⟨0, rfl, by decide⟩
  obtain ⟨n, hn, hn2⟩ := hp
  refine Ev.congr (f := fun k => (quietusref07_Pieces.f k d l m).bind fun t => (quietusref07_Bit.f k t).bind fun t2 => some (decide (mask < t2))) (fun k => by unfold quietusref07_IsSet.f; rw [if_pos h0]) (Ev.bind (rpieces_ev d l m hs) ?_)
  rw [hn, Int.toNat_natCast]
  refine Ev.bind (rbit_ev n (by omega)) ?_
  simp only [h0, decide_true, Bool.true_and]
  exact Ev.now _
 ·refine Ev.congr (f := fun _ => some false) (fun k => by unfold quietusref07_IsSet.f; rw [if_neg (by omega)]) (ev_eq (Ev.now false) ?_)
  simp [h0]
theorem selRows_length (rows : List (List Int)) (mask : Nat) : ∀ n, (selRows rows mask n).length ≤ n
 | 0 => Nat.le_refl _
 | n + 1 => by
  simp only [selRows]
  have := selRows_length rows mask n
  split
  ·simp; omega
  ·omega
theorem rrec_from (D M : Nat) (l : List (List Int)) (hs : Small l) (hc : chk (D : Int) l (M : Int) = 0) (x : Nat) (hx : x < 2 ^ 62) : ∀ n i, i + n = D + l.length + M →
  Ev (fun k => quietusref07_Recoverable.l0 k (x : Int) (selRows (rowsOf D l M) x i) (i : Int) (D : Int) l (M : Int)) (decide (rkFrom D 0 (selRows (rowsOf D l M) x (D + l.length + M)) = D)) := by
 have hok := chk_ok hc
 obtain ⟨h1, h2, h3, h4⟩ := hok.bounds
 have hp : piecesOf (D : Int) l (M : Int) = ((D + l.length + M : Nat) : Int) := by unfold piecesOf; rw [if_pos hc]; omega
 have hpe := rpieces_ev (D : Int) l (M : Int) hs
 rw [hp] at hpe
 have hun : ∀ i k, quietusref07_Recoverable.l0 (k + 1) (x : Int) (selRows (rowsOf D l M) x i) (i : Nat) (D : Int) l (M : Int) = (quietusref07_Pieces.f k (D : Int) l (M : Int)).bind fun t => if (i : Int) < t then ((quietusref07_In.f k (x : Int) (i : Int)).bind fun t220 => if t220 = true then (quietusref07_row.f k (D : Int) l (M : Int) (i : Int)).bind fun t221 => if (selRows (rowsOf D l M) x i).length < 5864062014805 then quietusref07_Recoverable.l0 k (x : Int) (selRows (rowsOf D l M) x i ++ [t221]) (wrap64 ((i : Int) + 1)) (D : Int) l (M : Int) else none else quietusref07_Recoverable.l0 k (x : Int) (selRows (rowsOf D l M) x i) (wrap64 ((i : Int) + 1)) (D : Int) l (M : Int)) else ((quietusref07_Rank.f k (selRows (rowsOf D l M) x i) (D : Int)).bind fun t219 => some (t219 == (D : Int))) := fun i k => by simp only [quietusref07_Recoverable.l0]
 intro n
 induction n with
 | zero =>
  intro i hi
  obtain rfl : i = D + l.length + M := by omega
  refine Ev.step (hun _) (Ev.bind hpe ?_)
  simp only [Int.lt_irrefl, if_false]
  have hl : ∀ r ∈ selRows (rowsOf D l M) x (D + l.length + M), RowB D r := by
   have : ∀ n, n ≤ D + l.length + M → ∀ r ∈ selRows (rowsOf D l M) x n, RowB D r := by
    intro n
    induction n with
    | zero => intro _ r hr; cases hr
    | succ n ih =>
     intro hn r hr
     simp only [selRows] at hr
     split at hr
     ·rcases List.mem_append.1 hr with hr | hr
      ·exact ih (by omega) r hr
      ·obtain rfl := List.mem_singleton.1 hr
       exact rowsOf_rowB n (by rw [rowsOf_length]; omega)
     ·exact ih (by omega) r hr
   exact this _ (Nat.le_refl _)
  refine Ev.bind (rrank_ev D (by omega) _ hl (by have := selRows_length (rowsOf D l M) x (D + l.length + M); omega)) (ev_eq (Ev.now _) ?_)
  rw [Bool.eq_iff_iff, beq_iff_eq, decide_eq_true_eq]
  omega
 | succ n ih =>
  intro i hi
  have hnx := ih (i + 1) (by omega)
  refine Ev.step (hun _) (Ev.bind hpe ?_)
  have hi2 : (i : Int) < ((D + l.length + M : Nat) : Int) := by omega
  simp only [hi2, if_true]
  refine Ev.bind (rin_ev x i hx (by omega)) ?_
  simp only [selRows] at hnx
  rw [wrap_succ (by omega)]
  by_cases e : (x >>> i) % 2 = 1
  ·rw [if_pos e] at hnx
   have hlen : (selRows (rowsOf D l M) x i).length < 5864062014805 := by have := selRows_length (rowsOf D l M) x i; omega
   simp only [e, decide_true, if_true, hlen]
   refine Ev.bind (rrow_ev D l (M : Int) hs (by omega) (by omega) hok.elems i (by omega)) ?_
   rw [rowsOf_rd (by omega)] at hnx
   exact hnx
  ·rw [if_neg e] at hnx
   simp only [e, decide_false, Bool.false_eq_true, if_false]
   exact hnx
theorem selRows_rowB {D M : Nat} {l : List (List Int)} {x : Nat} : ∀ n, n ≤ D + l.length + M → ∀ r ∈ selRows (rowsOf D l M) x n, RowB D r := by
 intro n
 induction n with
 | zero => intro _ r hr; cases hr
 | succ n ih =>
  intro hn r hr
  simp only [selRows] at hr
  split at hr
  ·rcases List.mem_append.1 hr with hr | hr
   ·exact ih (by omega) r hr
   ·obtain rfl := List.mem_singleton.1 hr
    exact rowsOf_rowB n (by rw [rowsOf_length]; omega)
  ·exact ih (by omega) r hr
theorem rrec_ev (d : Int) (l : List (List Int)) (m mask : Int) (hs : Small l) : Ev (fun k => quietusref07_Recoverable.f k d l m mask) (canB d l m mask) := by
 refine Ev.congr (f := fun k => (quietusref07_Check.f k d l m).bind fun t => if t = 0 then ((quietusref07_IsSet.f k d l m mask).bind fun t2 => if t2 = true then quietusref07_Recoverable.l0 k mask ([] : List (List Int)) 0 d l m else some false) else some false) (fun k => rfl) (Ev.bind (rchk_ev d l m hs) ?_)
 by_cases e : chk d l m = 0
 ·have hok := chk_ok e
  obtain ⟨D, M, rfl, rfl⟩ := hok.nats
  obtain ⟨h1, h2, h3, h4⟩ := hok.bounds
  simp only [e, if_true]
  refine Ev.bind (rset_ev (D : Int) l (M : Int) mask hs) ?_
  have hp : piecesOf (D : Int) l (M : Int) = ((D + l.length + M : Nat) : Int) := by unfold piecesOf; rw [if_pos e]; omega
  have hci := canB_iff e mask
  unfold setB
  rw [hp, Int.toNat_natCast]
  by_cases h0 : 0 ≤ mask ∧ mask < ((2 ^ (D + l.length + M) : Nat) : Int)
  ·obtain ⟨x, rfl⟩ := Int.eq_ofNat_of_zero_le h0.1
   have hpl : 2 ^ (D + l.length + M) ≤ 2 ^ 24 := Nat.pow_le_pow_right (by decide) h4
   have hx : x < 2 ^ (D + l.length + M) := by have := h0.2; omega
   simp only [h0.1, h0.2, decide_true, Bool.true_and, if_true]
   refine ev_eq (rrec_from D M l hs e x (by omega) _ 0 (Nat.zero_add _)) ?_
   rw [Bool.eq_iff_iff, decide_eq_true_eq, hci, rank_full (selRows_rowB _ (Nat.le_refl _)), Int.toNat_natCast]
   exact ⟨fun h => ⟨h0.1, h0.2, h⟩, fun h => h.2.2⟩
  ·have hf : canB (D : Int) l (M : Int) mask = false := by
    cases h : canB (D : Int) l (M : Int) mask
    ·rfl
    ·exact absurd ⟨(hci.1 h).1, (hci.1 h).2.1⟩ h0
   rw [hf]
   have : (decide (0 ≤ mask) && decide (mask < ((2 ^ (D + l.length + M) : Nat) : Int))) = false := by
    rw [Bool.eq_false_iff]
    intro h
    rw [Bool.and_eq_true, decide_eq_true_eq, decide_eq_true_eq] at h
    exact h0 h
   simp only [this, Bool.false_eq_true, if_false]
   exact Ev.now _
 ·rw [canB_err e]
  simp only [e, if_false]
  exact Ev.now _

set_option linter.unusedSimpArgs false
theorem distFrom_spec (rows : List (List Int)) : ∀ d size, size + d = rows.length → size ≤ distFrom rows size d ∧ distFrom rows size d ≤ rows.length ∧
  (∀ t, size ≤ t → t < distFrom rows size d → (setsUpto (t : Int) (2 ^ rows.length)).any (lostBy rows) = false) ∧ (distFrom rows size d < rows.length → (setsUpto ((distFrom rows size d : Nat) : Int) (2 ^ rows.length)).any (lostBy rows) = true) := by
 intro d
 induction d with
 | zero => intro size h; simp only [distFrom]; exact ⟨by omega, Nat.le_refl _, fun t h1 h2 => by omega, fun h => by omega⟩
 | succ d ih =>
  intro size h
  simp only [distFrom]
  by_cases e : (setsUpto (size : Int) (2 ^ rows.length)).any (lostBy rows) = true
  ·rw [if_pos e]
   exact ⟨Nat.le_refl _, by omega, fun t h1 h2 => by omega, fun _ => e⟩
  ·rw [if_neg e]
   obtain ⟨h1, h2, h3, h4⟩ := ih (size + 1) (by omega)
   refine ⟨by omega, h2, fun t h5 h6 => ?_, h4⟩
   by_cases e2 : t = size
   ·subst e2; exact Bool.eq_false_iff.2 e
   ·exact h3 t (by omega) h6
theorem mem_sets {size : Int} {K s : Nat} : s ∈ setsUpto size K ↔ s < K ∧ onesOf s = size := by
 unfold setsUpto
 rw [List.mem_filter, List.mem_range, decide_eq_true_eq]
/-- A code with at most ten pieces: what Distance tells, by the sets that can be recovered. -/
structure Dist10 (N : Nat) (can : Nat → Bool) (dist : Nat) : Prop where
 pos : 1 ≤ dist
 le : dist ≤ N
 less : ∀ x, x < 2 ^ N → N - bitsUpto x N < dist → can x = true
 hit : dist < N → ∃ x, x < 2 ^ N ∧ N - bitsUpto x N = dist ∧ can x = false
theorem Dist10.uniq {N : Nat} {can : Nat → Bool} {a b : Nat} (ha : Dist10 N can a) (hb : Dist10 N can b) : a = b := by
 have one : ∀ {a b : Nat}, Dist10 N can a → Dist10 N can b → ¬ a < b := by
  intro a b ha hb h
  obtain ⟨x, h1, h2, h3⟩ := ha.hit (by have := hb.le; omega)
  rw [hb.less x h1 (by omega)] at h3
  cases h3
 rcases Nat.lt_trichotomy a b with h | h | h
 ·exact absurd h (one ha hb)
 ·exact h
 ·exact absurd h (one hb ha)
def canN (D : Nat) (l : List (List Int)) (M : Nat) (x : Nat) : Bool := canB (D : Int) l (M : Int) (x : Int)
theorem all_can {D M : Nat} {l : List (List Int)} (hc : chk (D : Int) l (M : Int) = 0) {x : Nat} (hx : x < 2 ^ (D + l.length + M)) (h : bitsUpto x (D + l.length + M) = D + l.length + M) : canN D l M x = true := by
 obtain ⟨h1, h2, h3, h4⟩ := (chk_ok hc).bounds
 unfold canN
 rw [canB_iff hc, Int.toNat_natCast]
 refine ⟨by omega, by omega, fun v hv hk i hi => ?_⟩
 -- all pieces are in the set
 have hall : ∀ n, n ≤ D + l.length + M → ∀ t, t < n → (x >>> t) % 2 = 1 := by
  have : ∀ n, (∃ t, t < n ∧ (x >>> t) % 2 ≠ 1) → bitsUpto x n < n := by
   intro n
   induction n with
   | zero => rintro ⟨t, ht, _⟩; omega
   | succ n ih =>
    rintro ⟨t, ht, hne⟩
    show bitsUpto x n + (x >>> n) % 2 < n + 1
    have hb := bitsUpto_le x n
    by_cases e : t = n
    ·subst e; omega
    ·have := ih ⟨t, by omega, hne⟩; omega
  intro n hn t ht
  by_cases e : (x >>> t) % 2 = 1
  ·exact e
  ·have := this (D + l.length + M) ⟨t, by omega, e⟩; omega
 have hmem : ∀ n, n ≤ D + l.length + M → ∀ t : Nat, t < n → rowAt D l t ∈ selRows (rowsOf D l M) x n := by
  intro n
  induction n with
  | zero => intro _ t ht; omega
  | succ n ih =>
   intro hn t ht
   simp only [selRows]
   rw [if_pos (hall (n + 1) hn n (Nat.lt_succ_self n))]
   by_cases e : t = n
   ·subst e
    rw [rowsOf_rd (by omega)]
    exact List.mem_append_right _ (List.mem_singleton.2 rfl)
   ·exact List.mem_append_left _ (ih (by omega) t (by omega))
 have hz := hk _ (hmem _ (Nat.le_refl _) i (by omega))
 have hr := rowAt_row D l i
 have hu : ∀ j, j < D → rd (rowAt D l i) (j : Int) = if j = i then 1 else 0 := by
  intro j hj
  rw [rdi (by rw [rowAt_length]; exact hj)]
  simp only [rowAt, List.getElem_map, List.getElem_range]
  unfold elAt unitAt
  rw [if_pos hi]
 have key : ∀ n, n ≤ D → dotU (rowAt D l i) v n = if i < n then v i else 0 := by
  intro n
  induction n with
  | zero => intro _; rw [if_neg (by omega)]; rfl
  | succ n ih =>
   intro hn
   show ixor (dotU (rowAt D l i) v n) (imul (rd (rowAt D l i) (n : Int)) (v n)) = _
   rw [ih (by omega), hu n (by omega)]
   by_cases e : n = i
   ·subst e
    rw [if_neg (by omega), if_pos rfl, if_pos (by omega), imul_one_left (hv n), ixor_zero (hv n)]
   ·rw [if_neg e, imul_zero_left (hv n)]
    by_cases e2 : i < n
    ·rw [if_pos e2, if_pos (by omega), ixor_zero_right (hv i)]
    ·rw [if_neg e2, if_neg (by omega)]; rfl
 rw [key D (Nat.le_refl _), if_pos hi] at hz
 exact hz
theorem cdist10 {D M : Nat} {l : List (List Int)} (hc : chk (D : Int) l (M : Int) = 0) (hN : D + l.length + M ≤ 10) : Dist10 (D + l.length + M) (canN D l M) (distOf (rowsOf D l M)) := by
 obtain ⟨h1, h2, h3, h4⟩ := (chk_ok hc).bounds
 have hrl := rowsOf_length D M l
 have hrf : rowsFor (D : Int) l (M : Int) = rowsOf D l M := by unfold rowsFor; rw [if_pos hc]; rfl
 obtain ⟨s1, s2, s3, s4⟩ := distFrom_spec (rowsOf D l M) ((rowsOf D l M).length - 1) 1 (by omega)
 have hd : distOf (rowsOf D l M) = distFrom (rowsOf D l M) 1 ((rowsOf D l M).length - 1) := rfl
 rw [← hd] at s1 s2 s3 s4
 rw [hrl] at s2 s3 s4
 have hlost : ∀ s, lostBy (rowsOf D l M) s = !(canN D l M (2 ^ (D + l.length + M) - 1 - s)) := by
  intro s
  unfold lostBy canN canB
  rw [hrf, hrl]
  cases collectOk (rowsOf D l M) ((2 ^ (D + l.length + M) - 1 - s : Nat) : Int) [] <;> rfl
 have h1024 : 2 ^ (D + l.length + M) ≤ 2 ^ 10 := Nat.pow_le_pow_right (by decide) hN
 have hones : ∀ s, s < 2 ^ (D + l.length + M) → onesOf s = ((bitsUpto s (D + l.length + M) : Nat) : Int) := by
  intro s hs
  rw [ones_bits s (by omega)]
  have := bitsUpto_small hs (10 - (D + l.length + M))
  rw [show D + l.length + M + (10 - (D + l.length + M)) = 10 by omega] at this
  rw [this]
 refine ⟨s1, s2, fun x hx hlt => ?_, fun hlt => ?_⟩
 ·by_cases e : bitsUpto x (D + l.length + M) = D + l.length + M
  ·exact all_can hc hx e
  ·have hb := bitsUpto_le x (D + l.length + M)
   have hs := s3 (D + l.length + M - bitsUpto x (D + l.length + M)) (by omega) hlt
   have hcmp := bitsUpto_compl hx (D + l.length + M) (Nat.le_refl _)
   have hm : (2 ^ (D + l.length + M) - 1 - x) ∈ setsUpto ((D + l.length + M - bitsUpto x (D + l.length + M) : Nat) : Int) (2 ^ (D + l.length + M)) := by
    rw [mem_sets]
    have hpos : 0 < 2 ^ (D + l.length + M) := Nat.two_pow_pos _
    exact ⟨by omega, by rw [hones _ (by omega), hcmp]⟩
   have hf : lostBy (rowsOf D l M) (2 ^ (D + l.length + M) - 1 - x) = false := by
    cases hl : lostBy (rowsOf D l M) (2 ^ (D + l.length + M) - 1 - x)
    ·rfl
    ·rw [List.any_eq_false] at hs
     exact absurd hl (hs _ hm)
   rw [hlost, show 2 ^ (D + l.length + M) - 1 - (2 ^ (D + l.length + M) - 1 - x) = x by omega] at hf
   simpa using hf
 ·have hs := s4 hlt
  rw [List.any_eq_true] at hs
  obtain ⟨s, hsm, hsl⟩ := hs
  obtain ⟨hs1, hs2⟩ := mem_sets.1 hsm
  rw [hones s hs1] at hs2
  have hb := bitsUpto_le s (D + l.length + M)
  have hcmp := bitsUpto_compl hs1 (D + l.length + M) (Nat.le_refl _)
  refine ⟨2 ^ (D + l.length + M) - 1 - s, by omega, by rw [hcmp]; omega, ?_⟩
  rw [hlost] at hsl
  simpa using hsl
/-! the reference's Distance -/
def leastFrom (N : Nat) (can : Nat → Bool) : Nat → Nat → Nat → Nat
 | 0, _, least => least
 | n + 1, x, least => leastFrom N can n (x + 1) (if N - bitsUpto x N < least ∧ can x = false then N - bitsUpto x N else least)
theorem least_spec (N : Nat) (can : Nat → Bool) : ∀ n x least, (∀ y, y < x → N - bitsUpto y N < least → can y = true) → (least = N ∨ ∃ y, y < x ∧ N - bitsUpto y N = least ∧ can y = false) →
  (∀ y, y < x + n → N - bitsUpto y N < leastFrom N can n x least → can y = true) ∧ (leastFrom N can n x least = N ∨ ∃ y, y < x + n ∧ N - bitsUpto y N = leastFrom N can n x least ∧ can y = false) := by
 intro n
 induction n with
 | zero => intro x least h1 h2; exact ⟨h1, h2⟩
 | succ n ih =>
  intro x least h1 h2
  simp only [leastFrom]
  rw [show x + (n + 1) = (x + 1) + n by omega]
  by_cases e : N - bitsUpto x N < least ∧ can x = false
  ·rw [if_pos e]
   refine ih (x + 1) _ (fun y hy hlt => ?_) (.inr ⟨x, by omega, rfl, e.2⟩)
   by_cases e2 : y = x
   ·subst e2; omega
   ·exact h1 y (by omega) (by omega)
  ·rw [if_neg e]
   refine ih (x + 1) _ (fun y hy hlt => ?_) (h2.imp id (fun ⟨y, h3, h4, h5⟩ => ⟨y, by omega, h4, h5⟩))
   by_cases e2 : y = x
   ·subst e2
    cases hcy : can y
    ·exact absurd ⟨hlt, hcy⟩ e
    ·rfl
   ·exact h1 y (by omega) hlt
theorem rdist_from {D M : Nat} {l : List (List Int)} (hs : Small l) (hc : chk (D : Int) l (M : Int) = 0) : ∀ n x least : Nat, x + n = 2 ^ (D + l.length + M) → least ≤ D + l.length + M →
  Ev (fun k => quietusref07_Distance.l0 k (least : Int) (x : Int) (D : Int) l (M : Int)) ((leastFrom (D + l.length + M) (canN D l M) n x least : Nat) : Int) := by
 obtain ⟨h1, h2, h3, h4⟩ := (chk_ok hc).bounds
 have hp : piecesOf (D : Int) l (M : Int) = ((D + l.length + M : Nat) : Int) := by unfold piecesOf; rw [if_pos hc]; omega
 have hpe := rpieces_ev (D : Int) l (M : Int) hs
 rw [hp] at hpe
 have hbe := rbit_ev (D + l.length + M) (by omega)
 have hpl : 2 ^ (D + l.length + M) ≤ 2 ^ 24 := Nat.pow_le_pow_right (by decide) h4
 have hun : ∀ (least x : Nat) k, quietusref07_Distance.l0 (k + 1) (least : Int) (x : Int) (D : Int) l (M : Int) = (quietusref07_Pieces.f k (D : Int) l (M : Int)).bind fun t229 => (quietusref07_Bit.f k t229).bind fun t230 => if (x : Int) < t230 then ((quietusref07_Pieces.f k (D : Int) l (M : Int)).bind fun t231 => (quietusref07_Count.f k (x : Int)).bind fun t232 => if (wrap64 (t231 - t232)) < (least : Int) then ((quietusref07_Recoverable.f k (D : Int) l (M : Int) (x : Int)).bind fun t233 => if t233 = true then (quietusref07_Distance.l0 k (least : Int) (wrap64 ((x : Int) + 1)) (D : Int) l (M : Int)) else (quietusref07_Distance.l0 k (wrap64 (t231 - t232)) (wrap64 ((x : Int) + 1)) (D : Int) l (M : Int))) else (quietusref07_Distance.l0 k (least : Int) (wrap64 ((x : Int) + 1)) (D : Int) l (M : Int))) else (some (least : Int)) := fun least x k => by simp only [quietusref07_Distance.l0]
 intro n
 induction n with
 | zero =>
  intro x least hx hl
  refine Ev.step (hun least x) (Ev.bind hpe (Ev.bind hbe ?_))
  have : ¬ (x : Int) < ((2 ^ (D + l.length + M) : Nat) : Int) := by omega
  simp only [this, if_false]
  exact Ev.now _
 | succ n ih =>
  intro x least hx hl
  have hx2 : x < 2 ^ (D + l.length + M) := by omega
  have hb := bitsUpto_le x (D + l.length + M)
  refine Ev.step (hun least x) (Ev.bind hpe (Ev.bind hbe ?_))
  have e1 : (x : Int) < ((2 ^ (D + l.length + M) : Nat) : Int) := by omega
  simp only [e1, if_true]
  refine Ev.bind hpe (Ev.bind (rcount_ev (D + l.length + M) x hx2 (by omega)) ?_)
  have e2 : wrap64 (((D + l.length + M : Nat) : Int) - ((bitsUpto x (D + l.length + M) : Nat) : Int)) = ((D + l.length + M - bitsUpto x (D + l.length + M) : Nat) : Int) := by unfold wrap64; omega
  rw [e2, wrap_succ (by omega)]
  simp only [leastFrom]
  by_cases c1 : D + l.length + M - bitsUpto x (D + l.length + M) < least
  ·have c1' : ((D + l.length + M - bitsUpto x (D + l.length + M) : Nat) : Int) < (least : Int) := by omega
   simp only [c1', if_true]
   refine Ev.bind (rrec_ev (D : Int) l (M : Int) (x : Int) hs) ?_
   cases hcx : canB (D : Int) l (M : Int) (x : Int) with
   | true =>
    rw [if_neg (fun h => by have h2 : canB (D : Int) l (M : Int) (x : Int) = false := h.2; rw [hcx] at h2; cases h2)]
    simp only [if_true]
    exact ih (x + 1) least (by omega) hl
   | false =>
    rw [if_pos ⟨c1, hcx⟩]
    simp only [Bool.false_eq_true, if_false]
    exact ih (x + 1) _ (by omega) (by omega)
  ·rw [if_neg (fun h => c1 h.1)]
   have c1' : ¬ ((D + l.length + M - bitsUpto x (D + l.length + M) : Nat) : Int) < (least : Int) := by omega
   simp only [c1', if_false]
   exact ih (x + 1) least (by omega) hl
theorem rdist10 {D M : Nat} {l : List (List Int)} (hc : chk (D : Int) l (M : Int) = 0) : Dist10 (D + l.length + M) (canN D l M) (leastFrom (D + l.length + M) (canN D l M) (2 ^ (D + l.length + M)) 0 (D + l.length + M)) := by
 obtain ⟨h1, h2, h3, h4⟩ := (chk_ok hc).bounds
 obtain ⟨s1, s2⟩ := least_spec (D + l.length + M) (canN D l M) (2 ^ (D + l.length + M)) 0 (D + l.length + M) (fun y hy => absurd hy (Nat.not_lt_zero y)) (.inl rfl)
 rw [Nat.zero_add] at s1 s2
 generalize leastFrom (D + l.length + M) (canN D l M) (2 ^ (D + l.length + M)) 0 (D + l.length + M) = z at *
 have hle : z ≤ D + l.length + M := by rcases s2 with h | ⟨y, _, h, _⟩ <;> omega
 refine ⟨?_, hle, s1, fun hlt => ?_⟩
 ·by_cases e : z = 0
  ·rcases s2 with h | ⟨y, hy, h5, h6⟩
   ·omega
   ·have hb := bitsUpto_le y (D + l.length + M)
    rw [all_can hc hy (by omega)] at h6
    cases h6
  ·omega
 ·rcases s2 with h | ⟨y, hy, h5, h6⟩
  ·omega
  ·exact ⟨y, hy, h5, h6⟩
/-- What Distance tells, with its error. -/
def distFor (d : Int) (l : List (List Int)) (m : Int) : Int := if chk d l m = 0 then ((distOf (rowsOf d.toNat l m.toNat) : Nat) : Int) else 0
theorem cdist_ev (d : Int) (l : List (List Int)) (m : Int) (hs : Small l) : Ev (fun k => code_Distance.f k d l m) (distFor d l m, chk d l m) := by
 unfold distFor
 refine Ev.congr (f := fun k => (code_Rows.f k d l m).bind fun r => if r.2 = 0 then (if okRows r.1 = true ∧ 0 < r.1.length then some (((distOf r.1 : Nat) : Int), 0) else none) else some (0, r.2)) (fun k => rfl) (Ev.bind (crows_ev d l m hs) ?_)
 by_cases e : chk d l m = 0
 ·have hok := chk_ok e
  obtain ⟨D, M, rfl, rfl⟩ := hok.nats
  obtain ⟨h1, h2, h3, h4⟩ := hok.bounds
  have hr : rowsFor (D : Int) l (M : Int) = rowsOf D l M := by unfold rowsFor; rw [if_pos e]; rfl
  have ho : okRows (rowsOf D l M) = true ∧ 0 < (rowsOf D l M).length := ⟨okRows_rows h1 h2 h4, by rw [rowsOf_length]; omega⟩
  simp only [e, if_true, hr, ho, and_self]
  exact Ev.now _
 ·simp only [e, if_false]
  exact Ev.now _
theorem rdist_ev (d : Int) (l : List (List Int)) (m : Int) (hs : Small l) (hc : chk d l m = 0) (hp : piecesOf d l m ≤ 10) : Ev (fun k => quietusref07_Distance.f k d l m) (distFor d l m) := by
 have hok := chk_ok hc
 obtain ⟨D, M, rfl, rfl⟩ := hok.nats
 obtain ⟨h1, h2, h3, h4⟩ := hok.bounds
 have hpp : piecesOf (D : Int) l (M : Int) = ((D + l.length + M : Nat) : Int) := by unfold piecesOf; rw [if_pos hc]; omega
 have hpe := rpieces_ev (D : Int) l (M : Int) hs
 rw [hpp] at hpe hp
 refine Ev.congr (f := fun k => (quietusref07_Pieces.f k (D : Int) l (M : Int)).bind fun t => quietusref07_Distance.l0 k t ((0 : Nat) : Int) (D : Int) l (M : Int)) (fun k => by unfold quietusref07_Distance.f; rfl) (Ev.bind hpe (ev_eq (rdist_from hs hc (2 ^ (D + l.length + M)) 0 (D + l.length + M) (Nat.zero_add _) (Nat.le_refl _)) ?_))
 unfold distFor
 rw [if_pos hc, Int.toNat_natCast, Int.toNat_natCast, (rdist10 hc).uniq (cdist10 hc (by omega))]
/-! what the law asks -/
theorem can_count {D M : Nat} {l : List (List Int)} (hc : chk (D : Int) l (M : Int) = 0) {x : Nat} (h : canN D l M x = true) : D ≤ bitsUpto x (D + l.length + M) := by
 obtain ⟨h1, h2, h3, h4⟩ := (chk_ok hc).bounds
 unfold canN at h
 obtain ⟨_, _, hf⟩ := (canB_iff hc _).1 h
 rw [Int.toNat_natCast] at hf
 have hci := (collect_iff (w := D) (mask := x) (pieces := []) (rows := rowsOf D l M) rowsOf_rowB).2 (by rw [rowsOf_length]; exact hf)
 rw [rowsOf_length] at hci
 have : ∀ n, (collectUpto D x (rowsOf D l M) [] n).length ≤ bitsUpto x n := by
  intro n
  induction n with
  | zero => exact Nat.le_refl _
  | succ n ih =>
   simp only [collectUpto]
   show _ ≤ bitsUpto x n + (x >>> n) % 2
   split
   ·rename_i hb
    rw [hb.1, List.length_append]
    have : ((addSt (collectUpto D x (rowsOf D l M) [] n) (rd_L4 (rowsOf D l M) (n : Int)) (rdOf ByteArray.empty [] (n : Int))).toList).length ≤ 1 := by
     cases addSt (collectUpto D x (rowsOf D l M) [] n) (rd_L4 (rowsOf D l M) (n : Int)) (rdOf ByteArray.empty [] (n : Int)) <;> simp
    omega
   ·omega
 have := this (D + l.length + M)
 omega
theorem selRows_mono {rows : List (List Int)} {x y : Nat} (h : ∀ i, x.testBit i = true → y.testBit i = true) : ∀ n, ∀ r ∈ selRows rows x n, r ∈ selRows rows y n := by
 intro n
 induction n with
 | zero => intro r hr; cases hr
 | succ n ih =>
  intro r hr
  simp only [selRows] at hr ⊢
  by_cases e : (x >>> n) % 2 = 1
  ·rw [if_pos e] at hr
   rw [if_pos ((bit_test y n).2 (h n ((bit_test x n).1 e)))]
   rcases List.mem_append.1 hr with hr | hr
   ·exact List.mem_append_left _ (ih r hr)
   ·exact List.mem_append_right _ hr
  ·rw [if_neg e] at hr
   split
   ·exact List.mem_append_left _ (ih r hr)
   ·exact ih r hr
theorem can_more {D M : Nat} {l : List (List Int)} (hc : chk (D : Int) l (M : Int) = 0) {x y : Nat} (hy : y < 2 ^ (D + l.length + M)) (h : ∀ i, x.testBit i = true → y.testBit i = true) (hx : canN D l M x = true) : canN D l M y = true := by
 unfold canN at hx ⊢
 rw [canB_iff hc] at hx ⊢
 rw [Int.toNat_natCast] at hx ⊢
 exact ⟨by omega, by omega, hx.2.2.mono (fun v hv hk r hr => hk r (selRows_mono h _ r hr))⟩

set_option linter.unusedSimpArgs false
theorem dist_walk (d : Int) (A : Option Addr) (c : Nat) (l : List (List Int)) (m mask piece : Int) (w : World) (hG : HG w) (hC : Kd.C (Kd.slice 3 (Kd.int .i64)) w A l.length l) (hc : l.length ≤ c) (hp0 : 0 ≤ piece) (hp1 : piece < 256) :
  Calls Tryd.prog 5 #[.agg #[.int .i64 d, .slice A l.length c, .int .i64 m], .int .i64 mask, .int .u8 piece] w fun e w' => e = .returned (.bool true) ∧ Below w.heap.size w w' := by
 obtain ⟨K, hK⟩ := few_ev d l m 10 (by decide)
 cases hf : fewB l 10 with
 | false => exact law07_dist.aside K d A c l m mask piece 0 false w hG hC hc (hf ▸ hK K (Nat.le_refl _)) (fun h => by cases h)
 | true =>
 obtain ⟨_, hs, _⟩ := few_small hf (by decide)
 obtain ⟨K1, h1⟩ := rpieces_ev d l m hs
 obtain ⟨K2, h2⟩ := cdist_ev d l m hs
 obtain ⟨K3, h3⟩ := rchk_ev d l m hs
 obtain ⟨K4, h4⟩ := cpieces_ev d l m hs
 obtain ⟨K5, h5⟩ := crec_ev d l m mask hs
 obtain ⟨K6, h6⟩ := rset_ev d l m mask hs
 by_cases hp : 10 < piecesOf d l m
 ·obtain ⟨k, hk⟩ : ∃ k, k = K + K1 := ⟨_, rfl⟩
  exact law07_dist.aside k d A c l m mask piece _ true w hG hC hc (hf ▸ hK k (by omega)) (fun _ => ⟨h1 k (by omega), hp⟩)
 ·by_cases he : chk d l m = 0
  ·obtain ⟨K7, h7⟩ := rdist_ev d l m hs he (by omega)
   rw [he] at h2 h3
   cases hset : setB d l m mask with
   | false =>
    have hcan : canB d l m mask = false := by
     cases hcb : canB d l m mask with
     | false => rfl
     | true =>
      exfalso
      have hok := chk_ok he
      obtain ⟨D, M, rfl, rfl⟩ := hok.nats
      have hpp : piecesOf (D : Int) l (M : Int) = ((D + l.length + M : Nat) : Int) := by unfold piecesOf; rw [if_pos he]; omega
      obtain ⟨g1, g2, _⟩ := (canB_iff he _).1 hcb
      have : setB (D : Int) l (M : Int) mask = true := by
       unfold setB
       rw [hpp, Int.toNat_natCast]
       simp only [Bool.and_eq_true, decide_eq_true_eq]
       exact ⟨g1, by omega⟩
      rw [this] at hset; cases hset
    obtain ⟨k, hk⟩ : ∃ k, k = K + K1 + K2 + K3 + K4 + K5 + K6 + K7 := ⟨_, rfl⟩
    exact law07_dist.unset k d A c l m mask piece _ _ w hG hC hc (hf ▸ hK k (by omega)) (h1 k (by omega)) (by omega) (h2 k (by omega)) (h3 k (by omega)) (h4 k (by omega)) (hcan ▸ h5 k (by omega)) (hset ▸ h6 k (by omega)) (h7 k (by omega))
   | true =>
    have hok := chk_ok he
    obtain ⟨D, M, rfl, rfl⟩ := hok.nats
    obtain ⟨b1, b2, b3, b4⟩ := hok.bounds
    have hpp : piecesOf (D : Int) l (M : Int) = ((D + l.length + M : Nat) : Int) := by unfold piecesOf; rw [if_pos he]; omega
    have hset' := hset
    unfold setB at hset'
    rw [hpp, Int.toNat_natCast] at hset'
    simp only [Bool.and_eq_true, decide_eq_true_eq] at hset'
    obtain ⟨x, rfl⟩ := Int.eq_ofNat_of_zero_le hset'.1
    have hx : x < 2 ^ (D + l.length + M) := by omega
    rw [hpp] at hp h1 h4
    have hN : D + l.length + M ≤ 10 := by omega
    have hx10 : x < 1024 := Nat.lt_of_lt_of_le hx (Nat.pow_le_pow_right (n := 2) (by decide) hN)
    obtain ⟨K8, h8⟩ := rcount_ev (D + l.length + M) x hx (by omega)
    obtain ⟨y, hy⟩ : ∃ y, y = x ||| 2 ^ (piece.toNat % (D + l.length + M)) := ⟨_, rfl⟩
    have hmod : piece.toNat % (D + l.length + M) < D + l.length + M := Nat.mod_lt _ (by omega)
    have hy2 : y < 2 ^ (D + l.length + M) := by rw [hy]; exact Nat.or_lt_two_pow hx (Nat.pow_lt_pow_right (by decide) hmod)
    obtain ⟨K9, h9⟩ := crec_ev (D : Int) l (M : Int) (y : Int) hs
    have hd : distFor (D : Int) l (M : Int) = ((distOf (rowsOf D l M) : Nat) : Int) := by unfold distFor; rw [if_pos he]; rfl
    have hD10 := cdist10 he hN
    obtain ⟨k, hk⟩ : ∃ k, k = K + K1 + K2 + K3 + K4 + K5 + K6 + K7 + K8 + K9 := ⟨_, rfl⟩
    refine law07_dist.set k (D : Int) A c l (M : Int) piece _ x y (D + l.length + M) (bitsUpto x (D + l.length + M)) (canB (D : Int) l (M : Int) (x : Int)) w hG hC hc (hf ▸ hK k (by omega)) (h1 k (by omega)) (by omega) hN (h2 k (by omega)) (h3 k (by omega)) (h4 k (by omega)) (h5 k (by omega)) (hset ▸ h6 k (by omega)) (h7 k (by omega)) (h8 k (by omega)) (bitsUpto_le _ _) hp0 hp1 hx10 hy _ rfl (fun hcan => ?_) (fun hcan => ?_) (fun hcan => ?_)
    ·have : canN D l M y = true := can_more he hy2 (fun i hi => by rw [hy, Nat.testBit_or, hi]; rfl) hcan
     exact this ▸ h9 k (by omega)
    ·have := can_count he hcan
     omega
    ·rw [decide_eq_false_iff_not, hd]
     intro hlt
     have h0 : D + l.length + M - bitsUpto x (D + l.length + M) < distOf (rowsOf D l M) := by have := bitsUpto_le x (D + l.length + M); omega
     have h1 := hD10.less x hx h0
     unfold canN at h1
     rw [h1] at hcan; cases hcan
  ·have hd0 : distFor d l m = 0 := by unfold distFor; rw [if_neg he]
   rw [hd0] at h2
   obtain ⟨k, hk⟩ : ∃ k, k = K + K1 + K2 + K3 := ⟨_, rfl⟩
   exact law07_dist.err k d A c l m mask piece _ _ w hG hC hc (hf ▸ hK k (by omega)) (h1 k (by omega)) (by omega) (h2 k (by omega)) (h3 k (by omega)) he
end Go.Proofs.YtkadfidmfnpohaaDoor.XB
