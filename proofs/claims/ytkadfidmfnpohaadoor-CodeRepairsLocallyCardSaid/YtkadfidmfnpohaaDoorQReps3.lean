/- Lemmas for the claim Reps: functions of the program as plain Lean functions, each with its contract, and what is proved of them. -/
import Derived.Test.YtkadfidmfnpohaaDoorQReps1
import Derived.Test.YtkadfidmfnpohaaDoorQReps2
import Derived.Maps.OwnOps
import Derived.Maps.OwnSet
import Derived.Maps.Views
import Derived.Maps.AppendAt
namespace Go.Proofs.YtkadfidmfnpohaaDoor.XB
open Go.RowKit Go.Proofs.YtkadfidmfnpohaaDoorW.PrintWords Go.Proofs.YtkadfidmfnpohaaDoorW.PrintLast Go.Proofs.YtkadfidmfnpohaaDoorW.PrintMore
set_option linter.unusedVariables false
set_option linter.unusedSimpArgs false

/-! ### quietuslaw07_sanity: function 15 -/
/-! a code in its variable -/
def CodeAt (g : Nat) (A : Option Addr) (c : Nat) (d : Int) (l : List (List Int)) (m : Int) (W : World) : Prop :=
 W.heap[g]? = some (.cells #[.int .i64 d, .slice A l.length c, .int .i64 m] 24 (0, 0)) ∧ l.length ≤ c ∧ Kd.C (Kd.slice 3 (Kd.int .i64)) W A l.length l ∧ HG W
theorem CodeAt.below {g : Nat} {A : Option Addr} {c : Nat} {d : Int} {l : List (List Int)} {m : Int} {W W' : World} (h : CodeAt g A c d l m W) (hb : Below W.heap.size W W') : CodeAt g A c d l m W' :=
 ⟨blk_below h.1 hb, h.2.1, Kd.C_below h.2.2.1 hb, h.2.2.2.below hb⟩
section
variable {g : Nat} {A : Option Addr} {c : Nat} {d : Int} {l : List (List Int)} {m : Int} {W : World}
theorem CodeAt.hg (h : CodeAt g A c d l m W) : HG W := h.2.2.2
theorem CodeAt.c0 (h : CodeAt g A c d l m W) : W.cell? ⟨g, 0, none⟩ = some (.int .i64 d) := blk_cell h.1 0
theorem CodeAt.c1 (h : CodeAt g A c d l m W) : W.cell? ⟨g, 1, none⟩ = some (.slice A l.length c) := blk_cell h.1 1
theorem CodeAt.c2 (h : CodeAt g A c d l m W) : W.cell? ⟨g, 2, none⟩ = some (.int .i64 m) := blk_cell h.1 2
theorem CodeAt.rows {k : Nat} {r1 : List (List Int)} {r2 : Int} (h : CodeAt g A c d l m W) (hr : code_Rows.f k d l m = some (r1, r2)) :
  Calls Tryd.prog 17 #[.agg #[.int .i64 d, .slice A l.length c, .int .i64 m]] W fun e w' => ∃ v0_ : Value, e = .returned (.tuple #[v0_, .int .i64 r2]) ∧ Kd.S (Kd.slice 5 (Kd.int .u8)) 57 w' W.heap.size (fun _ => True) v0_ r1 ∧ Below W.heap.size W w' :=
 code_Rows.calls k d A c l m r1 r2 W h.2.2.2 h.2.2.1 h.2.1 hr
theorem CodeAt.encode {k : Nat} {s : ByteArray} {r1 : List ByteArray} {r2 : Int} (h : CodeAt g A c d l m W) (hr : code_Encode.f k d l m s = some (r1, r2)) :
  Calls Tryd.prog 18 #[.agg #[.int .i64 d, .slice A l.length c, .int .i64 m], .string s] W fun e w' => ∃ v0_ : Value, e = .returned (.tuple #[v0_, .int .i64 r2]) ∧ Kd.R Kd.string 9 w' W.heap.size (fun _ => True) v0_ r1 ∧ Below W.heap.size W w' :=
 code_Encode.calls k d A c l m s r1 r2 W h.2.2.2 h.2.2.1 h.2.1 hr
theorem CodeAt.check {k : Nat} {r : Int} (h : CodeAt g A c d l m W) (hr : code_Check.f k d l m = some r) :
  Calls Tryd.prog 20 #[.agg #[.int .i64 d, .slice A l.length c, .int .i64 m]] W fun e w' => e = .returned (.int .i64 r) ∧ Below W.heap.size W w' :=
 code_Check.calls k d A c l m r W h.2.2.2 h.2.2.1 h.2.1 hr
theorem CodeAt.pieces {k : Nat} {r : Int} (h : CodeAt g A c d l m W) (hr : code_Pieces.f k d l m = some r) :
  Calls Tryd.prog 21 #[.agg #[.int .i64 d, .slice A l.length c, .int .i64 m]] W fun e w' => e = .returned (.int .i64 r) ∧ Below W.heap.size W w' :=
 code_Pieces.calls k d A c l m r W h.2.2.2 h.2.2.1 h.2.1 hr
theorem CodeAt.size {k : Nat} {n r : Int} (h : CodeAt g A c d l m W) (hr : code_Size.f k d l m n = some r) :
  Calls Tryd.prog 23 #[.agg #[.int .i64 d, .slice A l.length c, .int .i64 m], .int .i64 n] W fun e w' => e = .returned (.int .i64 r) ∧ Below W.heap.size W w' :=
 code_Size.calls k d A c l m n r W h.2.2.2 h.2.2.1 h.2.1 hr
theorem CodeAt.recoverable {k : Nat} {n : Int} {r : Bool} (h : CodeAt g A c d l m W) (hr : code_Recoverable.f k d l m n = some r) :
  Calls Tryd.prog 30 #[.agg #[.int .i64 d, .slice A l.length c, .int .i64 m], .int .i64 n] W fun e w' => e = .returned (.bool r) ∧ Below W.heap.size W w' :=
 code_Recoverable.calls k d A c l m n r W h.2.2.2 h.2.2.1 h.2.1 hr
theorem CodeAt.distance {k : Nat} {r1 r2 : Int} (h : CodeAt g A c d l m W) (hr : code_Distance.f k d l m = some (r1, r2)) :
  Calls Tryd.prog 32 #[.agg #[.int .i64 d, .slice A l.length c, .int .i64 m]] W fun e w' => e = .returned (.tuple #[.int .i64 r1, .int .i64 r2]) ∧ Below W.heap.size W w' :=
 code_Distance.calls k d A c l m r1 r2 W h.2.2.2 h.2.2.1 h.2.1 hr
theorem CodeAt.decode {k : Nat} {n mask : Int} {Ap : Option Addr} {cp np : Nat} {p : List ByteArray} {r1 : ByteArray} {r2 : Int} (h : CodeAt g A c d l m W) (hn : p.length = np) (hp : Kd.C Kd.string W Ap np p) (hcp : np ≤ cp) (hr : code_Decode.f k d l m n mask p = some (r1, r2)) :
  Calls Tryd.prog 28 #[.agg #[.int .i64 d, .slice A l.length c, .int .i64 m], .int .i64 n, .int .i64 mask, .slice Ap np cp] W fun e w' => e = .returned (.tuple #[.string r1, .int .i64 r2]) ∧ Below W.heap.size W w' := by
 subst hn
 exact code_Decode.calls k d A c l m n mask Ap cp p r1 r2 W h.2.2.2 h.2.2.1 h.2.1 hp hcp hr
end
/-! the document's example -/
def exL : List (List Int) := [[0, 1], [2, 3]]
def exRows : List (List Int) := [[1, 0, 0, 0], [0, 1, 0, 0], [0, 0, 1, 0], [0, 0, 0, 1], [1, 1, 0, 0], [0, 0, 1, 1], [1, 2, 4, 8]]
def exParts : List ByteArray := [⟨#[1, 2]⟩, ⟨#[3, 4]⟩, ⟨#[5, 6]⟩, ⟨#[7, 0]⟩, ⟨#[2, 6]⟩, ⟨#[2, 6]⟩, ⟨#[43, 18]⟩]
def exBad : List ByteArray := [⟨#[1, 2]⟩, ⟨#[3, 4]⟩, ⟨#[5, 6]⟩, ⟨#[7, 0]⟩, ⟨#[2, 6]⟩, ⟨#[2, 7]⟩, ⟨#[43, 18]⟩]
theorem ex_check : code_Check.f 40 4 exL 1 = some 0 := by decide +kernel
theorem ex_rows : code_Rows.f 40 4 exL 1 = some (exRows, 0) := by decide +kernel
theorem ex_encode : code_Encode.f 40 4 exL 1 (⟨#[1, 2, 3, 4, 5, 6, 7]⟩ : ByteArray) = some (exParts, 0) := by decide +kernel
theorem ex_pieces : code_Pieces.f 40 4 exL 1 = some 7 := by decide +kernel
theorem ex_size : code_Size.f 40 4 exL 1 7 = some 2 := by decide +kernel
theorem ex_can1 : code_Recoverable.f 40 4 exL 1 124 = some true := by decide +kernel
theorem ex_can2 : code_Recoverable.f 40 4 exL 1 120 = some true := by decide +kernel
theorem ex_can3 : code_Recoverable.f 40 4 exL 1 60 = some false := by decide +kernel
theorem ex_dist : code_Distance.f 40 4 exL 1 = some (3, 0) := by decide +kernel
theorem ex_dec1 : code_Decode.f 40 4 exL 1 7 30 exParts = some (⟨#[1, 2, 3, 4, 5, 6, 7]⟩, 0) := by decide +kernel
theorem ex_dec2 : code_Decode.f 40 4 exL 1 7 60 exParts = some (⟨#[]⟩, 17) := by decide +kernel
theorem ex_dec3 : code_Decode.f 40 4 exL 1 7 127 exBad = some (⟨#[]⟩, 14) := by decide +kernel
theorem ex_row {w : World} {gr : Nat} (h : Kd.C (Kd.slice 5 (Kd.int .u8)) w (some ⟨gr, 0, none⟩) 7 exRows) (i : Nat) (hi : i < 7) (x : List Int) (s : ByteArray) (hx : rd_L4 exRows (i : Int) = x) (n : Nat) (hn : x.length = n) (hs : strOfNums x = s) :
  ∃ A0 c0, w.cell? ⟨gr, i, none⟩ = some (.slice A0 n c0) ∧ (convert 57 9 (.slice A0 n c0)).run Tryd.prog w = .ok (.string s) w := by
 obtain ⟨ad', A0, c0, e, h1, _, h2⟩ := at_L4 h (i : Int) (by omega) (by omega)
 obtain rfl : ⟨gr, 0, none⟩ = ad' := by injection e
 rw [hx, hn, Int.toNat_natCast] at h1
 rw [show (⟨gr, 0, none⟩ : Addr).add i = ⟨gr, i, none⟩ from add_plain _ _] at h1
 rw [hx, hn] at h2
 rw [← hs]
 exact ⟨A0, c0, h1, Kd.C_string Tryd.underlying57 Tryd.underlying5 Tryd.underlying9 h2⟩
theorem ex_part {w : World} {gp : Nat} {p : List ByteArray} (h : Kd.C Kd.string w (some ⟨gp, 0, none⟩) 7 p) (i : Nat) (hi : i < 7) (s : ByteArray) (hs : rdOf ByteArray.empty p (i : Int) = s) : w.cell? ⟨gp, i, none⟩ = some (.string s) := by
 obtain ⟨ad', e, h1⟩ := at_string_nat h i hi
 obtain rfl : ⟨gp, 0, none⟩ = ad' := by injection e
 rw [show (⟨gp, 0, none⟩ : Addr).add i = ⟨gp, i, none⟩ from add_plain _ _] at h1
 rw [h1, hs]
set_option maxHeartbeats 4000000 in
set_option maxRecDepth 100000 in
theorem quietuslaw07_sanity.yes (w : World) (hG : HG w) :
  Calls Tryd.prog 15 #[] w fun e w' => e = .returned (.bool true) ∧ Below w.heap.size w w' := by
 have HGw := Aside0.mk hG
 have hu24 := Tryd.underlying24
 have hex : quietuslaw07_example.f = some (4, exL, 1) := rfl
 have HEX := Aside0.mk hex
 have HRows := Aside0.mk ex_rows
 have HEnc := Aside0.mk ex_encode
 have HChk := Aside0.mk ex_check
 have HPie := Aside0.mk ex_pieces
 have HSiz := Aside0.mk ex_size
 have HR1 := Aside0.mk ex_can1
 have HR2 := Aside0.mk ex_can2
 have HR3 := Aside0.mk ex_can3
 have HDi := Aside0.mk ex_dist
 have HD1 := Aside0.mk ex_dec1
 have HD2 := Aside0.mk ex_dec2
 have HD3 := Aside0.mk ex_dec3
 generalize exL = L at HEX HRows HEnc HChk HPie HSiz HR1 HR2 HR3 HDi HD1 HD2 HD3
 clear hG hex
 go_enter Tryd.func15, Tryd.ntmps15
 go_upto_region 4 with (first
  | (go_at_call 56; (with_reducible refine (quietuslaw07_example.calls 4 L 1 _ HGw.out HEX.out).mono ?_); rintro e w5 ⟨v0, rfl, hN, hb5⟩; obtain ⟨A, c, rfl, hc, hC⟩ := Kd.N_reads hN; have HK0 := Aside0.mk (show CodeAt w5.heap.size A c 4 L 1 (w5.alloc (.cells #[.int .i64 4, .slice A L.length c, .int .i64 1] 24)) from ⟨blk_new _ _, hc, Kd.C_alloc hC _, (HGw.out.below hb5).alloc _⟩); have HB0 := Aside0.mk (below_alloc hb5 (.cells #[.int .i64 4, .slice A L.length c, .int .i64 1] 24)); clear hN hC hc hb5)
  | (go_at_call 17; (with_reducible refine (HK0.out.rows HRows.out).mono ?_); rintro e w6 ⟨v1, rfl, hS, hb⟩; obtain ⟨gr, cr, rfl, _, _, _⟩ := Kd.S_form hS (by decide); have hCr := (Kd.S_reads' hS).2.2; have HK1 := Aside0.mk (HK0.out.below hb); have HB1 := Aside0.mk (below_step HB0.out hb); have HCR1 := Aside0.mk (show Kd.C (Kd.slice 5 (Kd.int .u8)) w6 (some ⟨gr, 0, none⟩) 7 exRows from hCr); rw [show exRows.length = 7 from rfl]; clear hS hb hCr; generalize w5.heap.size = gc at *; have hz0 := HK1.out.c0; have hz1 := HK1.out.c1; have hz2 := HK1.out.c2)
  | (go_at_call 18; (with_reducible refine (HK1.out.encode HEnc.out).mono ?_); rintro e w7 ⟨v2, rfl, hR, hb⟩; have HK2 := Aside0.mk (HK1.out.below hb); have HB2 := Aside0.mk (below_step HB1.out hb); have HCR2 := Aside0.mk (Kd.C_below HCR1.out hb); obtain ⟨gp, cp, rfl, hgp, _, _⟩ := Kd.R_form hR (by decide); have HP2 := Aside0.mk (show Kd.R Kd.string 9 w7 w6.heap.size (fun _ => True) (.slice (some ⟨gp, 0, none⟩) 7 cp) exParts from hR); rw [show exParts.length = 7 from rfl]; have HGP := Aside0.mk hgp; have HBE := Aside0.mk hb; clear hR hb hgp hz0 hz1 hz2; have hz0 := HK2.out.c0; have hz1 := HK2.out.c1; have hz2 := HK2.out.c2))
 go_upto_region 6 with (first | (go_at_call 20; (with_reducible refine (HK2.out.check HChk.out).mono ?_); rintro e w8 ⟨rfl, hb⟩; have HKn := Aside0.mk (HK2.out.below hb); have HBn := Aside0.mk (below_step HB2.out hb); have HEn := Aside0.mk (below_step HBE.out hb); have HCn := Aside0.mk (Kd.C_below HCR2.out hb); have HPn := Aside0.mk (Kd.R_below HP2.out hb); clear HK2 HB2 HBE HCR2 HP2 hz0 hz1 hz2 hb; have HK2 := HKn; have HB2 := HBn; have HBE := HEn; have HCR2 := HCn; have HP2 := HPn; clear HKn HBn HEn HCn HPn; have hz0 := HK2.out.c0; have hz1 := HK2.out.c1; have hz2 := HK2.out.c2) | (go_at_call 21; (with_reducible refine (HK2.out.pieces HPie.out).mono ?_); rintro e w8 ⟨rfl, hb⟩; have HKn := Aside0.mk (HK2.out.below hb); have HBn := Aside0.mk (below_step HB2.out hb); have HEn := Aside0.mk (below_step HBE.out hb); have HCn := Aside0.mk (Kd.C_below HCR2.out hb); have HPn := Aside0.mk (Kd.R_below HP2.out hb); clear HK2 HB2 HBE HCR2 HP2 hz0 hz1 hz2 hb; have HK2 := HKn; have HB2 := HBn; have HBE := HEn; have HCR2 := HCn; have HP2 := HPn; clear HKn HBn HEn HCn HPn; have hz0 := HK2.out.c0; have hz1 := HK2.out.c1; have hz2 := HK2.out.c2) | (go_at_call 23; (with_reducible refine (HK2.out.size HSiz.out).mono ?_); rintro e w8 ⟨rfl, hb⟩; have HKn := Aside0.mk (HK2.out.below hb); have HBn := Aside0.mk (below_step HB2.out hb); have HEn := Aside0.mk (below_step HBE.out hb); have HCn := Aside0.mk (Kd.C_below HCR2.out hb); have HPn := Aside0.mk (Kd.R_below HP2.out hb); clear HK2 HB2 HBE HCR2 HP2 hz0 hz1 hz2 hb; have HK2 := HKn; have HB2 := HBn; have HBE := HEn; have HCR2 := HCn; have HP2 := HPn; clear HKn HBn HEn HCn HPn; have hz0 := HK2.out.c0; have hz1 := HK2.out.c1; have hz2 := HK2.out.c2))
 obtain ⟨hcp_, hCp⟩ := (Kd.R_reads' HP2.out).2
 have HCP := Aside0.mk (show Kd.C Kd.string _ (some ⟨gp, 0, none⟩) 7 exParts from hCp)
 obtain ⟨B4, b4, hr4, hs4⟩ := ex_row HCR2.out 4 (by omega) _ ⟨#[1, 1, 0, 0]⟩ rfl 4 rfl rfl
 obtain ⟨B5, b5, hr5, hs5⟩ := ex_row HCR2.out 5 (by omega) _ ⟨#[0, 0, 1, 1]⟩ rfl 4 rfl rfl
 obtain ⟨B6, b6, hr6, hs6⟩ := ex_row HCR2.out 6 (by omega) _ ⟨#[1, 2, 4, 8]⟩ rfl 4 rfl rfl
 have hp3 := ex_part HCP.out 3 (by omega) ⟨#[7, 0]⟩ rfl
 have hp4 := ex_part HCP.out 4 (by omega) ⟨#[2, 6]⟩ rfl
 have hp5 := ex_part HCP.out 5 (by omega) ⟨#[2, 6]⟩ rfl
 have hp6 := ex_part HCP.out 6 (by omega) ⟨#[43, 18]⟩ rfl
 clear hCp
 go_upto_region 7 with (fail)
 clear hr4 hr5 hr6 hs4 hs5 hs6 hp3 hp4 hp5 hp6 HCR2
 have HN7 := Aside0.mk (show exParts.length = 7 from rfl)
 have HM7 := Aside0.mk (show exBad.length = 7 from rfl)
 go_upto_region 11 with (first | (go_at_call 30; (with_reducible refine (HK2.out.recoverable HR1.out).mono ?_); rintro e w8 ⟨rfl, hb⟩; have HKn := Aside0.mk (HK2.out.below hb); have HBn := Aside0.mk (below_step HB2.out hb); have HEn := Aside0.mk (below_step HBE.out hb); have HPn := Aside0.mk (Kd.R_below HP2.out hb); have HCn := Aside0.mk (Kd.C_below HCP.out hb); clear HK2 HB2 HBE HP2 HCP hz0 hz1 hz2 hb; have HK2 := HKn; have HB2 := HBn; have HBE := HEn; have HP2 := HPn; have HCP := HCn; clear HKn HBn HEn HPn HCn; have hz0 := HK2.out.c0; have hz1 := HK2.out.c1; have hz2 := HK2.out.c2) | (go_at_call 30; (with_reducible refine (HK2.out.recoverable HR2.out).mono ?_); rintro e w8 ⟨rfl, hb⟩; have HKn := Aside0.mk (HK2.out.below hb); have HBn := Aside0.mk (below_step HB2.out hb); have HEn := Aside0.mk (below_step HBE.out hb); have HPn := Aside0.mk (Kd.R_below HP2.out hb); have HCn := Aside0.mk (Kd.C_below HCP.out hb); clear HK2 HB2 HBE HP2 HCP hz0 hz1 hz2 hb; have HK2 := HKn; have HB2 := HBn; have HBE := HEn; have HP2 := HPn; have HCP := HCn; clear HKn HBn HEn HPn HCn; have hz0 := HK2.out.c0; have hz1 := HK2.out.c1; have hz2 := HK2.out.c2) | (go_at_call 30; (with_reducible refine (HK2.out.recoverable HR3.out).mono ?_); rintro e w8 ⟨rfl, hb⟩; have HKn := Aside0.mk (HK2.out.below hb); have HBn := Aside0.mk (below_step HB2.out hb); have HEn := Aside0.mk (below_step HBE.out hb); have HPn := Aside0.mk (Kd.R_below HP2.out hb); have HCn := Aside0.mk (Kd.C_below HCP.out hb); clear HK2 HB2 HBE HP2 HCP hz0 hz1 hz2 hb; have HK2 := HKn; have HB2 := HBn; have HBE := HEn; have HP2 := HPn; have HCP := HCn; clear HKn HBn HEn HPn HCn; have hz0 := HK2.out.c0; have hz1 := HK2.out.c1; have hz2 := HK2.out.c2) | (go_at_call 32; (with_reducible refine (HK2.out.distance HDi.out).mono ?_); rintro e w8 ⟨rfl, hb⟩; have HKn := Aside0.mk (HK2.out.below hb); have HBn := Aside0.mk (below_step HB2.out hb); have HEn := Aside0.mk (below_step HBE.out hb); have HPn := Aside0.mk (Kd.R_below HP2.out hb); have HCn := Aside0.mk (Kd.C_below HCP.out hb); clear HK2 HB2 HBE HP2 HCP hz0 hz1 hz2 hb; have HK2 := HKn; have HB2 := HBn; have HBE := HEn; have HP2 := HPn; have HCP := HCn; clear HKn HBn HEn HPn HCn; have hz0 := HK2.out.c0; have hz1 := HK2.out.c1; have hz2 := HK2.out.c2) | (go_at_call 28; (with_reducible refine (HK2.out.decode HN7.out HCP.out hcp_ HD1.out).mono ?_); rintro e w8 ⟨rfl, hb⟩; have HKn := Aside0.mk (HK2.out.below hb); have HBn := Aside0.mk (below_step HB2.out hb); have HEn := Aside0.mk (below_step HBE.out hb); have HPn := Aside0.mk (Kd.R_below HP2.out hb); have HCn := Aside0.mk (Kd.C_below HCP.out hb); clear HK2 HB2 HBE HP2 HCP hz0 hz1 hz2 hb; have HK2 := HKn; have HB2 := HBn; have HBE := HEn; have HP2 := HPn; have HCP := HCn; clear HKn HBn HEn HPn HCn; have hz0 := HK2.out.c0; have hz1 := HK2.out.c1; have hz2 := HK2.out.c2) | (go_at_call 28; (with_reducible refine (HK2.out.decode HN7.out HCP.out hcp_ HD2.out).mono ?_); rintro e w8 ⟨rfl, hb⟩; have HKn := Aside0.mk (HK2.out.below hb); have HBn := Aside0.mk (below_step HB2.out hb); have HEn := Aside0.mk (below_step HBE.out hb); have HPn := Aside0.mk (Kd.R_below HP2.out hb); have HCn := Aside0.mk (Kd.C_below HCP.out hb); clear HK2 HB2 HBE HP2 HCP hz0 hz1 hz2 hb; have HK2 := HKn; have HB2 := HBn; have HBE := HEn; have HP2 := HPn; have HCP := HCn; clear HKn HBn HEn HPn HCn; have hz0 := HK2.out.c0; have hz1 := HK2.out.c1; have hz2 := HK2.out.c2))
 obtain ⟨hom, hfz⟩ := Kd.R_celln (ByteArray.empty) HP2.out (5 : Int) (by omega) (by decide)
 rw [show (5 : Int).toNat = 5 from rfl] at hom hfz
 have HPUT := Aside0.mk (Kd.R_putn HP2.out (5 : Int) ⟨#[2, 7]⟩)
 have hEw := below_set (j := 5) (v := .string ⟨#[2, 7]⟩) HBE.out HGP.out
 have HKw := Aside0.mk (HK1.out.below hEw)
 have HCw := Aside0.mk (show Kd.C Kd.string (World.setCell _ ⟨gp, 5, none⟩ (.string ⟨#[2, 7]⟩)) (some ⟨gp, 0, none⟩) 7 exBad from (Kd.R_reads' HPUT.out).2.2)
 have HBw := Aside0.mk (below_step HB1.out hEw)
 go_upto_region 12 with (fail)
 clear hz0 hz1 hz2 hom hfz hEw
 have hz0 := HKw.out.c0
 have hz1 := HKw.out.c1
 have hz2 := HKw.out.c2
 go_wp2_with (go_at_call 28; (with_reducible refine (HKw.out.decode HM7.out HCw.out hcp_ HD3.out).mono ?_); rintro e w8 ⟨rfl, hb⟩; have HBz := Aside0.mk (below_step HBw.out hb); clear hb)
 go_ret
 exact ⟨rfl, HBz.out⟩


/-! ### quietuslaw07_CodeEncodesAsSpecified: function 3 -/
section
variable {g : Nat} {A : Option Addr} {c : Nat} {d : Int} {l : List (List Int)} {m : Int} {W : World}
end
theorem CodeAt.keep {g : Nat} {A : Option Addr} {c : Nat} {d : Int} {l : List (List Int)} {m : Int} {w W W' : World} (h : CodeAt g A c d l m W) (hb : Below W.heap.size W W') : Aside0 (CodeAt g A c d l m W') := ⟨h.below hb⟩

/-! ### quietusref07_Count: function 35 -/
def quietusref07_Count.l0 : Nat → Int → Int → Option (Int)
 | 0, _, _ => none
 | k + 1, x0, x3 => if x0 > 0 then (quietusref07_Count.l0 k (wrap64 (Int.tdiv x0 2)) (wrap64 (x3 + (Int.tmod x0 2)))) else (some x3)
def quietusref07_Count.f (k : Nat) (a0 : Int) : Option (Int) := quietusref07_Count.l0 k a0 0
set_option maxHeartbeats 8000000 in
set_option maxRecDepth 100000 in
theorem quietusref07_Count.calls (k : Nat) (a0 : Int) (r : Int) (w : World) (hG : HG w) (h : quietusref07_Count.f k a0 = some r) :
  Calls Tryd.prog 35 #[.int .i64 a0] w fun e w' => e = .returned (.int .i64 r) ∧ Drawn0 w w' := by
 have HGw := Aside0.mk hG
 clear hG
 have H : (quietusref07_Count.l0 k a0 0) = some r := h
 clear h
 have H' := Aside0.mk H
 clear H
 go_enter Tryd.func35, Tryd.ntmps35
 go_wp2
 go_loopg [0, 3] k (fun kq v0 v3 w' => ∃ (x0_1 : Int) (x3_1 : Int), v0 = .int .i64 x0_1 ∧ v3 = .int .i64 x3_1 ∧ Aside0 (quietusref07_Count.l0 kq x0_1 x3_1 = some r) ∧ Aside0 (kq ≤ k) ∧ Drawn0 w w')
 case atStart => exact ⟨(a0), (0), (by first | rfl | (simp; done) | (simp [*]; done)), (by first | rfl | (simp; done) | (simp [*]; done)), H', ⟨Nat.le_refl _⟩, by repeat (first | exact Drawn0.refl _ | apply Drawn0.step)⟩
 case round =>
  clear H'
  obtain ⟨x0_1, x3_1, rfl, rfl, HA, HK1, ⟨m1, rfl⟩⟩ := hrel
  cases gk with
  | zero => exact absurd HA.out (by simp [quietusref07_Count.l0])
  | succ k1 =>
   have H := HA.out
   clear HA
   simp only [quietusref07_Count.l0] at H
   by_cases c2 : x0_1 > 0
   ·rw [if_pos c2] at H
    have c2b0 : decide (0 < x0_1) = true := decide_eq_true c2
    clear c2
    have H' := Aside0.mk H
    clear H
    go_wp2
    go_roundg k1
    case measure => have := HK1.out; omega
    case rel => exact ⟨(wrap64 (Int.tdiv x0_1 2)), (wrap64 (x3_1 + (Int.tmod x0_1 2))), (by first | rfl | (simp; done) | (simp [*]; done)), (by first | rfl | (simp; done) | (simp [*]; done)), H', ⟨by have := HK1.out; omega⟩, by repeat (first | exact Drawn0.refl _ | apply Drawn0.step)⟩
   ·rw [if_neg c2] at H
    have c2b0 : decide (0 < x0_1) = false := decide_eq_false c2
    clear c2
    obtain rfl := Option.some.inj H
    go_wp2
    go_ret
    exact ⟨by first | rfl | (simp; done) | (simp [*]; done), by repeat (first | exact Drawn0.refl _ | apply Drawn0.step)⟩


/-! ### quietuslaw07_CodeRepairsLocally: function 7 -/
-- over CodeAt.few CodeAt.check
/-- How many of a group's first members a set has. -/
def manyUpto (x : Nat) (gr : List Int) : Nat → Nat
 | 0 => 0
 | j + 1 => manyUpto x gr j + (x >>> (rd gr (j : Int)).toNat) % 2
def manyOf (x : Nat) (gr : List Int) : Nat := manyUpto x gr gr.length
def aloneUpto (x : Nat) (l : List (List Int)) : Nat → Nat
 | 0 => 0
 | g + 1 => aloneUpto x l g + if manyOf x (rd_L1 l (g : Nat)) = 1 then 1 else 0
theorem manyUpto_le (x : Nat) (gr : List Int) : ∀ j, manyUpto x gr j ≤ j
 | 0 => Nat.le_refl _
 | j + 1 => by show manyUpto x gr j + (x >>> (rd gr (j : Int)).toNat) % 2 ≤ j + 1; have := manyUpto_le x gr j; omega
theorem aloneUpto_le (x : Nat) (l : List (List Int)) : ∀ j, aloneUpto x l j ≤ j
 | 0 => Nat.le_refl _
 | j + 1 => by show aloneUpto x l j + _ ≤ j + 1; have := aloneUpto_le x l j; split <;> omega
/-- A piece, to which the members but one are added. -/
def sumOth (L : List ByteArray) (p : ByteArray) (gr : List Int) (q : Int) : Nat → ByteArray
 | 0 => p
 | j + 1 => if rd gr (j : Int) = q then sumOth L p gr q j else sumP (sumOth L p gr q j) (rdOf ByteArray.empty L (rd gr (j : Int)))
theorem sumOth_size {L : List ByteArray} {p : ByteArray} {gr : List Int} {q : Int} {B : Nat} (hp : p.size ≤ B) (hL : ∀ i : Int, (rdOf ByteArray.empty L i).size ≤ B) : ∀ j, (sumOth L p gr q j).size ≤ B
 | 0 => hp
 | j + 1 => by
  show (if rd gr (j : Int) = q then sumOth L p gr q j else sumP (sumOth L p gr q j) (rdOf ByteArray.empty L (rd gr (j : Int)))).size ≤ B
  split
  ·exact sumOth_size hp hL j
  ·exact sumP_size (sumOth_size hp hL j) (hL _)
set_option maxHeartbeats 4000000 in
set_option maxRecDepth 100000 in
theorem law07_reps.main (k : Nat) (D : Nat) (A : Option Addr) (c : Nat) (l : List (List Int)) (m : Int) (s : ByteArray) (lost : Int) (x : Nat) (L : List ByteArray) (w : World) (hG : HG w) (hC : Kd.C (Kd.slice 3 (Kd.int .i64)) w A l.length l) (hc : l.length ≤ c)
  (hl20 : l.length ≤ 20) (hs1 : s.size ≤ 200) (hD1 : 1 ≤ D) (hD : D ≤ 16) (hm0 : 0 ≤ m) (hm4 : m ≤ 4) (hL0 : D + l.length ≤ L.length) (hL1 : L.length ≤ 24)
  (h1 : code_Check.f k (D : Int) l m = some 0) (h2 : code_Encode.f k (D : Int) l m s = some (L, 0)) (h3 : code_Pieces.f k (D : Int) l m = some (L.length : Int)) (hlo0 : 0 ≤ lost) (hlo1 : lost < 65536) (hx : x = lost.toNat % 2 ^ D)
  (hel : ∀ g : Nat, g < l.length → ∀ y ∈ rd_L1 l (g : Int), 0 ≤ y ∧ y < (D : Int)) (hbz : ∀ i : Int, (rdOf ByteArray.empty L i).size ≤ 100000)
  (hsum : ∀ g : Nat, g < l.length → ∀ a : Nat, a < (rd_L1 l (g : Int)).length → sumOth L (rdOf ByteArray.empty L ((D + g : Nat) : Int)) (rd_L1 l (g : Int)) (rd (rd_L1 l (g : Int)) (a : Int)) (rd_L1 l (g : Int)).length = rdOf ByteArray.empty L (rd (rd_L1 l (g : Int)) (a : Int)))
  (cnt : Nat) (hcnt : cnt ≤ 16) (h4 : quietusref07_Count.f k (x : Int) = some (cnt : Int)) (can : Bool) (h5 : code_Recoverable.f k (D : Int) l m (wrap64 (wrap64 (wrap64 ((2 : Int) ^ L.length) - 1) - (x : Int))) = some can)
  (h6 : (cnt : Int) - (aloneUpto x l l.length : Int) ≤ m → can = true) :
  Calls Tryd.prog 7 #[.agg #[.int .i64 (D : Int), .slice A l.length c, .int .i64 m], .string s, .int .u16 lost] w fun e w' => e = .returned (.bool true) ∧ Below w.heap.size w w' := by
 have HK := Aside0.mk (show CodeAt w.heap.size A c (D : Int) l m (w.alloc (.cells #[.int .i64 (D : Int), .slice A l.length c, .int .i64 m] 24)) from ⟨blk_new _ _, hc, Kd.C_alloc hC _, hG.alloc _⟩)
 have hu24 := Tryd.underlying24
 have HB := Aside0.mk (below_alloc (Below.refl w.heap.size w) (.cells #[.int .i64 (D : Int), .slice A l.length c, .int .i64 m] 24))
 have hz0 := HK.out.c0
 have hz1 := HK.out.c1
 have hz2 := HK.out.c2
 have H1 := Aside0.mk h1
 have H2 := Aside0.mk h2
 have H3 := Aside0.mk h3
 have H4 := Aside0.mk h4
 have H5 := Aside0.mk h5
 have H6 := Aside0.mk h6
 have Hel := Aside0.mk hel
 have Hbz := Aside0.mk hbz
 have Hsum := Aside0.mk hsum
 have b1 : decide ((20 : Int) < (l.length : Int)) = false := decide_eq_false (by omega)
 have b3 : decide ((200 : Int) < (s.size : Int)) = false := decide_eq_false (by omega)
 have b6 : decide ((L.length : Int) < (D : Int) + (l.length : Int)) = false := decide_eq_false (by omega)
 have b7 : decide (L.length < D + l.length) = false := decide_eq_false (by omega)
 have hp2 : (2 : Nat) ^ D ≤ 2 ^ 16 := Nat.pow_le_pow_right (by decide) hD
 have hp1 : 0 < 2 ^ D := Nat.two_pow_pos D
 have hw0 : wrap64 ((2 : Int) ^ D) = ((2 ^ D : Nat) : Int) := by
  rw [show (2 : Int) ^ D = ((2 ^ D : Nat) : Int) by simp]
  generalize 2 ^ D = z at hp1 hp2
  unfold wrap64; omega
 have hw1 : wrap64 ((2 : Int) ^ D) ≠ 0 := by rw [hw0]; clear hw0 hx; generalize 2 ^ D = z at hp1 hp2 ⊢; omega
 have hw2 : 0 ≤ wrap64 ((2 : Int) ^ D) := by rw [hw0]; exact Int.natCast_nonneg _
 have hX : lost % wrap64 ((2 : Int) ^ D) = (x : Int) := by
  obtain ⟨u, rfl⟩ := Int.eq_ofNat_of_zero_le hlo0
  rw [hw0, hx, Int.toNat_natCast, Int.natCast_emod]
 have hx24 : x < 2 ^ 16 := by rw [hx]; exact Nat.lt_of_lt_of_le (Nat.mod_lt _ hp1) hp2
 have HX := Aside0.mk hX
 clear hG hC hc h1 h2 h3 h4 h5 h6 hel hbz hsum hw0 hX hx hp1 hp2
 go_enter Tryd.func7, Tryd.ntmps7
 go_upto_region 8 with (first
  | (go_at_call 20; (with_reducible refine (HK.out.check H1.out).mono ?_); rintro e w1 ⟨rfl, hb⟩; have HKn := Aside0.mk (HK.out.below hb); have HBn := Aside0.mk (below_step HB.out hb); clear HK HB hz0 hz1 hz2 hb; have HK := HKn; have HB := HBn; clear HKn HBn; have hz0 := HK.out.c0; have hz1 := HK.out.c1; have hz2 := HK.out.c2)
  | (go_at_call 18; (with_reducible refine (HK.out.encode H2.out).mono ?_); rintro e w1 ⟨v2, rfl, hS, hb⟩; obtain ⟨ad, cl, rfl⟩ := Kd.R_slice1 hS (by omega); have HC := Aside0.mk ((Kd.R_reads' hS).2.2); have hcl := (Kd.R_reads' hS).2.1; clear hS; have HKn := Aside0.mk (HK.out.below hb); have HBn := Aside0.mk (below_step HB.out hb); clear HK HB hz0 hz1 hz2 hb; have HK := HKn; have HB := HBn; clear HKn HBn; have hz0 := HK.out.c0; have hz1 := HK.out.c1; have hz2 := HK.out.c2)
  | (go_at_call 21; (with_reducible refine (HK.out.pieces H3.out).mono ?_); rintro e w1 ⟨rfl, hb⟩; have HKn := Aside0.mk (HK.out.below hb); have HBn := Aside0.mk (below_step HB.out hb); have HCn := Aside0.mk (Kd.C_below HC.out hb); clear HK HB HC hz0 hz1 hz2 hb; have HK := HKn; have HB := HBn; have HC := HCn; clear HKn HBn HCn; have hz0 := HK.out.c0; have hz1 := HK.out.c1; have hz2 := HK.out.c2))
 rw [HX.out]
 have hx62 : x < 2 ^ 62 := Nat.lt_trans hx24 (by decide)
 have HLE := Aside0.mk (show ∀ j, aloneUpto x l j ≤ j from aloneUpto_le x l)
 clear hw1 hw2 HX b6 b7
 go_wp2
 go_loopw [11, 71] (fun y v W => ∃ g : Nat, g ≤ l.length ∧ v = .int .i64 (g : Int) ∧ y = .int .i64 ((aloneUpto x l g : Nat) : Int) ∧ Aside0 (Below w1.heap.size w1 W)) (fun _ v _ => l.length - (intOf v).toNat)
 case atStart => exact ⟨0, Nat.zero_le _, rfl, rfl, ⟨Below.refl _ _⟩⟩
 case round =>
  clear hz0 hz1 hz2
  obtain ⟨wo, rfl⟩ : ∃ wo : World, wo = wr := ⟨_, rfl⟩
  obtain ⟨g, hg, rfl, rfl, HBg⟩ := hrel
  have hal := HLE.out g
  have HAS := Aside0.mk (show aloneUpto x l (g + 1) = aloneUpto x l g + if manyOf x (rd_L1 l (g : Nat)) = 1 then 1 else 0 from rfl)
  by_cases hlt : g < l.length
  ·obtain ⟨ad0, A0, c0, rfl, hx0, hx1, hx2⟩ := at_list_nat (Kd.C_below HK.out.2.2.1 HBg.out) g hlt
   have HELg := Aside0.mk (Hel.out g hlt)
   have HSUg := Aside0.mk (Hsum.out g hlt)
   have hqm := Kd.C_max hx2
   generalize rd_L1 l (g : Int) = q at hx0 hx1 hx2 hqm HAS HELg HSUg
   generalize aloneUpto x l g = al at hal HAS ⊢
   have HX2 := Aside0.mk hx2
   clear hx2
   go_wp2
   go_loopw [14, 78] (fun y v W => ∃ j : Nat, j ≤ q.length ∧ v = .int .i64 (j : Int) ∧ y = .int .i64 ((manyUpto x q j : Nat) : Int) ∧ Aside0 (Below wo.heap.size wo W)) (fun _ v _ => q.length - (intOf v).toNat)
   case atStart => exact ⟨0, Nat.zero_le _, rfl, rfl, ⟨Below.refl _ _⟩⟩
   case round =>
    clear hx0
    obtain ⟨wp, rfl⟩ : ∃ wp : World, wp = wr := ⟨_, rfl⟩
    obtain ⟨j, hj, rfl, rfl, HBj⟩ := hrel
    have HBp := Aside0.mk (below_step HBg.out HBj.out)
    have hmj := manyUpto_le x q j
    have HMS := Aside0.mk (show manyUpto x q (j + 1) = manyUpto x q j + (x >>> (rd q (j : Int)).toNat) % 2 from rfl)
    by_cases hlt2 : j < q.length
    ·obtain ⟨ad1, rfl, hx3⟩ := at_int_nat (Kd.C_below HX2.out HBj.out) j hlt2
     have hmem := HELg.out _ (rd_mem hlt2)
     have HSUj := Aside0.mk (HSUg.out j hlt2)
     obtain ⟨t, ht⟩ : ∃ t : Nat, rd q (j : Int) = (t : Int) := ⟨(rd q (j : Int)).toNat, by omega⟩
     rw [ht] at hx3 hmem HSUj HMS
     rw [Int.toNat_natCast] at HMS
     have htD : t < D := by omega
     obtain ⟨ad2, e2, hp0⟩ := at_string_nat (Kd.C_below HC.out HBp.out) (D + g) (by omega)
     obtain rfl : ad = ad2 := by injection e2
     obtain ⟨ad2, e2, hpt⟩ := at_string_nat (Kd.C_below HC.out HBp.out) t (by omega)
     obtain rfl : ad = ad2 := by injection e2
     have hz0 : wp.cell? ⟨w.heap.size, 0, none⟩ = some (.int .i64 (D : Int)) := (HK.out.below HBp.out).c0
     have hbt := bit_eq x t (Nat.lt_trans hx24 (by decide))
     have hbl : (x >>> t) % 2 < 2 := Nat.mod_lt _ (by decide)
     generalize (x >>> t) % 2 = bt1 at hbt hbl HMS
     have ht64 : (t : Int) < 64 := by omega
     have HP0 := Aside0.mk (Hbz.out ((D + g : Nat) : Int))
     generalize rdOf ByteArray.empty L ((D + g : Nat) : Int) = p0 at hp0 HSUj HP0
     generalize hPT : rdOf ByteArray.empty L (t : Int) = pt at hpt HSUj
     generalize manyUpto x q j = mm at hmj HMS ⊢
     have hwdg : IntKind.i64.wrap ((D : Int) + (g : Int)) = ((D + g : Nat) : Int) := by rw [wraps_i64 _ (by omega) (by omega)]; omega
     have htn : ((D : Int) + (g : Int)).toNat = D + g := by omega
     have hDg : (D : Int) + (g : Int) < (L.length : Int) := by omega
     clear hwdg
     go_wp2
     have HPT := Aside0.mk hPT
     have HMS2 := Aside0.mk (show (manyUpto x q (j + 1) : Nat) = mm + bt1 from HMS.out)
     clear hp0 hbt hPT HMS htn hDg ht64 hx3 hz0
     go_loopw [17, 97] (fun y v W => ∃ i : Nat, i ≤ q.length ∧ v = .int .i64 (i : Int) ∧ y = .string (sumOth L p0 q (t : Int) i) ∧ Aside0 (Below wp.heap.size wp W)) (fun _ v _ => q.length - (intOf v).toNat)
     case atStart => exact ⟨0, Nat.zero_le _, rfl, rfl, ⟨Below.refl _ _⟩⟩
     case round =>
      obtain ⟨i, hi, rfl, rfl, HBi⟩ := hrel
      have HBr := Aside0.mk (below_step HBp.out HBi.out)
      by_cases hlt3 : i < q.length
      ·obtain ⟨ad3, e3, hx3⟩ := at_int_nat (Kd.C_below HX2.out (below_step HBj.out HBi.out)) i hlt3
       obtain rfl : ad1 = ad3 := by injection e3
       have hmem2 := HELg.out _ (rd_mem hlt3)
       have HSO := Aside0.mk (show sumOth L p0 q (t : Int) (i + 1) = if rd q (i : Int) = (t : Int) then sumOth L p0 q (t : Int) i else sumP (sumOth L p0 q (t : Int) i) (rdOf ByteArray.empty L (rd q (i : Int))) from rfl)
       have HSZ := Aside0.mk (sumOth_size (gr := q) (q := (t : Int)) HP0.out Hbz.out i)
       obtain ⟨u, hu⟩ : ∃ u : Nat, rd q (i : Int) = (u : Int) := ⟨(rd q (i : Int)).toNat, by omega⟩
       rw [hu] at hx3 hmem2 HSO
       generalize sumOth L p0 q (t : Int) i = so at HSO HSZ ⊢
       clear hu
       by_cases hut : u = t
       ·subst hut
        have hso := HSO.out
        rw [if_pos rfl] at hso
        have HSO2 := Aside0.mk hso
        clear hso
        go_wp2
        go_roundw
        case rel => exact ⟨i + 1, by omega, by go_num, by rw [HSO2.out], HBi⟩
        case measure => simp [intOf]; omega
       ·have hc1 : ((u : Int) == (t : Int)) = false := beq_eq_false_iff_ne.2 (by omega)
        have hc2 : (u == t) = false := beq_eq_false_iff_ne.2 hut
        have hc3 : ((u : Int) != (t : Int)) = true := bne_iff_ne.2 (by omega)
        have hso := HSO.out
        rw [if_neg (by omega)] at hso
        obtain ⟨ad3, e3, hpu⟩ := at_string_nat (Kd.C_below HC.out HBr.out) u (by omega)
        obtain rfl : ad = ad3 := by injection e3
        have HZU := Aside0.mk (Hbz.out (u : Int))
        generalize rdOf ByteArray.empty L (u : Int) = pu at hpu hso HZU
        have HSO2 := Aside0.mk hso
        clear hso
        have HSM := Aside0.mk (gf_Sum.sum so pu (Nat.le_trans HSZ.out (by decide)) (Nat.le_trans HZU.out (by decide)) wr (HK.out.below HBr.out).hg)
        go_wp2_with (go_at_call 36; (with_reducible refine (HSM.out).mono ?_); rintro e w3 ⟨rfl, hb3⟩; have HB3 := Aside0.mk (below_step HBi.out hb3); clear hb3)
        go_roundw
        case rel => exact ⟨i + 1, by omega, by go_num, by rw [HSO2.out], HB3⟩
        case measure => simp [intOf]; omega
      ·obtain rfl : i = q.length := by omega
       rw [HSUj.out]
       have hpt := pw_cell_below HBi.out hpt
       go_wp2
       go_roundw
       case rel => exact ⟨j + 1, by omega, by go_num, by rw [HMS2.out]; go_num, ⟨below_step HBj.out HBi.out⟩⟩
       case measure => simp [intOf]; omega
    ·obtain rfl : j = q.length := by omega
     have HMO := Aside0.mk (show manyOf x q = manyUpto x q q.length from rfl)
     generalize manyUpto x q q.length = mm at hmj HMO HMS ⊢
     by_cases hone : mm = 1
     ·subst hone
      have has := HAS.out
      rw [if_pos HMO.out] at has
      have HAS2 := Aside0.mk has
      clear has
      go_wp2
      go_roundw
      case rel => exact ⟨g + 1, by omega, by go_num, by rw [HAS2.out]; go_num, HBp⟩
      case measure => simp [intOf]; omega
     ·have ho1 : ((mm : Int) == 1) = false := beq_eq_false_iff_ne.2 (by omega)
      have ho2 : (mm == 1) = false := beq_eq_false_iff_ne.2 hone
      have has := HAS.out
      rw [if_neg (by rw [HMO.out]; exact hone)] at has
      have HAS2 := Aside0.mk has
      clear has
      go_wp2
      go_roundw
      case rel => exact ⟨g + 1, by omega, by go_num, by rw [HAS2.out]; go_num, HBp⟩
      case measure => simp [intOf]; omega
  ·obtain rfl : g = l.length := by omega
   clear HAS
   have HKo := Aside0.mk (HK.out.below HBg.out)
   have HBo := Aside0.mk (below_step HB.out HBg.out)
   clear HK HB
   have HK := HKo
   have HB := HBo
   clear HKo HBo
   have hz0 := HK.out.c0
   have hz1 := HK.out.c1
   have hz2 := HK.out.c2
   generalize aloneUpto x l l.length = al at hal H6 ⊢
   go_upto_region 31 with (first
    | (go_at_call 35; (with_reducible refine (quietusref07_Count.calls k (x : Int) (cnt : Int) _ HK.out.hg H4.out).mono ?_); rintro e w1 ⟨rfl, hd⟩; have hb := hd.below; clear hd; have HKn := Aside0.mk (HK.out.below hb); have HBn := Aside0.mk (below_step HB.out hb); clear HK HB hz0 hz1 hz2 hb; have HK := HKn; have HB := HBn; clear HKn HBn; have hz0 := HK.out.c0; have hz1 := HK.out.c1; have hz2 := HK.out.c2))
   obtain ⟨df, hdf⟩ : ∃ df : Int, df = (cnt : Int) - (al : Int) := ⟨_, rfl⟩
   have hwr : IntKind.i64.wrap ((cnt : Int) - (al : Int)) = df := by rw [hdf, IntKind.wrap_i64]; omega
   have H6' := Aside0.mk (show df ≤ m → can = true by rw [hdf]; exact H6.out)
   clear H6 hdf hal hcnt
   have HKd := Aside0.mk (HK.out.below (below_drew (Below.refl _ _)))
   have HBd := Aside0.mk (below_drew HB.out)
   clear HK HB
   have HK := HKd
   have HB := HBd
   clear HKd HBd hz0 hz1 hz2
   have hz0 := HK.out.c0
   have hz1 := HK.out.c1
   have hz2 := HK.out.c2
   by_cases hmd : m < df
   ·have hm1 : decide (m < df) = true := decide_eq_true hmd
    clear hmd
    refine start_ (n := 19) (S := fun w' => w'.cell? ⟨w.heap.size, 0, none⟩ = some (.int .i64 (D : Int)) ∧ w'.cell? ⟨w.heap.size, 1, none⟩ = some (.slice A l.length c) ∧ w'.cell? ⟨w.heap.size, 2, none⟩ = some (.int .i64 m)) (ds := []) #[false, false, false, false, false, false, false, false, false, false, false, false, false, false, false, false, false, false, false] (by kernel_rfl) rfl rfl ⟨hz0, hz1, hz2⟩ (fun hHeld => ?_)
    generalize w1.drew = wd at *
    refine one_ (i := 0) (N := some 125) #[true, false, false, false, false, false, false, false, false, false, false, false, false, false, false, false, false, false, false] rfl rfl (by kernel_rfl) (by decide) (fun K hK => ?_)
    refine goes_ Tryd.func15 (by kernel_rfl) rfl #[] (by rfl) rfl rfl (by simp only [List.map_toArray, List.map_nil]) ?_
    with_reducible refine (quietuslaw07_sanity.yes _ HK.out.hg).mono ?_
    rintro e w6 ⟨rfl, hb⟩
    refine ⟨_, rfl, ?_⟩
    have HKn := Aside0.mk (HK.out.below hb)
    have HBn := Aside0.mk (below_step HB.out hb)
    clear HK HB hz0 hz1 hz2 hb
    have HK := HKn
    have HB := HBn
    clear HKn HBn
    have hz0 := HK.out.c0
    have hz1 := HK.out.c1
    have hz2 := HK.out.c2
    refine hK.out _ _ ⟨hz0, hz1, hz2⟩ (fun hHeld => ?_)
    clear hK K
    refine norm_ (a' := ?_) ?_ ?_
    rotate_left
    ·show Act.put _ (some 125) _ = _
     simp only [Act.put, List.setIfInBounds_toArray, List.set_cons_zero, List.set_cons_succ, i64_w, i32_w]
     rfl
    refine pure_ (i := 1) (N := some 126) (v := ?_) (a' := ?_) #[true, true, false, false, false, false, false, false, false, false, false, false, false, false, false, false, false, false, false] rfl rfl (by kernel_rfl) (fun _ _ _ h => h) (Or.inl ⟨by rfl, ?_⟩) ?_ ?_
    rotate_left
    ·intro w'
     go_simp
     with_reducible rfl
    rotate_left
    ·simp only [Act.put, List.setIfInBounds_toArray, List.set_cons_zero, List.set_cons_succ, i64_w, i32_w]
     rfl
    refine pure_ (i := 2) (N := some 127) (v := ?_) (a' := ?_) #[true, true, true, false, false, false, false, false, false, false, false, false, false, false, false, false, false, false, false] rfl rfl (by kernel_rfl) (fun _ _ _ h => h) (Or.inl ⟨by rfl, ?_⟩) ?_ ?_
    rotate_left
    ·intro w'
     go_simp
     with_reducible rfl
    rotate_left
    ·simp only [Act.put, List.setIfInBounds_toArray, List.set_cons_zero, List.set_cons_succ, i64_w, i32_w]
     rfl
    refine pure_ (i := 3) (N := some 128) (v := ?_) (a' := ?_) #[true, true, true, true, false, false, false, false, false, false, false, false, false, false, false, false, false, false, false] rfl rfl (by kernel_rfl) (fun _ _ _ h => h) (Or.inl ⟨by rfl, ?_⟩) ?_ ?_
    rotate_left
    ·intro w'
     go_simp
     with_reducible rfl
    rotate_left
    ·simp only [Act.put, List.setIfInBounds_toArray, List.set_cons_zero, List.set_cons_succ, i64_w, i32_w]
     rfl
    refine pure_ (i := 4) (N := some 129) (v := ?_) (a' := ?_) #[true, true, true, true, true, false, false, false, false, false, false, false, false, false, false, false, false, false, false] rfl rfl (by kernel_rfl) (fun _ _ _ h => h) (Or.inl ⟨by rfl, ?_⟩) ?_ ?_
    rotate_left
    ·intro w'
     go_simp
     with_reducible rfl
    rotate_left
    ·simp only [Act.put, List.setIfInBounds_toArray, List.set_cons_zero, List.set_cons_succ, i64_w, i32_w]
     rfl
    refine pure_ (i := 5) (N := some 130) (v := ?_) (a' := ?_) #[true, true, true, true, true, true, false, false, false, false, false, false, false, false, false, false, false, false, false] rfl rfl (by kernel_rfl) (fun _ _ _ h => h) (Or.inl ⟨by rfl, ?_⟩) ?_ ?_
    rotate_left
    ·intro w'
     go_simp
     with_reducible rfl
    rotate_left
    ·simp only [Act.put, List.setIfInBounds_toArray, List.set_cons_zero, List.set_cons_succ, i64_w, i32_w]
     rfl
    refine take_ (i := 6) (N := some 131) (v := ?_) (a' := ?_) #[true, true, true, true, true, true, true, false, false, false, false, false, false, false, false, false, false, false, false] rfl rfl (by kernel_rfl) (fun _ _ _ h => h) (Or.inl ⟨by rfl, ?_⟩) hHeld ?_ ?_
    rotate_left
    ·rintro w' ⟨s0, s1, s2⟩
     go_simp
     with_reducible rfl
    rotate_left
    ·simp only [Act.put, List.setIfInBounds_toArray, List.set_cons_zero, List.set_cons_succ, i64_w, i32_w]
     rfl
    refine pure_ (i := 7) (N := some 132) (v := ?_) (a' := ?_) #[true, true, true, true, true, true, true, true, false, false, false, false, false, false, false, false, false, false, false] rfl rfl (by kernel_rfl) (fun _ _ _ h => h) (Or.inl ⟨by rfl, ?_⟩) ?_ ?_
    rotate_left
    ·intro w'
     go_simp
     with_reducible rfl
    rotate_left
    ·simp only [Act.put, List.setIfInBounds_toArray, List.set_cons_zero, List.set_cons_succ, i64_w, i32_w]
     rfl
    refine pure_ (i := 8) (N := some 133) (v := ?_) (a' := ?_) #[true, true, true, true, true, true, true, true, true, false, false, false, false, false, false, false, false, false, false] rfl rfl (by kernel_rfl) (fun _ _ _ h => h) (Or.inl ⟨by rfl, ?_⟩) ?_ ?_
    rotate_left
    ·intro w'
     go_simp
     with_reducible rfl
    rotate_left
    ·simp only [Act.put, List.setIfInBounds_toArray, List.set_cons_zero, List.set_cons_succ, i64_w, i32_w]
     rfl
    refine pure_ (i := 9) (N := some 134) (v := undef) (a' := ?_) #[true, true, true, true, true, true, true, true, true, true, false, false, false, false, false, false, false, false, false] rfl rfl (by kernel_rfl) (fun _ _ _ h => h) (Or.inr ⟨by rfl, rfl⟩) ?_ ?_
    rotate_left
    ·simp only [Act.put, List.setIfInBounds_toArray, List.set_cons_zero, List.set_cons_succ, i64_w, i32_w]
     rfl
    refine pure_ (i := 10) (N := some 135) (v := undef) (a' := ?_) #[true, true, true, true, true, true, true, true, true, true, true, false, false, false, false, false, false, false, false] rfl rfl (by kernel_rfl) (fun _ _ _ h => h) (Or.inr ⟨by rfl, rfl⟩) ?_ ?_
    rotate_left
    ·simp only [Act.put, List.setIfInBounds_toArray, List.set_cons_zero, List.set_cons_succ, i64_w, i32_w]
     rfl
    refine pure_ (i := 11) (N := some 136) (v := undef) (a' := ?_) #[true, true, true, true, true, true, true, true, true, true, true, true, false, false, false, false, false, false, false] rfl rfl (by kernel_rfl) (fun _ _ _ h => h) (Or.inr ⟨by rfl, rfl⟩) ?_ ?_
    rotate_left
    ·simp only [Act.put, List.setIfInBounds_toArray, List.set_cons_zero, List.set_cons_succ, i64_w, i32_w]
     rfl
    refine pure_ (i := 12) (N := some 137) (v := undef) (a' := ?_) #[true, true, true, true, true, true, true, true, true, true, true, true, true, false, false, false, false, false, false] rfl rfl (by kernel_rfl) (fun _ _ _ h => h) (Or.inr ⟨by rfl, rfl⟩) ?_ ?_
    rotate_left
    ·simp only [Act.put, List.setIfInBounds_toArray, List.set_cons_zero, List.set_cons_succ, i64_w, i32_w]
     rfl
    refine pure_ (i := 13) (N := some 138) (v := undef) (a' := ?_) #[true, true, true, true, true, true, true, true, true, true, true, true, true, true, false, false, false, false, false] rfl rfl (by kernel_rfl) (fun _ _ _ h => h) (Or.inr ⟨by rfl, rfl⟩) ?_ ?_
    rotate_left
    ·simp only [Act.put, List.setIfInBounds_toArray, List.set_cons_zero, List.set_cons_succ, i64_w, i32_w]
     rfl
    refine pure_ (i := 14) (N := some 139) (v := undef) (a' := ?_) #[true, true, true, true, true, true, true, true, true, true, true, true, true, true, true, false, false, false, false] rfl rfl (by kernel_rfl) (fun _ _ _ h => h) (Or.inr ⟨by rfl, rfl⟩) ?_ ?_
    rotate_left
    ·simp only [Act.put, List.setIfInBounds_toArray, List.set_cons_zero, List.set_cons_succ, i64_w, i32_w]
     rfl
    refine pure_ (i := 15) (N := some 140) (v := undef) (a' := ?_) #[true, true, true, true, true, true, true, true, true, true, true, true, true, true, true, true, false, false, false] rfl rfl (by kernel_rfl) (fun _ _ _ h => h) (Or.inr ⟨by rfl, rfl⟩) ?_ ?_
    rotate_left
    ·simp only [Act.put, List.setIfInBounds_toArray, List.set_cons_zero, List.set_cons_succ, i64_w, i32_w]
     rfl
    refine pure_ (i := 16) (N := some 141) (v := ?_) (a' := ?_) #[true, true, true, true, true, true, true, true, true, true, true, true, true, true, true, true, true, false, false] rfl rfl (by kernel_rfl) (fun _ _ _ h => h) (Or.inl ⟨by rfl, ?_⟩) ?_ ?_
    rotate_left
    ·intro w'
     go_simp
     with_reducible rfl
    rotate_left
    ·simp only [Act.put, List.setIfInBounds_toArray, List.set_cons_zero, List.set_cons_succ, i64_w, i32_w]
     rfl
    refine pure_ (i := 17) (N := some 142) (v := ?_) (a' := ?_) #[true, true, true, true, true, true, true, true, true, true, true, true, true, true, true, true, true, true, false] rfl rfl (by kernel_rfl) (fun _ _ _ h => h) (Or.inl ⟨by rfl, ?_⟩) ?_ ?_
    rotate_left
    ·intro w'
     go_simp
     with_reducible rfl
    rotate_left
    ·simp only [Act.put, List.setIfInBounds_toArray, List.set_cons_zero, List.set_cons_succ, i64_w, i32_w]
     rfl
    refine pure_ (i := 18) (N := some 6) (v := ?_) (a' := ?_) #[true, true, true, true, true, true, true, true, true, true, true, true, true, true, true, true, true, true, true] rfl rfl (by kernel_rfl) (fun _ _ _ h => h) (Or.inl ⟨by rfl, ?_⟩) ?_ ?_
    rotate_left
    ·intro w'
     go_simp
     with_reducible rfl
    rotate_left
    ·simp only [Act.put, List.setIfInBounds_toArray, List.set_cons_zero, List.set_cons_succ, i64_w, i32_w]
     rfl
    refine done_ (by kernel_rfl) ?_
    go_wp2
    go_ret
    exact ⟨rfl, HB.out⟩
   ·have hm1 : decide (m < df) = false := decide_eq_false hmd
    obtain rfl := H6'.out (by omega)
    clear hmd
    refine start_ (n := 19) (S := fun w' => w'.cell? ⟨w.heap.size, 0, none⟩ = some (.int .i64 (D : Int)) ∧ w'.cell? ⟨w.heap.size, 1, none⟩ = some (.slice A l.length c) ∧ w'.cell? ⟨w.heap.size, 2, none⟩ = some (.int .i64 m)) (ds := []) #[false, false, false, false, false, false, false, false, false, false, false, false, false, false, false, false, false, false, false] (by kernel_rfl) rfl rfl ⟨hz0, hz1, hz2⟩ (fun hHeld => ?_)
    generalize w1.drew = wd at *
    refine one_ (i := 0) (N := some 125) #[true, false, false, false, false, false, false, false, false, false, false, false, false, false, false, false, false, false, false] rfl rfl (by kernel_rfl) (by decide) (fun K hK => ?_)
    refine goes_ Tryd.func15 (by kernel_rfl) rfl #[] (by rfl) rfl rfl (by simp only [List.map_toArray, List.map_nil]) ?_
    with_reducible refine (quietuslaw07_sanity.yes _ HK.out.hg).mono ?_
    rintro e w6 ⟨rfl, hb⟩
    refine ⟨_, rfl, ?_⟩
    have HKn := Aside0.mk (HK.out.below hb)
    have HBn := Aside0.mk (below_step HB.out hb)
    clear HK HB hz0 hz1 hz2 hb
    have HK := HKn
    have HB := HBn
    clear HKn HBn
    have hz0 := HK.out.c0
    have hz1 := HK.out.c1
    have hz2 := HK.out.c2
    refine hK.out _ _ ⟨hz0, hz1, hz2⟩ (fun hHeld => ?_)
    clear hK K
    refine norm_ (a' := ?_) ?_ ?_
    rotate_left
    ·show Act.put _ (some 125) _ = _
     simp only [Act.put, List.setIfInBounds_toArray, List.set_cons_zero, List.set_cons_succ, i64_w, i32_w]
     rfl
    refine pure_ (i := 1) (N := some 126) (v := ?_) (a' := ?_) #[true, true, false, false, false, false, false, false, false, false, false, false, false, false, false, false, false, false, false] rfl rfl (by kernel_rfl) (fun _ _ _ h => h) (Or.inl ⟨by rfl, ?_⟩) ?_ ?_
    rotate_left
    ·intro w'
     go_simp
     with_reducible rfl
    rotate_left
    ·simp only [Act.put, List.setIfInBounds_toArray, List.set_cons_zero, List.set_cons_succ, i64_w, i32_w]
     rfl
    refine pure_ (i := 2) (N := some 127) (v := ?_) (a' := ?_) #[true, true, true, false, false, false, false, false, false, false, false, false, false, false, false, false, false, false, false] rfl rfl (by kernel_rfl) (fun _ _ _ h => h) (Or.inl ⟨by rfl, ?_⟩) ?_ ?_
    rotate_left
    ·intro w'
     go_simp
     with_reducible rfl
    rotate_left
    ·simp only [Act.put, List.setIfInBounds_toArray, List.set_cons_zero, List.set_cons_succ, i64_w, i32_w]
     rfl
    refine pure_ (i := 3) (N := some 128) (v := ?_) (a' := ?_) #[true, true, true, true, false, false, false, false, false, false, false, false, false, false, false, false, false, false, false] rfl rfl (by kernel_rfl) (fun _ _ _ h => h) (Or.inl ⟨by rfl, ?_⟩) ?_ ?_
    rotate_left
    ·intro w'
     go_simp
     with_reducible rfl
    rotate_left
    ·simp only [Act.put, List.setIfInBounds_toArray, List.set_cons_zero, List.set_cons_succ, i64_w, i32_w]
     rfl
    refine pure_ (i := 4) (N := some 129) (v := ?_) (a' := ?_) #[true, true, true, true, true, false, false, false, false, false, false, false, false, false, false, false, false, false, false] rfl rfl (by kernel_rfl) (fun _ _ _ h => h) (Or.inl ⟨by rfl, ?_⟩) ?_ ?_
    rotate_left
    ·intro w'
     go_simp
     with_reducible rfl
    rotate_left
    ·simp only [Act.put, List.setIfInBounds_toArray, List.set_cons_zero, List.set_cons_succ, i64_w, i32_w]
     rfl
    refine pure_ (i := 5) (N := some 130) (v := ?_) (a' := ?_) #[true, true, true, true, true, true, false, false, false, false, false, false, false, false, false, false, false, false, false] rfl rfl (by kernel_rfl) (fun _ _ _ h => h) (Or.inl ⟨by rfl, ?_⟩) ?_ ?_
    rotate_left
    ·intro w'
     go_simp
     with_reducible rfl
    rotate_left
    ·simp only [Act.put, List.setIfInBounds_toArray, List.set_cons_zero, List.set_cons_succ, i64_w, i32_w]
     rfl
    refine take_ (i := 6) (N := some 131) (v := ?_) (a' := ?_) #[true, true, true, true, true, true, true, false, false, false, false, false, false, false, false, false, false, false, false] rfl rfl (by kernel_rfl) (fun _ _ _ h => h) (Or.inl ⟨by rfl, ?_⟩) hHeld ?_ ?_
    rotate_left
    ·rintro w' ⟨s0, s1, s2⟩
     go_simp
     with_reducible rfl
    rotate_left
    ·simp only [Act.put, List.setIfInBounds_toArray, List.set_cons_zero, List.set_cons_succ, i64_w, i32_w]
     rfl
    refine pure_ (i := 7) (N := some 132) (v := ?_) (a' := ?_) #[true, true, true, true, true, true, true, true, false, false, false, false, false, false, false, false, false, false, false] rfl rfl (by kernel_rfl) (fun _ _ _ h => h) (Or.inl ⟨by rfl, ?_⟩) ?_ ?_
    rotate_left
    ·intro w'
     go_simp
     with_reducible rfl
    rotate_left
    ·simp only [Act.put, List.setIfInBounds_toArray, List.set_cons_zero, List.set_cons_succ, i64_w, i32_w]
     rfl
    refine pure_ (i := 8) (N := some 133) (v := ?_) (a' := ?_) #[true, true, true, true, true, true, true, true, true, false, false, false, false, false, false, false, false, false, false] rfl rfl (by kernel_rfl) (fun _ _ _ h => h) (Or.inl ⟨by rfl, ?_⟩) ?_ ?_
    rotate_left
    ·intro w'
     go_simp
     with_reducible rfl
    rotate_left
    ·simp only [Act.put, List.setIfInBounds_toArray, List.set_cons_zero, List.set_cons_succ, i64_w, i32_w]
     rfl
    refine pure_ (i := 10) (N := some 135) (v := ?_) (a' := ?_) #[true, true, true, true, true, true, true, true, true, false, true, false, false, false, false, false, false, false, false] rfl rfl (by kernel_rfl) (fun _ _ _ h => h) (Or.inl ⟨by rfl, ?_⟩) ?_ ?_
    rotate_left
    ·intro w'
     go_simp
     with_reducible rfl
    rotate_left
    ·simp only [Act.put, List.setIfInBounds_toArray, List.set_cons_zero, List.set_cons_succ, i64_w, i32_w]
     rfl
    refine pure_ (i := 11) (N := some 136) (v := ?_) (a' := ?_) #[true, true, true, true, true, true, true, true, true, false, true, true, false, false, false, false, false, false, false] rfl rfl (by kernel_rfl) (fun _ _ _ h => h) (Or.inl ⟨by rfl, ?_⟩) ?_ ?_
    rotate_left
    ·intro w'
     go_simp
     with_reducible rfl
    rotate_left
    ·simp only [Act.put, List.setIfInBounds_toArray, List.set_cons_zero, List.set_cons_succ, i64_w, i32_w]
     rfl
    refine pure_ (i := 12) (N := some 137) (v := ?_) (a' := ?_) #[true, true, true, true, true, true, true, true, true, false, true, true, true, false, false, false, false, false, false] rfl rfl (by kernel_rfl) (fun _ _ _ h => h) (Or.inl ⟨by rfl, ?_⟩) ?_ ?_
    rotate_left
    ·intro w'
     go_simp
     with_reducible rfl
    rotate_left
    ·simp only [Act.put, List.setIfInBounds_toArray, List.set_cons_zero, List.set_cons_succ, i64_w, i32_w]
     rfl
    refine pure_ (i := 13) (N := some 138) (v := ?_) (a' := ?_) #[true, true, true, true, true, true, true, true, true, false, true, true, true, true, false, false, false, false, false] rfl rfl (by kernel_rfl) (fun _ _ _ h => h) (Or.inl ⟨by rfl, ?_⟩) ?_ ?_
    rotate_left
    ·intro w'
     go_simp
     with_reducible rfl
    rotate_left
    ·simp only [Act.put, List.setIfInBounds_toArray, List.set_cons_zero, List.set_cons_succ, i64_w, i32_w]
     rfl
    refine pure_ (i := 14) (N := some 139) (v := ?_) (a' := ?_) #[true, true, true, true, true, true, true, true, true, false, true, true, true, true, true, false, false, false, false] rfl rfl (by kernel_rfl) (fun _ _ _ h => h) (Or.inl ⟨by rfl, ?_⟩) ?_ ?_
    rotate_left
    ·intro w'
     go_simp
     with_reducible rfl
    rotate_left
    ·simp only [Act.put, List.setIfInBounds_toArray, List.set_cons_zero, List.set_cons_succ, i64_w, i32_w]
     rfl
    refine take_ (i := 9) (N := some 134) (v := ?_) (a' := ?_) #[true, true, true, true, true, true, true, true, true, true, true, true, true, true, true, false, false, false, false] rfl rfl (by kernel_rfl) (fun _ _ _ h => h) (Or.inl ⟨by rfl, ?_⟩) hHeld ?_ ?_
    rotate_left
    ·rintro w' ⟨s0, s1, s2⟩
     go_simp
     with_reducible rfl
    rotate_left
    ·simp only [Act.put, List.setIfInBounds_toArray, List.set_cons_zero, List.set_cons_succ, i64_w, i32_w]
     rfl
    refine one_ (i := 15) (N := some 140) #[true, true, true, true, true, true, true, true, true, true, true, true, true, true, true, true, false, false, false] rfl rfl (by kernel_rfl) (by decide) (fun K hK => ?_)
    refine goes_ Tryd.func30 (by kernel_rfl) rfl #[.agg #[.int .i64 (D : Int), .slice A l.length c, .int .i64 m], .int .i64 (wrap64 (wrap64 (wrap64 ((2 : Int) ^ L.length) - 1) - (x : Int)))] (by rfl) rfl rfl (by simp only [List.map_toArray, List.map_cons, List.map_nil]; rfl) ?_
    with_reducible refine (HK.out.recoverable H5.out).mono ?_
    rintro e w7 ⟨rfl, hb⟩
    refine ⟨_, rfl, ?_⟩
    have HKn := Aside0.mk (HK.out.below hb)
    have HBn := Aside0.mk (below_step HB.out hb)
    clear HK HB hz0 hz1 hz2 hb
    have HK := HKn
    have HB := HBn
    clear HKn HBn
    have hz0 := HK.out.c0
    have hz1 := HK.out.c1
    have hz2 := HK.out.c2
    refine hK.out _ _ ⟨hz0, hz1, hz2⟩ (fun hHeld => ?_)
    clear hK K
    refine norm_ (a' := ?_) ?_ ?_
    rotate_left
    ·show Act.put _ (some 140) _ = _
     simp only [Act.put, List.setIfInBounds_toArray, List.set_cons_zero, List.set_cons_succ, i64_w, i32_w]
     rfl
    refine pure_ (i := 16) (N := some 141) (v := ?_) (a' := ?_) #[true, true, true, true, true, true, true, true, true, true, true, true, true, true, true, true, true, false, false] rfl rfl (by kernel_rfl) (fun _ _ _ h => h) (Or.inl ⟨by rfl, ?_⟩) ?_ ?_
    rotate_left
    ·intro w'
     go_simp
     with_reducible rfl
    rotate_left
    ·simp only [Act.put, List.setIfInBounds_toArray, List.set_cons_zero, List.set_cons_succ, i64_w, i32_w]
     rfl
    refine pure_ (i := 17) (N := some 142) (v := ?_) (a' := ?_) #[true, true, true, true, true, true, true, true, true, true, true, true, true, true, true, true, true, true, false] rfl rfl (by kernel_rfl) (fun _ _ _ h => h) (Or.inl ⟨by rfl, ?_⟩) ?_ ?_
    rotate_left
    ·intro w'
     go_simp
     with_reducible rfl
    rotate_left
    ·simp only [Act.put, List.setIfInBounds_toArray, List.set_cons_zero, List.set_cons_succ, i64_w, i32_w]
     rfl
    refine pure_ (i := 18) (N := some 6) (v := ?_) (a' := ?_) #[true, true, true, true, true, true, true, true, true, true, true, true, true, true, true, true, true, true, true] rfl rfl (by kernel_rfl) (fun _ _ _ h => h) (Or.inl ⟨by rfl, ?_⟩) ?_ ?_
    rotate_left
    ·intro w'
     go_simp
     with_reducible rfl
    rotate_left
    ·simp only [Act.put, List.setIfInBounds_toArray, List.set_cons_zero, List.set_cons_succ, i64_w, i32_w]
     rfl
    refine done_ (by kernel_rfl) ?_
    go_wp2
    go_ret
    exact ⟨rfl, HB.out⟩
set_option maxHeartbeats 4000000 in
set_option maxRecDepth 100000 in
theorem law07_reps.aside (k : Nat) (d : Int) (A : Option Addr) (c : Nat) (l : List (List Int)) (m : Int) (s : ByteArray) (lost : Int) (e : Int) (w : World) (hG : HG w) (hC : Kd.C (Kd.slice 3 (Kd.int .i64)) w A l.length l) (hc : l.length ≤ c)
  (hout : 20 < l.length ∨ 200 < s.size ∨ (code_Check.f k d l m = some e ∧ e ≠ 0)) :
  Calls Tryd.prog 7 #[.agg #[.int .i64 d, .slice A l.length c, .int .i64 m], .string s, .int .u16 lost] w fun e w' => e = .returned (.bool true) ∧ Below w.heap.size w w' := by
 have HK := Aside0.mk (show CodeAt w.heap.size A c d l m (w.alloc (.cells #[.int .i64 d, .slice A l.length c, .int .i64 m] 24)) from ⟨blk_new _ _, hc, Kd.C_alloc hC _, hG.alloc _⟩)
 have hu24 := Tryd.underlying24
 have HB := Aside0.mk (below_alloc (Below.refl w.heap.size w) (.cells #[.int .i64 d, .slice A l.length c, .int .i64 m] 24))
 have hz0 := HK.out.c0
 have hz1 := HK.out.c1
 have hz2 := HK.out.c2
 clear hG hC hc
 obtain ⟨z, hz⟩ : ∃ z : Nat, z = s.size := ⟨_, rfl⟩
 rw [← hz] at hout
 by_cases g1 : 20 < l.length
 ·have b1 : decide ((20 : Int) < (l.length : Int)) = true := decide_eq_true (by omega)
  subst hz
  clear g1 hout
  go_enter Tryd.func7, Tryd.ntmps7
  go_wp2_with ((go_at_call 15; (with_reducible refine (quietuslaw07_sanity.yes _ HK.out.hg).mono ?_); rintro e w1 ⟨rfl, hb⟩; have HKn := Aside0.mk (HK.out.below hb); have HBn := Aside0.mk (below_step HB.out hb); clear HK HB hz0 hz1 hz2 hb; have HK := HKn; have HB := HBn; clear HKn HBn; have hz0 := HK.out.c0; have hz1 := HK.out.c1; have hz2 := HK.out.c2))
  go_ret
  exact ⟨rfl, HB.out⟩
 ·have b1 : decide ((20 : Int) < (l.length : Int)) = false := decide_eq_false (by omega)
  by_cases g3 : 200 < z
  ·have b3 : decide ((200 : Int) < (z : Int)) = true := decide_eq_true (by omega)
   subst hz
   clear g1 g3 hout
   go_enter Tryd.func7, Tryd.ntmps7
   go_wp2_with ((go_at_call 15; (with_reducible refine (quietuslaw07_sanity.yes _ HK.out.hg).mono ?_); rintro e w1 ⟨rfl, hb⟩; have HKn := Aside0.mk (HK.out.below hb); have HBn := Aside0.mk (below_step HB.out hb); clear HK HB hz0 hz1 hz2 hb; have HK := HKn; have HB := HBn; clear HKn HBn; have hz0 := HK.out.c0; have hz1 := HK.out.c1; have hz2 := HK.out.c2))
   go_ret
   exact ⟨rfl, HB.out⟩
  ·have b3 : decide ((200 : Int) < (z : Int)) = false := decide_eq_false (by omega)
   obtain ⟨h1, he⟩ : code_Check.f k d l m = some e ∧ e ≠ 0 := by rcases hout with h | h | h; exact absurd h g1; exact absurd h g3; exact h
   have b4 : (e == 0) = false := beq_eq_false_iff_ne.2 he
   have b5 : (e != 0) = true := bne_iff_ne.2 he
   have H1 := Aside0.mk h1
   subst hz
   clear g1 g3 hout h1 he
   go_enter Tryd.func7, Tryd.ntmps7
   go_wp2_with (first
    | (go_at_call 20; (with_reducible refine (HK.out.check H1.out).mono ?_); rintro e w1 ⟨rfl, hb⟩; have HKn := Aside0.mk (HK.out.below hb); have HBn := Aside0.mk (below_step HB.out hb); clear HK HB hz0 hz1 hz2 hb; have HK := HKn; have HB := HBn; clear HKn HBn; have hz0 := HK.out.c0; have hz1 := HK.out.c1; have hz2 := HK.out.c2)
    | (go_at_call 15; (with_reducible refine (quietuslaw07_sanity.yes _ HK.out.hg).mono ?_); rintro e w1 ⟨rfl, hb⟩; have HKn := Aside0.mk (HK.out.below hb); have HBn := Aside0.mk (below_step HB.out hb); clear HK HB hz0 hz1 hz2 hb; have HK := HKn; have HB := HBn; clear HKn HBn; have hz0 := HK.out.c0; have hz1 := HK.out.c1; have hz2 := HK.out.c2))
   go_ret
   exact ⟨rfl, HB.out⟩


/-! ### quietuslaw07_CodeRoundTrips: function 6 -/
-- over CodeAt.few CodeAt.check
/-- Fresh bytes: a block whose cell behind the last is marked. -/
def BytesAt (g : Nat) (xs : List Int) (W : World) : Prop := ∃ cs : Array Value, W.heap[g]? = some (.cells cs 5 (cs.size, cs.size + 1)) ∧ xs.length ≤ cs.size ∧ ∀ j : Nat, j < xs.length → cs[j]? = some (.int .u8 (rd xs (j : Int)))
theorem BytesAt.cell {g : Nat} {xs : List Int} {W : World} (h : BytesAt g xs W) (j : Nat) (hj : j < xs.length) : W.cell? ⟨g, j, none⟩ = some (.int .u8 (rd xs (j : Int))) ∧ W.frozen? ⟨g, j, none⟩ = false := by
 obtain ⟨cs, h1, h2, h3⟩ := h
 refine ⟨(cell_of_row _ _ _ _ _ _ h1).trans (h3 j hj), ?_⟩
 simp [World.frozen?, h1]; omega
theorem BytesAt.below {g : Nat} {xs : List Int} {W W' : World} (h : BytesAt g xs W) (hb : Below W.heap.size W W') : BytesAt g xs W' := by
 obtain ⟨cs, h1, h2⟩ := h
 exact ⟨cs, blk_below h1 hb, h2⟩
theorem BytesAt.reads {g : Nat} {xs : List Int} {W : World} (h : BytesAt g xs W) (hm : xs.length ≤ 9223372036854775807) : ReadsInt W .u8 (some ⟨g, 0, none⟩) xs.length xs := by
 refine ⟨rfl, hm, fun _ => ⟨_, rfl, fun j hj => ?_⟩⟩
 rw [add_plain, (h.cell j hj).1]; rfl
theorem BytesAt.set {g : Nat} {xs : List Int} {W : World} (h : BytesAt g xs W) (i : Nat) (hi : i < xs.length) (v : Int) : BytesAt g (xs.set i v) (W.setCell ⟨g, i, none⟩ (.int .u8 v)) := by
 obtain ⟨cs, h1, h2, h3⟩ := h
 refine ⟨cs.setIfInBounds i (.int .u8 v), ?_, by simpa using h2, fun j hj => ?_⟩
 ·simp [World.setCell, Array.getElem?_modify, h1]
 ·rw [List.length_set] at hj
  by_cases e : i = j
  ·subst e
   simp [Array.getElem?_setIfInBounds, rd, List.getD_eq_getElem?_getD, hi, show i < cs.size by omega]
  ·rw [Array.getElem?_setIfInBounds_ne e, h3 j hj]
   simp [rd, List.getD_eq_getElem?_getD, List.getElem?_set_ne e]

/-! ### risk_looser_1: function 98 -/
/-- The pieces that stay, of the first ones. -/
def leftUpto (pl : List Int) (f : Nat) : Nat → Nat
 | 0 => 0
 | j + 1 => if 0 ≤ rd pl (j : Int) ∧ (f >>> (rd pl (j : Int)).toNat) % 2 = 0 then leftUpto pl f j ||| 2 ^ j else leftUpto pl f j
theorem leftUpto_lt (pl : List Int) (f : Nat) : ∀ j, leftUpto pl f j < 2 ^ j
 | 0 => (by decide : (0 : Nat) < 2 ^ 0)
 | j + 1 => by
  have h := leftUpto_lt pl f j
  have h2 : (2 : Nat) ^ j < 2 ^ (j + 1) := Nat.pow_lt_pow_right (by decide) (by omega)
  show (if 0 ≤ rd pl (j : Int) ∧ (f >>> (rd pl (j : Int)).toNat) % 2 = 0 then leftUpto pl f j ||| 2 ^ j else leftUpto pl f j) < 2 ^ (j + 1)
  split
  ·exact Nat.or_lt_two_pow (by omega) h2
  ·omega
theorem plainElem_bool_inv {H : Type} {P : Program} {e : TypeId} (he : P.underlying e = some .bool) {v : Value} {z : DataW H × List MemPlace} (h : plainElem P e v = some z) : ∃ x, v = .bool x ∧ z = (.lit (.bool x), []) := by
 unfold plainElem at h
 rw [he] at h
 cases v <;> simp at h
 exact ⟨_, rfl, h.symm⟩
/-- What the function that looser returns has: a peril, and the sets that were looked at. -/
structure Looser (w0 : World) (g bk bm : Nat) (d : Int) (A : Option Addr) (c : Nat) (l : List (List Int)) (m : Int) (Aa : Option Addr) (ca : Nat) (pl : List Int) (Ac : Option Addr) (cc : Nat) (ch : List Int) (can : Nat → Bool) (N : Nat) (W : World) : Prop where
 bg : w0.heap.size ≤ g
 bb : w0.heap.size ≤ bk
 bn : w0.heap.size ≤ bm
 per : W.heap[g]? = some (.cells #[.int .i64 d, .slice A l.length c, .int .i64 m, .slice Aa pl.length ca, .slice Ac ch.length cc] 64 (0, 0))
 kn : W.heap[bk]? = some (.cells #[.map (some bm)] 123 (0, 0))
 own : ∃ D : DataW Unit, W.ownsMap Tryd.prog 3 (plainElem Tryd.prog 4) bm N D ∧ Maps.IsMap D ∧ ∀ y : Nat, y < 2 ^ 24 → Maps.has D (.int .i64 (y : Int)) = true → ∀ z, D.atKey (.int .i64 (y : Int)) z = .lit (.bool (!can y))
 bel : Below w0.heap.size w0 W
theorem map_ne {W : World} {b i : Nat} {cs : Array Value} {t : TypeId} {x : Nat × Nat} {P : Program} {k : TypeId} {R : Value → Option (DataW Unit × List MemPlace)} {n : Nat} {D : DataW Unit} (h : W.heap[i]? = some (.cells cs t x)) (ho : W.ownsMap P k R b n D) : i ≠ b := by
 obtain ⟨es, cl, hb, _⟩ := ho
 rintro rfl
 rw [h] at hb; cases hb
theorem blk_grownBy {W W' : World} {b i : Nat} {o : Obj} (h : W.heap[i]? = some o) (hg : W.grownBy W' (some b)) (hne : i ≠ b) : W'.heap[i]? = some o := by
 rw [hg.block i (Array.getElem?_eq_some_iff.1 h).1 (fun e => hne (Option.some.inj e)), h]
theorem grown_of_below {w w' : World} (h : Below w.heap.size w w') (b : Option Nat) : w.grownBy w' b := ⟨h.os, h.tape, h.output, h.size, fun k hk _ => h.block k hk⟩
section
variable {w0 : World} {g bk bm : Nat} {d : Int} {A : Option Addr} {c : Nat} {l : List (List Int)} {m : Int} {Aa : Option Addr} {ca : Nat} {pl : List Int} {Ac : Option Addr} {cc : Nat} {ch : List Int} {can : Nat → Bool} {N : Nat} {W W' : World}
theorem Looser.below (h : Looser w0 g bk bm d A c l m Aa ca pl Ac cc ch can N W) (hb : Below W.heap.size W W') : Looser w0 g bk bm d A c l m Aa ca pl Ac cc ch can N W' := by
 obtain ⟨D, h1, h2, h3⟩ := h.own
 exact ⟨h.bg, h.bb, h.bn, blk_below h.per hb, blk_below h.kn hb, ⟨D, h1.kept (grown_of_below hb none) (by simp), h2, h3⟩, below_step h.bel hb⟩
theorem Looser.mono (h : Looser w0 g bk bm d A c l m Aa ca pl Ac cc ch can N W) {M : Nat} (hM : N ≤ M) : Looser w0 g bk bm d A c l m Aa ca pl Ac cc ch can M W := by
 obtain ⟨D, h1, h2, h3⟩ := h.own
 exact ⟨h.bg, h.bb, h.bn, h.per, h.kn, ⟨D, h1.mono hM, h2, h3⟩, h.bel⟩
end
theorem or_pow (x k : Nat) (hx : x < 2 ^ 24) (hk : k < 24) : Go.bits .or .i64 (x : Int) (wrap64 (2 ^ k)) = ((x ||| 2 ^ k : Nat) : Int) := by
 have hy2 : 2 ^ k < 2 ^ 24 := Nat.pow_lt_pow_right (by decide) hk
 have e : (2 : Int) ^ k = ((2 ^ k : Nat) : Int) := by simp
 rw [e, show wrap64 ((2 ^ k : Nat) : Int) = ((2 ^ k : Nat) : Int) by generalize 2 ^ k = z at hy2; unfold wrap64; omega, i64_or _ _ (by omega) (by omega)]
set_option maxHeartbeats 4000000 in
set_option maxRecDepth 100000 in
theorem risk_looser_1.calls (k : Nat) (w0 : World) (g bk bm : Nat) (d : Int) (A : Option Addr) (c : Nat) (l : List (List Int)) (m : Int) (Aa : Option Addr) (ca : Nat) (pl : List Int) (Ac : Option Addr) (cc : Nat) (ch : List Int) (can : Nat → Bool) (N f : Nat) (w : World)
  (hG : HG w0) (hC : Kd.C (Kd.slice 3 (Kd.int .i64)) w0 A l.length l) (hc : l.length ≤ c) (hP : (Kd.int .i64).C w0 Aa pl.length pl) (hca : pl.length ≤ ca) (hpl : pl.length ≤ 24) (hpx : ∀ x ∈ pl, x < 12) (hf : f < 2 ^ 12)
  (hrec : ∀ y : Nat, y < 2 ^ pl.length → code_Recoverable.f k d l m (y : Int) = some (can y)) (hN : N < 1000000) (h : Looser w0 g bk bm d A c l m Aa ca pl Ac cc ch can N w) :
  Calls Tryd.prog 98 #[.int .i64 (f : Int), .pointer (some ⟨g, 0, none⟩), .pointer (some ⟨bk, 0, none⟩)] w fun e w' => e = .returned (.bool (!can (leftUpto pl f pl.length))) ∧ w.grownBy w' (some bm) ∧ Looser w0 g bk bm d A c l m Aa ca pl Ac cc ch can (N + 1) w' := by
 have hz0 : w.cell? ⟨g, 0, none⟩ = some (.int .i64 d) := blk_cell h.per 0
 have hz1 : w.cell? ⟨g, 1, none⟩ = some (.slice A l.length c) := blk_cell h.per 1
 have hz2 : w.cell? ⟨g, 2, none⟩ = some (.int .i64 m) := blk_cell h.per 2
 have hz3 : w.cell? ⟨g, 3, none⟩ = some (.slice Aa pl.length ca) := blk_cell h.per 3
 have hk0 : w.cell? ⟨bk, 0, none⟩ = some (.map (some bm)) := blk_cell h.kn 0
 have hu64 := Tryd.underlying64
 have hu24 := Tryd.underlying24
 have HREC := Aside0.mk hrec
 have HL := Aside0.mk h
 have HG0 := Aside0.mk hG
 have HC := Aside0.mk hC
 have HCC := Aside0.mk hc
 have HP := Aside0.mk (Kd.C_below hP h.bel)
 have HPX := Aside0.mk hpx
 clear hG hC hc hP hrec h hpx
 go_enter Tryd.func98, Tryd.ntmps98
 go_wp2
 go_loop [5, 13] (fun y v => ∃ j : Nat, j ≤ pl.length ∧ v = .int .i64 (j : Int) ∧ y = .int .i64 ((leftUpto pl f j : Nat) : Int)) (fun _ v => pl.length - (intOf v).toNat)
 case atStart => exact ⟨0, Nat.zero_le _, rfl, rfl⟩
 case round =>
  obtain ⟨j, hj, rfl, rfl⟩ := hrel
  by_cases hlt : j < pl.length
  ·obtain ⟨ad, rfl, hx⟩ := at_int_nat HP.out j hlt
   have HLS := Aside0.mk (show leftUpto pl f (j + 1) = if 0 ≤ rd pl (j : Int) ∧ (f >>> (rd pl (j : Int)).toNat) % 2 = 0 then leftUpto pl f j ||| 2 ^ j else leftUpto pl f j from rfl)
   have hxm := HPX.out _ (rd_mem hlt)
   have hle := Nat.lt_of_lt_of_le (leftUpto_lt pl f j) (Nat.pow_le_pow_right (n := 2) (by decide) (show j ≤ 24 by omega))
   have hor := or_pow (leftUpto pl f j) j hle (by omega)
   have HOR := Aside0.mk hor
   generalize leftUpto pl f j = lf at hle HLS HOR hor ⊢
   generalize rd pl (j : Int) = x at hx HLS hxm
   by_cases h0 : 0 ≤ x
   ·obtain ⟨t, rfl⟩ := Int.eq_ofNat_of_zero_le h0
    have hls := HLS.out
    rw [Int.toNat_natCast] at hls
    have hbt := bit_eq f t (Nat.lt_trans hf (by decide))
    have hbl : (f >>> t) % 2 < 2 := Nat.mod_lt _ (by decide)
    have ht64 : (t : Int) < 64 := by omega
    generalize (f >>> t) % 2 = bt1 at hbt hbl hls
    have hd0 : decide ((0 : Int) ≤ (t : Int)) = true := decide_eq_true h0
    by_cases hb : bt1 = 0
    ·subst hb
     rw [if_pos ⟨h0, rfl⟩] at hls
     have HLS2 := Aside0.mk hls
     clear hls h0
     have hbt0 : Go.bits .and .i64 ((f : Int) / 2 ^ t) 1 = 0 := hbt
     clear hbt
     go_wp2
     go_round
     case rel => exact ⟨j + 1, by omega, by go_num, by rw [HLS2.out]⟩
     case measure => simp [intOf]; omega
    ·obtain rfl : bt1 = 1 := by omega
     rw [if_neg (by omega)] at hls
     have HLS2 := Aside0.mk hls
     clear hls h0
     have hbt0 : Go.bits .and .i64 ((f : Int) / 2 ^ t) 1 = 1 := hbt
     clear hbt hor
     go_wp2
     go_round
     case rel => exact ⟨j + 1, by omega, by go_num, by rw [HLS2.out]⟩
     case measure => simp [intOf]; omega
   ·have hls := HLS.out
    rw [if_neg (fun hh => h0 hh.1)] at hls
    have HLS2 := Aside0.mk hls
    have hd0 : decide ((0 : Int) ≤ x) = false := decide_eq_false h0
    clear hls hor
    go_wp2
    go_round
    case rel => exact ⟨j + 1, by omega, by go_num, by rw [HLS2.out]⟩
    case measure => simp [intOf]; omega
  ·obtain rfl : j = pl.length := by omega
   have hly := leftUpto_lt pl f pl.length
   have HR := Aside0.mk (HREC.out _ hly)
   have hly24 := Nat.lt_of_lt_of_le hly (Nat.pow_le_pow_right (n := 2) (by decide) hpl)
   obtain ⟨y, hy⟩ : ∃ y, y = leftUpto pl f pl.length := ⟨_, rfl⟩
   rw [← hy] at hly hly24 HR ⊢
   have HY := Aside0.mk hy
   clear hy
   obtain ⟨D, hown, hism, hval⟩ := HL.out.own
   have hkey : keyOf Tryd.prog 3 (.int .i64 (y : Int)) = some (.int .i64 (y : Int)) := Maps.keyOf_int_mk Tryd.underlying3 (by simp [Lit.wf, IntKind.min, IntKind.max, IntKind.signed, IntKind.bits]; omega)
   have hz : ∀ W, (zeroValue 4).run Tryd.prog W = .ok (.bool false) W := fun W => by kernel_rfl
   obtain ⟨v0, ps0, hl1, hv0⟩ := hown.look_ok (Maps.int_keyed Tryd.underlying3) Tryd.underlying123 (hz w) (plainElem_bool Tryd.underlying4 false) hkey
   obtain ⟨x0, rfl, hx0⟩ := plainElem_bool_inv Tryd.underlying4 hv0
   cases hhas : Maps.has D (.int .i64 (y : Int)) with
   | true =>
    obtain ⟨v1, ps1, hl2, hv1⟩ := hown.lookup (Maps.int_keyed Tryd.underlying3) Tryd.underlying123 (hz w) (plainElem_bool Tryd.underlying4 false) hkey
    rw [hval y hly24 hhas] at hv1
    obtain ⟨x1, rfl, hx1⟩ := plainElem_bool_inv Tryd.underlying4 hv1
    simp only [Prod.mk.injEq, DataW.lit.injEq, Lit.bool.injEq] at hx1
    obtain ⟨rfl, rfl⟩ := hx1
    rw [hhas] at hl1
    clear hx0 hv0 hv1 hkey hval hism
    have HGR := Aside0.mk (World.grownBy.refl w (some bm))
    have HL2 := Aside0.mk (HL.out.mono (Nat.le_succ N))
    clear hown hhas
    go_wp2
    go_ret
    exact ⟨by rw [← HY.out]; rfl, HGR.out, HL2.out⟩
   | false =>
    rw [hhas] at hl1
    have HKEY := Aside0.mk hkey
    have HZ := Aside0.mk hz
    clear hx0 hv0 hkey hval hism hown hhas hz
    go_upto_region 10 with fail
    have HLd := Aside0.mk (show Looser w0 g bk bm d A c l m Aa ca pl Ac cc ch can N w.drew from HL.out.below (below_drew (Below.refl _ _)))
    have HBd := Aside0.mk (show Below w.heap.size w w.drew from below_drew (Below.refl _ _))
    clear hl1 HP
    refine start_ (n := 8) (S := fun w' => w'.cell? ⟨bk, 0, none⟩ = some (.map (some bm)) ∧ w'.cell? ⟨g, 0, none⟩ = some (.int .i64 d) ∧ w'.cell? ⟨g, 1, none⟩ = some (.slice A l.length c) ∧ w'.cell? ⟨g, 2, none⟩ = some (.int .i64 m)) (ds := [7]) #[false, false, false, false, false, false, false, false] (by kernel_rfl) rfl rfl ⟨hk0, hz0, hz1, hz2⟩ (fun hHeld => ?_)
    clear HL hk0 hz0 hz1 hz2 hz3
    generalize w.drew = wd at *
    refine pure_ (i := 1) (N := some 41) (v := ?_) (a' := ?_) #[false, true, false, false, false, false, false, false] rfl rfl (by kernel_rfl) (fun _ _ _ h => h) (Or.inl ⟨by rfl, ?_⟩) ?_ ?_
    rotate_left
    ·intro w'
     go_simp
     with_reducible rfl
    rotate_left
    ·simp only [Act.put, List.setIfInBounds_toArray, List.set_cons_zero, List.set_cons_succ, i64_w, i32_w]
     rfl
    refine pure_ (i := 2) (N := some 42) (v := ?_) (a' := ?_) #[false, true, true, false, false, false, false, false] rfl rfl (by kernel_rfl) (fun _ _ _ h => h) (Or.inl ⟨by rfl, ?_⟩) ?_ ?_
    rotate_left
    ·intro w'
     go_simp
     with_reducible rfl
    rotate_left
    ·simp only [Act.put, List.setIfInBounds_toArray, List.set_cons_zero, List.set_cons_succ, i64_w, i32_w]
     rfl
    refine pure_ (i := 4) (N := some 44) (v := ?_) (a' := ?_) #[false, true, true, false, true, false, false, false] rfl rfl (by kernel_rfl) (fun _ _ _ h => h) (Or.inl ⟨by rfl, ?_⟩) ?_ ?_
    rotate_left
    ·intro w'
     go_simp
     with_reducible rfl
    rotate_left
    ·simp only [Act.put, List.setIfInBounds_toArray, List.set_cons_zero, List.set_cons_succ, i64_w, i32_w]
     rfl
    refine take_ (i := 0) (N := some 40) (v := ?_) (a' := ?_) #[true, true, true, false, true, false, false, false] rfl rfl (by kernel_rfl) (fun _ _ _ h => h) (Or.inl ⟨by rfl, ?_⟩) hHeld ?_ ?_
    rotate_left
    ·rintro w' ⟨s0, s1, s2, s3⟩
     go_simp
     with_reducible rfl
    rotate_left
    ·simp only [Act.put, List.setIfInBounds_toArray, List.set_cons_zero, List.set_cons_succ, i64_w, i32_w]
     rfl
    refine take_ (i := 3) (N := some 43) (v := ?_) (a' := ?_) #[true, true, true, true, true, false, false, false] rfl rfl (by kernel_rfl) (fun _ _ _ h => h) (Or.inl ⟨by rfl, ?_⟩) hHeld ?_ ?_
    rotate_left
    ·rintro w' ⟨s0, s1, s2, s3⟩
     go_simp
     with_reducible rfl
    rotate_left
    ·simp only [Act.put, List.setIfInBounds_toArray, List.set_cons_zero, List.set_cons_succ, i64_w, i32_w]
     rfl
    refine one_ (i := 5) (N := some 45) #[true, true, true, true, true, true, false, false] rfl rfl (by kernel_rfl) (by decide) (fun K hK => ?_)
    refine goes_ Tryd.func30 (by kernel_rfl) rfl #[.agg #[.int .i64 d, .slice A l.length c, .int .i64 m], .int .i64 (y : Int)] (by rfl) rfl rfl (by simp only [List.map_toArray, List.map_cons, List.map_nil]; rfl) ?_
    with_reducible refine (code_Recoverable.calls k d A c l m (y : Int) (can y) _ (HG0.out.below HLd.out.bel) (Kd.C_below HC.out HLd.out.bel) HCC.out HR.out).mono ?_
    rintro e w7 ⟨rfl, hb⟩
    refine ⟨_, rfl, ?_⟩
    have HL7 := Aside0.mk (HLd.out.below hb)
    have HB7 := Aside0.mk (below_step HBd.out hb)
    clear hb
    refine hK.out _ _ ⟨blk_cell HL7.out.kn 0, blk_cell HL7.out.per 0, blk_cell HL7.out.per 1, blk_cell HL7.out.per 2⟩ (fun hHeld => ?_)
    clear hK K
    refine norm_ (a' := ?_) ?_ ?_
    rotate_left
    ·show Act.put _ (some 45) _ = _
     simp only [Act.put, List.setIfInBounds_toArray, List.set_cons_zero, List.set_cons_succ, i64_w, i32_w]
     rfl
    refine pure_ (i := 6) (N := some 46) (v := ?_) (a' := ?_) #[true, true, true, true, true, true, true, false] rfl rfl (by kernel_rfl) (fun _ _ _ h => h) (Or.inl ⟨by rfl, ?_⟩) ?_ ?_
    rotate_left
    ·intro w'
     go_simp
     with_reducible rfl
    rotate_left
    ·simp only [Act.put, List.setIfInBounds_toArray, List.set_cons_zero, List.set_cons_succ, i64_w, i32_w]
     rfl
    refine last_ (i := 7) (N := none) #[true, true, true, true, true, true, true, true] rfl rfl (by kernel_rfl) (by decide) (fun K hK => ?_)
    obtain ⟨D7, hown7, hism7, hval7⟩ := HL7.out.own
    obtain ⟨w8, hrun8, hown8, hgr8⟩ := hown7.update (Maps.int_keyed Tryd.underlying3) Tryd.underlying123 (show N < maxLen by unfold maxLen; omega) HKEY.out (plainElem_bool Tryd.underlying4 (!can y))
    refine skip_ (w1 := w8) (by rfl) rfl ?_ ?_
    ·go_simp
    refine hK.out _ _ ?_
    clear hK K
    refine done_ (by kernel_rfl) ?_
    have hat : ∀ z, (D7.put (.int .i64 (y : Int)) (.lit (.bool (!can y)))).atKey (.int .i64 (y : Int)) z = .lit (.bool (!can y)) := fun z => Maps.atKey_put_same hism7 (by simp [WideAt.IsKeyLit]) _ z
    obtain ⟨v1, ps1, hl2, hv1⟩ := hown8.lookup (Maps.int_keyed Tryd.underlying3) Tryd.underlying123 (HZ.out w8) (plainElem_bool Tryd.underlying4 false) HKEY.out
    rw [hat] at hv1
    obtain ⟨x1, rfl, hx1⟩ := plainElem_bool_inv Tryd.underlying4 hv1
    simp only [Prod.mk.injEq, DataW.lit.injEq, Lit.bool.injEq] at hx1
    obtain ⟨rfl, rfl⟩ := hx1
    have hkn8 := blk_grownBy HL7.out.kn hgr8 (map_ne HL7.out.kn hown7)
    have hpe8 := blk_grownBy HL7.out.per hgr8 (map_ne HL7.out.per hown7)
    have hk8 : w8.cell? ⟨bk, 0, none⟩ = some (.map (some bm)) := blk_cell hkn8 0
    have HGR := Aside0.mk ((grown_of_below HB7.out (some bm)).trans hgr8)
    have HL8 := Aside0.mk (show Looser w0 g bk bm d A c l m Aa ca pl Ac cc ch can (N + 1) w8 from ⟨HL7.out.bg, HL7.out.bb, HL7.out.bn, hpe8, hkn8, ⟨_, hown8, hism7.put _ _, fun z hz24 hhas z2 => by
     by_cases e : z = y
     ·subst e; exact hat z2
     ·have hne : (Lit.int IntKind.i64 (z : Int)) ≠ (Lit.int IntKind.i64 (y : Int)) := by simp; omega
      rw [Maps.atKey_put_other hne]
      rw [Maps.has_put_other hne] at hhas
      exact hval7 z hz24 hhas z2⟩, HL7.out.bel.grown hgr8 HL7.out.bel.size (fun k hk => by obtain rfl := Option.some.inj hk; exact HL7.out.bn)⟩)
    clear hat hv1 hkn8 hpe8 hgr8 hown8 hval7 hism7 hown7 hrun8 HL7 HB7 HBd HLd
    go_wp2
    go_ret
    exact ⟨by rw [← HY.out]; rfl, HGR.out, HL8.out⟩

def anyFrom (p : Nat → Bool) : Nat → Nat → Bool
 | _, 0 => false
 | j, n + 1 => p j || anyFrom p (j + 1) n
theorem anyFrom_iff (p : Nat → Bool) : ∀ n j, anyFrom p j n = true ↔ ∃ t, j ≤ t ∧ t < j + n ∧ p t = true := by
 intro n
 induction n with
 | zero =>
  intro j
  simp only [anyFrom]
  constructor
  ·intro h; cases h
  ·rintro ⟨t, h1, h2, _⟩; omega
 | succ n ih =>
  intro j
  simp only [anyFrom, Bool.or_eq_true, ih]
  constructor
  ·rintro (h | ⟨t, h1, h2, h3⟩)
   ·exact ⟨j, Nat.le_refl _, by omega, h⟩
   ·exact ⟨t, by omega, by omega, h3⟩
  ·rintro ⟨t, h1, h2, h3⟩
   by_cases e : t = j
   ·subst e; exact .inl h3
   ·exact .inr ⟨t, by omega, by omega, h3⟩
theorem anyFrom_false {p : Nat → Bool} {j n : Nat} (h : anyFrom p j n = false) : ∀ t, j ≤ t → t < j + n → p t = false := by
 intro t h1 h2
 cases hp : p t
 ·rfl
 ·rw [(anyFrom_iff p n j).2 ⟨t, h1, h2, hp⟩] at h; cases h
theorem wrap_succ {n : Nat} (h : n < 9223372036854775807) : wrap64 ((n : Int) + 1) = ((n + 1 : Nat) : Int) := by unfold wrap64; omega
theorem wrap_pred {n : Nat} (h0 : 0 < n) (h : n < 9223372036854775807) : wrap64 ((n : Int) - 1) = ((n - 1 : Nat) : Int) := by unfold wrap64; omega
theorem ev_eq {α : Type} {g : Nat → Option α} {a b : α} (h : Ev g a) (e : a = b) : Ev g b := e ▸ h
/-! Has -/
/-! what Check says -/
def badEl (d : Int) (l : List (List Int)) (gi j : Nat) : Bool :=
 (decide (rd (rd_L1 l gi) j < 0) || (decide (d ≤ rd (rd_L1 l gi) j) || (decide (0 < j) && decide (rd (rd_L1 l gi) j ≤ rd (rd_L1 l gi) ((j - 1 : Nat) : Int))))) || anyFrom (fun h => decide (rd (rd_L1 l gi) j ∈ rd_L1 l (h : Nat))) 0 gi
def grpErr (d : Int) (l : List (List Int)) (gi : Nat) : Int := if (rd_L1 l gi).length = 0 then 8 else if anyFrom (badEl d l gi) 0 (rd_L1 l gi).length = true then 1 else 0
def chkFrom (d : Int) (l : List (List Int)) : Nat → Nat → Int
 | _, 0 => 0
 | i, n + 1 => if grpErr d l i = 0 then chkFrom d l (i + 1) n else grpErr d l i
def chk (d : Int) (l : List (List Int)) (m : Int) : Int := if d < 1 ∨ 16 < d ∨ m < 0 ∨ 4 < m then 3 else if 24 < d + l.length + m then 2 else chkFrom d l 0 l.length
/-! the reference's Check -/
def Small (l : List (List Int)) : Prop := l.length ≤ 4611686018427387000 ∧ ∀ i : Nat, (rd_L1 l i).length ≤ 9223372036854775807
def orAll (g : List Int) (s : Nat) : Nat := g.foldl (fun s i => s ||| 2 ^ i.toNat) s
theorem orAll_snoc (g : List Int) (x : Int) (s : Nat) : orAll (g ++ [x]) s = orAll g s ||| 2 ^ x.toNat := by simp [orAll]
theorem orAll_lt {g : List Int} (h : ∀ x ∈ g, 0 ≤ x ∧ x < 16) : ∀ {s : Nat}, s < 2 ^ 16 → orAll g s < 2 ^ 16 := by
 induction g with
 | nil => intro s hs; exact hs
 | cons a g ih =>
  intro s hs
  have ha := h a (List.mem_cons_self)
  exact ih (fun x hx => h x (List.mem_cons_of_mem _ hx)) (Nat.or_lt_two_pow hs (Nat.pow_lt_pow_right (by decide) (by omega)))
theorem orAll_bit (g : List Int) (i : Nat) : ∀ s, (orAll g s).testBit i = (s.testBit i || g.any (fun x => x.toNat == i)) := by
 induction g with
 | nil => intro s; simp [orAll]
 | cons a g ih =>
  intro s
  show (orAll g (s ||| 2 ^ a.toNat)).testBit i = _
  rw [ih, Nat.testBit_or, Nat.testBit_two_pow, List.any_cons, Bool.or_assoc]
  congr 2
def seenOf (l : List (List Int)) : Nat → Nat
 | 0 => 0
 | i + 1 => orAll (rd_L1 l (i : Nat)) (seenOf l i)
/-- The groups before i have elements of the code alone. -/
def Elems (d : Int) (l : List (List Int)) (i : Nat) : Prop := ∀ h : Nat, h < i → ∀ x ∈ rd_L1 l (h : Nat), 0 ≤ x ∧ x < d
theorem seenOf_lt {d : Int} {l : List (List Int)} (hd : d ≤ 16) : ∀ {i}, Elems d l i → seenOf l i < 2 ^ 16
 | 0, _ => (by decide : (0 : Nat) < 2 ^ 16)
 | i + 1, h => orAll_lt (fun x hx => by have := h i (Nat.lt_succ_self i) x hx; omega) (seenOf_lt hd (fun g hg => h g (by omega)))
theorem seenOf_bit {d : Int} {l : List (List Int)} {x : Int} (hx : 0 ≤ x) : ∀ {i}, Elems d l i → (seenOf l i).testBit x.toNat = anyFrom (fun h => decide (x ∈ rd_L1 l (h : Nat))) 0 i := by
 intro i
 induction i with
 | zero => intro _; simp [seenOf, anyFrom]
 | succ i ih =>
  intro h
  have e := ih (fun g hg => h g (by omega))
  rw [Bool.eq_iff_iff, anyFrom_iff] at e ⊢
  rw [show seenOf l (i + 1) = orAll (rd_L1 l (i : Nat)) (seenOf l i) from rfl, orAll_bit, Bool.or_eq_true, e, List.any_eq_true]
  constructor
  ·rintro (⟨t, h1, h2, h3⟩ | ⟨y, hy, hz⟩)
   ·exact ⟨t, h1, by omega, h3⟩
   ·have := (h i (Nat.lt_succ_self i) y hy).1
    have hz : y.toNat = x.toNat := by simpa using hz
    obtain rfl : y = x := by omega
    exact ⟨i, by omega, by omega, by simpa using hy⟩
  ·rintro ⟨t, h1, h2, h3⟩
   by_cases ht : t = i
   ·subst ht; exact .inr ⟨x, by simpa using h3, by simp⟩
   ·exact .inl ⟨t, h1, by omega, h3⟩
theorem bit_of (s : Nat) (x : Int) (hx : 0 ≤ x) (h16 : x < 16) (hs : s < 2 ^ 16) : (Go.bits .and .i64 (shr .i64 (s : Int) x) 1 = 1) ↔ s.testBit x.toNat = true := by
 obtain ⟨n, rfl⟩ := Int.eq_ofNat_of_zero_le hx
 rw [shr_i64_nat s n (by omega), i64_and1 _ (by have := Nat.shiftRight_le s n; omega), Int.toNat_natCast, Nat.testBit_eq_decide_div_mod_eq, Nat.shiftRight_eq_div_pow, decide_eq_true_eq]
 omega
theorem rdm {l : List Int} {i : Nat} (h : i < l.length) : rd l (i : Int) ∈ l := by rw [rdi h]; exact List.getElem_mem h
theorem cchk_l2 (d : Int) (l : List (List Int)) (m : Int) (hs : Small l) (i : Nat) (hil : i < l.length) (s : Nat) (hlt : s < 2 ^ 16) (hg : ∀ x ∈ rd_L1 l (i : Nat), 0 ≤ x ∧ x < 16) (R : Int)
  (hR : Ev (fun k => code_Check.l0 k ((orAll (rd_L1 l (i : Nat)) s : Nat) : Int) 0 l (l.length : Int) ((i + 1 : Nat) : Int) d l m) R) :
  ∀ n j, j + n = (rd_L1 l (i : Nat)).length → Ev (fun k => code_Check.l2 k ((orAll ((rd_L1 l (i : Nat)).take j) s : Nat) : Int) 0 l (l.length : Int) (i : Int) (rd_L1 l (i : Nat)) ((rd_L1 l (i : Nat)).length : Int) (j : Int) d l m) R := by
 have hgl := hs.2 i
 have hsl := hs.1
 generalize rd_L1 l (i : Nat) = g at *
 intro n
 induction n with
 | zero =>
  intro j hj
  refine Ev.step (f := fun k => code_Check.l0 k ((orAll g s : Nat) : Int) 0 l (l.length : Int) ((i + 1 : Nat) : Int) d l m) (fun k => ?_) hR
  simp only [code_Check.l2]
  rw [if_neg (by omega), List.take_of_length_le (by omega), wrap_succ (by omega)]
 | succ n ih =>
  intro j hj
  have hx := hg _ (rdm (show j < g.length by omega))
  refine Ev.step (f := fun k => code_Check.l2 k ((orAll (g.take (j + 1)) s : Nat) : Int) 0 l (l.length : Int) (i : Int) g (g.length : Int) ((j + 1 : Nat) : Int) d l m) (fun k => ?_) (ih (j + 1) (by omega))
  simp only [code_Check.l2]
  have ht : g.take (j + 1) = g.take j ++ [rd g (j : Int)] := by rw [rdi (show j < g.length by omega)]; exact List.take_succ_eq_append_getElem (by omega)
  rw [if_pos (by omega), if_pos (by omega), if_pos (by omega), if_pos hx.1, wrap_succ (by omega), ht, orAll_snoc]
  have hb := orAll_lt (g := g.take j) (fun x hx => hg x (List.mem_of_mem_take hx)) hlt
  have hp : 2 ^ (rd g (j : Int)).toNat < 2 ^ 16 := Nat.pow_lt_pow_right (by decide) (by omega)
  have e := shl_i64_nat 1 (rd g (j : Int)).toNat (by omega) (by omega)
  rw [Int.toNat_of_nonneg hx.1, Nat.one_mul] at e
  rw [show ((1 : Nat) : Int) = 1 from rfl] at e
  rw [e, i64_or _ _ (by omega) (by omega)]
theorem cchk_l1 (d : Int) (hd : d ≤ 16) (l : List (List Int)) (m : Int) (hs : Small l) (i : Nat) (hil : i < l.length) (hel : Elems d l i) (R : Int)
  (hR : (∀ x ∈ rd_L1 l (i : Nat), 0 ≤ x ∧ x < d) → Ev (fun k => code_Check.l0 k ((seenOf l (i + 1) : Nat) : Int) 0 l (l.length : Int) ((i + 1 : Nat) : Int) d l m) R) :
  ∀ n j, j + n = (rd_L1 l (i : Nat)).length → (∀ t : Nat, t < j → 0 ≤ rd (rd_L1 l i) t ∧ rd (rd_L1 l i) t < d) →
   Ev (fun k => code_Check.l1 k ((seenOf l i : Nat) : Int) 0 (rd_L1 l i) l (l.length : Int) (i : Int) (rd_L1 l i) ((rd_L1 l i).length : Int) (j : Int) d l m) (if anyFrom (badEl d l i) j n = true then 1 else R) := by
 have hgl := hs.2 i
 have hlt := seenOf_lt hd hel
 intro n
 induction n with
 | zero =>
  intro j hj hpre
  have hall : ∀ x ∈ rd_L1 l (i : Nat), 0 ≤ x ∧ x < d := by
   intro x hx
   obtain ⟨t, ht, rfl⟩ := List.mem_iff_getElem.1 hx
   have := hpre t (by omega)
   rwa [rdi ht] at this
  refine Ev.step (f := fun k => code_Check.l2 k ((seenOf l i : Nat) : Int) 0 l (l.length : Int) (i : Int) (rd_L1 l i) ((rd_L1 l i).length : Int) ((0 : Nat) : Int) d l m) (fun k => ?_) ?_
  ·simp only [code_Check.l1]
   rw [if_neg (by omega)]
   rfl
  ·simp only [anyFrom]
   exact cchk_l2 d l m hs i hil (seenOf l i) hlt (fun x hx => by have := hall x hx; omega) R (hR hall) _ 0 (Nat.zero_add _)
 | succ n ih =>
  intro j hj hpre
  have hjl : j < (rd_L1 l i).length := by omega
  by_cases hb : badEl d l i j = true
  ·simp only [anyFrom, hb, Bool.true_or, if_true]
   refine Ev.step (f := fun _ => some 1) (fun k => ?_) (Ev.now _)
   simp only [code_Check.l1]
   rw [if_pos (by omega), if_pos (by omega), if_pos (by omega)]
   unfold badEl at hb
   by_cases c1 : rd (rd_L1 l i) j < 0
   ·rw [if_pos c1]
   rw [if_neg c1]
   by_cases c2 : d ≤ rd (rd_L1 l i) j
   ·rw [if_pos c2]
   rw [if_neg c2]
   simp only [c1, c2, decide_false, Bool.false_or] at hb
   have hsn : ¬ (decide (0 < j) && decide (rd (rd_L1 l i) j ≤ rd (rd_L1 l i) ((j - 1 : Nat) : Int))) = true → Go.bits .and .i64 (shr .i64 ((seenOf l i : Nat) : Int) (rd (rd_L1 l i) j)) 1 = 1 := by
    intro hn
    rw [bit_of _ _ (by omega) (by omega) hlt, seenOf_bit (by omega) hel]
    rw [Bool.not_eq_true] at hn
    rw [hn, Bool.false_or] at hb
    exact hb
   by_cases c3 : 0 < j
   ·rw [if_pos (by omega), wrap_pred c3 (by omega), if_pos (by omega), if_pos (by omega)]
    by_cases c4 : rd (rd_L1 l i) j ≤ rd (rd_L1 l i) ((j - 1 : Nat) : Int)
    ·rw [if_pos c4]
    ·rw [if_neg c4, if_pos (by omega), if_pos (hsn (by simp [c4]))]
   ·rw [if_neg (by omega), if_pos (by omega), if_pos (hsn (by simp [c3]))]
  ·have hb0 : badEl d l i j = false := Bool.eq_false_iff.2 hb
   simp only [anyFrom, hb0, Bool.false_or]
   unfold badEl at hb0
   simp only [Bool.or_eq_false_iff, decide_eq_false_iff_not] at hb0
   obtain ⟨⟨c1, c2, c3⟩, c4⟩ := hb0
   refine Ev.step (f := fun k => code_Check.l1 k ((seenOf l i : Nat) : Int) 0 (rd_L1 l i) l (l.length : Int) (i : Int) (rd_L1 l i) ((rd_L1 l i).length : Int) ((j + 1 : Nat) : Int) d l m) (fun k => ?_) (ih (j + 1) (by omega) (fun t ht => ?_))
   ·simp only [code_Check.l1]
    have hns : ¬ Go.bits .and .i64 (shr .i64 ((seenOf l i : Nat) : Int) (rd (rd_L1 l i) j)) 1 = 1 := by
     rw [bit_of _ _ (by omega) (by omega) hlt, seenOf_bit (by omega) hel, c4]
     decide
    rw [if_pos (by omega), if_pos (by omega), if_pos (by omega), if_neg c1, if_neg (show ¬ rd (rd_L1 l i) j ≥ d from c2)]
    by_cases e : 0 < j
    ·have c5 : ¬ rd (rd_L1 l i) j ≤ rd (rd_L1 l i) ((j - 1 : Nat) : Int) := by
      intro h; simp [e, h] at c3
     rw [if_pos (by omega), wrap_pred e (by omega), if_pos (by omega), if_pos (by omega), if_neg c5, if_pos (by omega), if_neg hns, wrap_succ (by omega)]
    ·rw [if_neg (by omega), if_pos (by omega), if_neg hns, wrap_succ (by omega)]
   ·by_cases e : t = j
    ·subst e; omega
    ·exact hpre t (by omega)
theorem cchk_l0 (d : Int) (hd : d ≤ 16) (l : List (List Int)) (m : Int) (hs : Small l) : ∀ n i, i + n = l.length → Elems d l i → Ev (fun k => code_Check.l0 k ((seenOf l i : Nat) : Int) 0 l (l.length : Int) (i : Int) d l m) (chkFrom d l i n) := by
 intro n
 have hsl := hs.1
 induction n with
 | zero =>
  intro i hi hel
  refine Ev.step (f := fun _ => some 0) (fun k => ?_) (Ev.now _)
  simp only [code_Check.l0]
  rw [if_neg (by omega)]
 | succ n ih =>
  intro i hi hel
  by_cases h0 : (rd_L1 l i).length = 0
  ·have e : grpErr d l i = 8 := by unfold grpErr; rw [if_pos h0]
   simp only [chkFrom, e]
   refine Ev.step (f := fun _ => some 8) (fun k => ?_) (Ev.now _)
   simp only [code_Check.l0]
   rw [if_pos (by omega), if_pos (by omega), if_pos (by omega), if_pos (by omega)]
  ·refine Ev.step (f := fun k => code_Check.l1 k ((seenOf l i : Nat) : Int) 0 (rd_L1 l i) l (l.length : Int) (i : Int) (rd_L1 l i) ((rd_L1 l i).length : Int) ((0 : Nat) : Int) d l m) (fun k => ?_) ?_
   ·simp only [code_Check.l0]
    rw [if_pos (by omega), if_pos (by omega), if_pos (by omega), if_neg (by omega)]
    rfl
   ·refine ev_eq (cchk_l1 d hd l m hs i (by omega) hel (chkFrom d l (i + 1) n) (fun hall => ih (i + 1) (by omega) (fun h hh => ?_)) _ 0 (Nat.zero_add _) (fun t ht => absurd ht (Nat.not_lt_zero t))) ?_
    ·by_cases e : h = i
     ·subst e; exact hall
     ·exact hel h (by omega)
    ·have ge : grpErr d l i = if anyFrom (badEl d l i) 0 (rd_L1 l i).length = true then 1 else 0 := by unfold grpErr; rw [if_neg h0]
     by_cases e : anyFrom (badEl d l i) 0 (rd_L1 l i).length = true
     ·rw [if_pos e] at ge ⊢
      simp [chkFrom, ge]
     ·rw [if_neg e] at ge ⊢
      simp [chkFrom, ge]
theorem cchk_ev (d : Int) (l : List (List Int)) (m : Int) (hs : Small l) : Ev (fun k => code_Check.f k d l m) (chk d l m) := by
 have hsl := hs.1
 obtain ⟨b, hb⟩ : ∃ b, b = (decide (d < 1) || (decide (16 < d) || (decide (m < 0) || decide (4 < m)))) := ⟨_, rfl⟩
 refine Ev.congr (f := fun k => code_Check.j0 k b d l m) (fun k => ?_) ?_
 ·unfold code_Check.f
  by_cases c1 : d < 1
  ·rw [if_pos c1, hb]; simp [c1]
  rw [if_neg c1]
  by_cases c2 : 16 < d
  ·rw [if_pos c2, hb]; simp [c2]
  rw [if_neg c2]
  by_cases c3 : m < 0
  ·rw [if_pos c3, hb]; simp [c3]
  rw [if_neg c3, hb]
  simp [c1, c2, c3]
 ·unfold chk
  cases b with
  | true =>
   have : d < 1 ∨ 16 < d ∨ m < 0 ∨ 4 < m := by simpa using hb.symm
   rw [if_pos this]
   exact Ev.step (f := fun _ => some 3) (fun k => by simp only [code_Check.j0]; rfl) (Ev.now _)
  | false =>
   have h' : ¬ (d < 1 ∨ 16 < d ∨ m < 0 ∨ 4 < m) := by
    intro h
    have : (decide (d < 1) || (decide (16 < d) || (decide (m < 0) || decide (4 < m)))) = true := by simpa using h
    rw [← hb] at this; cases this
   rw [if_neg h']
   have hw : wrap64 (wrap64 (d + (l.length : Int)) + m) = d + l.length + m := by unfold wrap64; omega
   by_cases e : 24 < d + (l.length : Int) + m
   ·rw [if_pos e]
    refine Ev.step (f := fun k => code_Check.j1 k true d l m) (fun k => ?_) (Ev.step (f := fun _ => some 2) (fun k => by simp only [code_Check.j1]; rfl) (Ev.now _))
    simp only [code_Check.j0, hw, gt_iff_lt, e, decide_true, Bool.false_eq_true, if_false, ite_self]
   ·rw [if_neg e]
    refine Ev.step (f := fun k => code_Check.j1 k false d l m) (fun k => ?_) (Ev.step (f := fun k => code_Check.l0 k ((seenOf l 0 : Nat) : Int) 0 l (l.length : Int) ((0 : Nat) : Int) d l m) (fun k => by simp only [code_Check.j1]; rfl) (cchk_l0 d (by omega) l m hs _ 0 (Nat.zero_add _) (fun h hh => absurd hh (Nat.not_lt_zero h))))
    simp only [code_Check.j0, hw, gt_iff_lt, e, decide_false, Bool.false_eq_true, if_false]
    rw [if_neg (by omega)]
/-! what a code without an error is like -/
theorem chkFrom_elems {d : Int} {l : List (List Int)} : ∀ n i, chkFrom d l i n = 0 → ∀ h : Nat, i ≤ h → h < i + n → grpErr d l h = 0 := by
 intro n
 induction n with
 | zero => intro i _ h h1 h2; omega
 | succ n ih =>
  intro i hc h h1 h2
  simp only [chkFrom] at hc
  by_cases e : grpErr d l i = 0
  ·rw [if_pos e] at hc
   by_cases e2 : h = i
   ·subst e2; exact e
   ·exact ih (i + 1) hc h (by omega) (by omega)
  ·rw [if_neg e] at hc
   exact absurd hc e
theorem grp_ok {d : Int} {l : List (List Int)} {gi : Nat} (h : grpErr d l gi = 0) : 0 < (rd_L1 l gi).length ∧ ∀ j : Nat, j < (rd_L1 l gi).length → badEl d l gi j = false := by
 unfold grpErr at h
 by_cases e : (rd_L1 l gi).length = 0
 ·rw [if_pos e] at h; cases h
 ·rw [if_neg e] at h
  refine ⟨by omega, fun j hj => ?_⟩
  have : anyFrom (badEl d l gi) 0 (rd_L1 l gi).length = false := by
   cases hc : anyFrom (badEl d l gi) 0 (rd_L1 l gi).length
   ·rfl
   ·rw [hc] at h; cases h
  exact anyFrom_false this j (Nat.zero_le _) (by omega)
structure CodeOk (d : Int) (l : List (List Int)) (m : Int) : Prop where
 d1 : 1 ≤ d
 d2 : d ≤ 16
 m1 : 0 ≤ m
 m2 : m ≤ 4
 sum : d + l.length + m ≤ 24
 grp : ∀ h : Nat, h < l.length → 0 < (rd_L1 l h).length ∧ ∀ j : Nat, j < (rd_L1 l h).length → badEl d l h j = false
theorem chk_ok {d : Int} {l : List (List Int)} {m : Int} (h : chk d l m = 0) : CodeOk d l m := by
 unfold chk at h
 by_cases c1 : d < 1 ∨ 16 < d ∨ m < 0 ∨ 4 < m
 ·rw [if_pos c1] at h; cases h
 rw [if_neg c1] at h
 by_cases c2 : 24 < d + (l.length : Int) + m
 ·rw [if_pos c2] at h; cases h
 rw [if_neg c2] at h
 exact ⟨by omega, by omega, by omega, by omega, by omega, fun g hg => grp_ok (chkFrom_elems _ _ h g (Nat.zero_le _) (by omega))⟩
theorem CodeOk.elems {d : Int} {l : List (List Int)} {m : Int} (h : CodeOk d l m) : Elems d l l.length := by
 intro g hg x hx
 obtain ⟨t, ht, rfl⟩ := List.mem_iff_getElem.1 hx
 have := (h.grp g hg).2 t ht
 unfold badEl at this
 simp only [Bool.or_eq_false_iff, decide_eq_false_iff_not, rdi ht] at this
 omega
/-! Pieces, Size, Few -/
def piecesOf (d : Int) (l : List (List Int)) (m : Int) : Int := if chk d l m = 0 then d + l.length + m else 0
theorem cpieces_ev (d : Int) (l : List (List Int)) (m : Int) (hs : Small l) : Ev (fun k => code_Pieces.f k d l m) (piecesOf d l m) := by
 unfold piecesOf
 refine Ev.congr (f := fun k => (code_Check.f k d l m).bind fun t => if t = 0 then some (wrap64 (wrap64 (d + (l.length : Int)) + m)) else some 0) (fun k => rfl) (Ev.bind (cchk_ev d l m hs) ?_)
 by_cases e : chk d l m = 0
 ·have := chk_ok e
  have h1 := this.d1; have h2 := this.d2; have h3 := this.m1; have h4 := this.m2; have h5 := this.sum
  simp only [e, if_true]
  have hw : wrap64 (wrap64 (d + (l.length : Int)) + m) = d + l.length + m := by unfold wrap64; omega
  rw [hw]
  exact Ev.now _
 ·simp only [e, if_false]
  exact Ev.now _
def sizeOf (d : Int) (l : List (List Int)) (m n : Int) : Int := if chk d l m = 0 ∧ 0 ≤ n ∧ n ≤ 4096 then (n + d - 1) / d else 0
theorem size_num {d n : Int} (h1 : 1 ≤ d) (h2 : d ≤ 16) (h3 : 0 ≤ n) (h4 : n ≤ 4096) : wrap64 (Int.tdiv (wrap64 (wrap64 (n + d) - 1)) d) = (n + d - 1) / d := by
 have e : wrap64 (wrap64 (n + d) - 1) = n + d - 1 := by unfold wrap64; omega
 rw [e, Int.tdiv_eq_ediv_of_nonneg (by omega)]
 have h5 : 0 ≤ (n + d - 1) / d := Int.ediv_nonneg (by omega) (by omega)
 have h6 : (n + d - 1) / d ≤ n + d - 1 := Int.ediv_le_self _ (by omega)
 generalize (n + d - 1) / d = q at *
 unfold wrap64; omega
theorem sizeOf_in {d : Int} {l : List (List Int)} {m n : Int} (h : chk d l m = 0) (h0 : ¬ n < 0) (h1 : ¬ n > 4096) : sizeOf d l m n = (n + d - 1) / d := if_pos ⟨h, by omega, by omega⟩
theorem sizeOf_out {d : Int} {l : List (List Int)} {m n : Int} (h : chk d l m ≠ 0 ∨ n < 0 ∨ n > 4096) : sizeOf d l m n = 0 := if_neg (fun ⟨h1, h2, h3⟩ => by rcases h with h | h | h; exact h h1; omega; omega)
theorem csize_ev (d : Int) (l : List (List Int)) (m n : Int) (hs : Small l) : Ev (fun k => code_Size.f k d l m n) (sizeOf d l m n) := by
 by_cases c1 : n < 0
 ·rw [sizeOf_out (.inr (.inl c1))]
  exact Ev.congr (f := fun _ => some 0) (fun k => by unfold code_Size.f; rw [if_pos c1]) (Ev.now _)
 by_cases c2 : n > 4096
 ·rw [sizeOf_out (.inr (.inr c2))]
  exact Ev.congr (f := fun _ => some 0) (fun k => by unfold code_Size.f; rw [if_neg c1, if_pos c2]) (Ev.now _)
 refine Ev.congr (f := fun k => (code_Check.f k d l m).bind fun t => if t = 0 then (if d = 0 then none else some (wrap64 (Int.tdiv (wrap64 (wrap64 (n + d) - 1)) d))) else some 0) (fun k => by unfold code_Size.f; rw [if_neg c1, if_neg c2]) (Ev.bind (cchk_ev d l m hs) ?_)
 by_cases e : chk d l m = 0
 ·have := chk_ok e
  have h1 := this.d1; have h2 := this.d2
  rw [sizeOf_in e c1 c2]
  simp only [e, if_true, if_neg (show ¬ d = 0 by omega), size_num h1 h2 (show 0 ≤ n by omega) (show n ≤ 4096 by omega)]
  exact Ev.now _
 ·rw [sizeOf_out (.inl e)]
  simp only [e, if_false]
  exact Ev.now _
end Go.Proofs.YtkadfidmfnpohaaDoor.XB

namespace Go.Proofs.YtkadfidmfnpohaaDoor.XB
open Go.RowKit Go.Proofs.YtkadfidmfnpohaaDoorW.PrintWords Go.Proofs.YtkadfidmfnpohaaDoorW.PrintLast Go.Proofs.YtkadfidmfnpohaaDoorW.PrintMore
set_option linter.unusedVariables false
set_option linter.unusedSimpArgs false
theorem bt_get (l : List Int) (h : ∀ x ∈ l, isB x = true) (i : Nat) (hi : i < l.length) : bt (strOfNums l) (i : Int) = l[i] := by
 have hx := isB_iff.1 (h _ (List.getElem_mem hi))
 have hs : (i : Int).toNat < (strOfNums l).size := by rw [strOfNums_size]; simpa using hi
 unfold bt
 rw [dif_pos hs]
 have e : (strOfNums l)[(i : Int).toNat]'hs = UInt8.ofNat (l[i]).toNat := by
  simp [strOfNums, ByteArray.getElem_eq_getElem_data]
 rw [e, UInt8.toNat_ofNat', Nat.mod_eq_of_lt (by omega)]
 omega
/-! the reference's product -/
/-! powers of 2 -/
/-! a row of the reference -/
def elAt (D : Nat) (l : List (List Int)) (t i : Nat) : Int := if t < D then unitAt t i else if t < D + l.length then setAt (setOf (rd_L1 l ((t - D : Nat) : Int))) i else expAt (t - D - l.length) i
def rowAt (D : Nat) (l : List (List Int)) (t : Nat) : List Int := (List.range D).map (elAt D l t)
theorem setAt_has {g : List Int} (h : ∀ x ∈ g, 0 ≤ x ∧ x < 16) (i : Nat) : setAt (setOf g) i = if (i : Int) ∈ g then 1 else 0 := by
 have e : (setOf g).testBit i = g.any (fun x => x.toNat == i) := by
  have := orAll_bit g i 0
  rwa [Nat.zero_testBit, Bool.false_or] at this
 have hm : (g.any (fun x => x.toNat == i) = true) ↔ (i : Int) ∈ g := by
  rw [List.any_eq_true]
  constructor
  ·rintro ⟨x, hx, hz⟩
   have := (h x hx).1
   have hz : x.toNat = i := by simpa using hz
   rwa [show (i : Int) = x by omega]
  ·intro hx
   exact ⟨_, hx, by simp⟩
 unfold setAt
 rw [Nat.testBit_eq_decide_div_mod_eq, ← Nat.shiftRight_eq_div_pow] at e
 by_cases c : (i : Int) ∈ g
 ·rw [if_pos c]
  rw [hm.2 c, decide_eq_true_eq] at e
  rw [e]; rfl
 ·rw [if_neg c]
  have hf : g.any (fun x => x.toNat == i) = false := by
   cases hc : g.any (fun x => x.toNat == i)
   ·rfl
   ·exact absurd (hm.1 hc) c
  rw [hf, decide_eq_false_iff_not] at e
  have : setOf g >>> i % 2 = 0 := by omega
  rw [this]; rfl
/-! all rows -/
theorem rowsOf_eq (D : Nat) (l : List (List Int)) (M : Nat) : rowsOf D l M = (List.range (D + l.length + M)).map (rowAt D l) := by
 unfold rowsOf unitRows groupRows expRows
 rw [List.take_length]
 apply List.ext_getElem?
 intro i
 by_cases c1 : i < D
 ·rw [List.append_assoc, List.getElem?_append_left (by simpa using c1), List.getElem?_map, List.getElem?_map, List.getElem?_range c1, List.getElem?_range (by omega)]
  simp only [Option.map_some]
  congr 1
  unfold unitRow rowAt
  apply List.map_congr_left
  intro j _
  unfold elAt
  rw [if_pos c1]
 ·by_cases c2 : i < D + l.length
  ·rw [List.append_assoc, List.getElem?_append_right (by simp; omega), List.getElem?_append_left (by simp; omega), List.getElem?_map, List.getElem?_map, List.getElem?_range (by omega)]
   simp only [List.length_map, List.length_range, Option.map_some]
   rw [List.getElem?_eq_getElem (by omega)]
   simp only [Option.map_some]
   congr 1
   unfold groupRow rowAt
   apply List.map_congr_left
   intro j _
   unfold elAt
   rw [if_neg c1, if_pos c2]
   have : rd_L1 l ((i - D : Nat) : Int) = l[i - D]'(by omega) := by simp [rd_L1, List.getD_eq_getElem?_getD, List.getElem?_eq_getElem (show i - D < l.length by omega)]
   rw [this]
  ·have hL : ((List.range D).map (unitRow D) ++ l.map (groupRow D)).length = D + l.length := by simp
   by_cases c3 : i < D + l.length + M
   ·rw [List.getElem?_append_right (by omega), hL, List.getElem?_map, List.getElem?_range (show i - (D + l.length) < M by omega), List.getElem?_map, List.getElem?_range c3]
    simp only [Option.map_some]
    congr 1
    unfold expRow rowAt
    apply List.map_congr_left
    intro j _
    unfold elAt
    rw [if_neg c1, if_neg c2, Nat.sub_add_eq]
   ·rw [List.getElem?_eq_none (by simp; omega), List.getElem?_eq_none (by simp; omega)]
theorem okCode_of {D : Nat} {l : List (List Int)} {M : Nat} (h : CodeOk (D : Int) l (M : Int)) : okCode (D : Int) l (M : Int) = true := by
 have h1 := h.d1; have h2 := h.d2; have h3 := h.m2; have h4 := h.sum; have h5 := h.elems
 simp only [okCode, Bool.and_eq_true, decide_eq_true_eq, List.all_eq_true]
 refine ⟨⟨⟨⟨⟨h1, h2⟩, by omega⟩, h3⟩, by omega⟩, fun g hg x hx => ?_⟩
 obtain ⟨t, ht, rfl⟩ := List.mem_iff_getElem.1 hg
 have e : rd_L1 l (t : Nat) = l[t] := by simp [rd_L1, List.getD_eq_getElem?_getD, List.getElem?_eq_getElem ht]
 have := h5 t ht x (by rw [e]; exact hx)
 omega
theorem CodeOk.nats {d : Int} {l : List (List Int)} {m : Int} (h : CodeOk d l m) : ∃ D M : Nat, d = D ∧ m = M := by
 have h1 := h.d1; have h3 := h.m1
 exact ⟨d.toNat, m.toNat, by omega, by omega⟩
/-- The rows of a code; none with an error. -/
def rowsFor (d : Int) (l : List (List Int)) (m : Int) : List (List Int) := if chk d l m = 0 then rowsOf d.toNat l m.toNat else []
theorem crows_ev (d : Int) (l : List (List Int)) (m : Int) (hs : Small l) : Ev (fun k => code_Rows.f k d l m) (rowsFor d l m, chk d l m) := by
 unfold rowsFor
 refine Ev.congr (f := fun k => (code_Check.f k d l m).bind fun e => if e = 0 then (if okCode d l m = true then some (rowsOf d.toNat l m.toNat, 0) else none) else some ([], e)) (fun k => rfl) (Ev.bind (cchk_ev d l m hs) ?_)
 by_cases e : chk d l m = 0
 ·have hok := chk_ok e
  obtain ⟨D, M, rfl, rfl⟩ := hok.nats
  simp only [e, if_true, okCode_of hok]
  exact Ev.now _
 ·simp only [e, if_false]
  exact Ev.now _
end Go.Proofs.YtkadfidmfnpohaaDoor.XB

namespace Go.Proofs.YtkadfidmfnpohaaDoor.XB
open Go.RowKit Go.Proofs.YtkadfidmfnpohaaDoorW.PrintWords Go.Proofs.YtkadfidmfnpohaaDoorW.PrintLast Go.Proofs.YtkadfidmfnpohaaDoorW.PrintMore
set_option linter.unusedVariables false
set_option linter.unusedSimpArgs false
/-! Scale and Sum of the reference -/
/-! Combine of the reference -/
theorem all_map_isB {n : Nat} {f : Nat → Int} (h : ∀ i, i < n → isB (f i) = true) : ∀ x ∈ (List.range n).map f, isB x = true := by
 intro x hx
 obtain ⟨i, hi, rfl⟩ := List.mem_map.1 hx
 exact h i (List.mem_range.1 hi)
theorem bt_map {n : Nat} {f : Nat → Int} (h : ∀ i, i < n → isB (f i) = true) (i : Nat) (hi : i < n) : bt (strOfNums ((List.range n).map f)) (i : Int) = f i := by
 rw [bt_get _ (all_map_isB h) i (by simpa using hi)]
 simp
theorem ixor_zero {x : Int} (h : isB x = true) : ixor 0 x = x := by
 rw [isB_iff] at h
 unfold ixor
 rw [Int.toNat_zero, Nat.zero_xor]
 omega
theorem ccomb_eq (coef : List Int) (parts : List ByteArray) (n : Nat) (hn : n ≤ 1000000) (hl : coef.length = parts.length) (h0 : 0 < parts.length) (hc : coef.all isB = true) (hp : ∀ i : Nat, i < parts.length → (rdOf ByteArray.empty parts (i : Int)).size = n) :
  gf_Combine.f coef parts = some (combBytes coef parts n, 0) := by
 have hs : partSize parts = n := by
  have := hp 0 h0
  cases parts with
  | nil => simp at h0
  | cons a l => exact this
 unfold gf_Combine.f
 rw [if_pos hl, hs, if_pos ⟨hc, by omega⟩, if_pos (sameSize_iff.2 hp)]
/-! parts -/
theorem partOf_size (s : ByteArray) (size i : Nat) : (partOf s size i).size = size := by unfold partOf; rw [strOfNums_size]; simp
theorem partsOf_length (s : ByteArray) (size n : Nat) : (partsOf s size n).length = n := by simp [partsOf]
theorem partsOf_get (s : ByteArray) (size n i : Nat) (h : i < n) : rdOf ByteArray.empty (partsOf s size n) (i : Int) = partOf s size i := by
 simp [rdOf, partsOf, List.getD_eq_getElem?_getD, h]
theorem rowAt_length (D : Nat) (l : List (List Int)) (t : Nat) : (rowAt D l t).length = D := by simp [rowAt]
theorem elAt_isB (D : Nat) (l : List (List Int)) (t i : Nat) : isB (elAt D l t i) = true := by
 unfold elAt
 split
 ·unfold unitAt; split <;> decide
 ·split
  ·unfold setAt; exact isB_nat (by omega)
  ·unfold expAt; exact isB_nat (QGF.xtp_lt (by decide) _)
theorem rowAt_isB (D : Nat) (l : List (List Int)) (t : Nat) : (rowAt D l t).all isB = true := by
 rw [List.all_eq_true]
 exact all_map_isB (fun i _ => elAt_isB D l t i)
/-- The pieces of a chunk. -/
def piecesFor (D : Nat) (l : List (List Int)) (M : Nat) (s : ByteArray) : List ByteArray := (rowsOf D l M).map fun r => combBytes r (partsOf s (((s.size : Int) + D - 1) / D).toNat D) (((s.size : Int) + D - 1) / D).toNat
def encFor (d : Int) (l : List (List Int)) (m : Int) (s : ByteArray) : List ByteArray × Int := if chk d l m = 0 then (if s.size ≤ 4096 then (piecesFor d.toNat l m.toNat s, 0) else ([], 2)) else ([], chk d l m)
theorem size_le {D n : Nat} (h1 : 1 ≤ D) (h2 : n ≤ 4096) : (((n : Int) + D - 1) / D).toNat ≤ 4096 ∧ n ≤ D * (((n : Int) + D - 1) / D).toNat ∧ 0 ≤ ((n : Int) + D - 1) / D := by
 have e : ((n : Int) + D - 1) / D = (((n + D - 1) / D : Nat) : Int) := by
  rw [show (n : Int) + D - 1 = ((n + D - 1 : Nat) : Int) by omega]
  exact (Int.natCast_ediv _ _).symm
 rw [e, Int.toNat_natCast]
 refine ⟨?_, ?_, Int.natCast_nonneg _⟩
 ·rw [Nat.div_le_iff_le_mul_add_pred h1]
  have : D * 4096 ≥ 4096 * 1 := by rw [Nat.mul_comm]; exact Nat.mul_le_mul_left _ h1
  have h3 : 4096 * D ≥ 4096 + (D - 1) * 4096 := by
   obtain ⟨k, rfl⟩ : ∃ k, D = k + 1 := ⟨D - 1, by omega⟩
   simp; omega
  rw [Nat.mul_comm] at h3
  omega
 ·have := Nat.div_add_mod (n + D - 1) D
  have h3 := Nat.mod_lt (n + D - 1) (show 0 < D by omega)
  omega
theorem combRows_eq (parts : List ByteArray) (n : Nat) : ∀ rows : List (List Int), (∀ r ∈ rows, gf_Combine.f r parts = some (combBytes r parts n, 0)) → combRows parts rows = some (rows.map fun r => combBytes r parts n)
 | [], _ => rfl
 | r :: rows, h => by
  unfold combRows
  rw [h r (List.mem_cons_self), combRows_eq parts n rows (fun x hx => h x (List.mem_cons_of_mem _ hx))]
  rfl
theorem cenc_ev (d : Int) (l : List (List Int)) (m : Int) (s : ByteArray) (hs : Small l) (hb : s.size ≤ 140737488351232) : Ev (fun k => code_Encode.f k d l m s) (encFor d l m s) := by
 unfold encFor
 refine Ev.congr (f := fun k => (code_Rows.f k d l m).bind fun r => if r.2 = 0 then (if (s.size : Int) > 4096 then some ([], 2) else (code_Size.f k d l m (s.size : Int)).bind fun size => if 0 ≤ d ∧ 0 ≤ size then encodeWith d.toNat size.toNat r.1 s else none) else some ([], r.2)) (fun k => rfl) (Ev.bind (crows_ev d l m hs) ?_)
 by_cases e : chk d l m = 0
 ·have hok := chk_ok e
  obtain ⟨D, M, rfl, rfl⟩ := hok.nats
  have h1 := hok.d1; have h2 := hok.d2; have h4 := hok.sum
  simp only [e, if_true, rowsFor]
  by_cases c : s.size ≤ 4096
  ·rw [if_pos c]
   simp only [show ¬ ((s.size : Int) > 4096) by omega, if_false]
   refine Ev.bind (csize_ev (D : Int) l (M : Int) (s.size : Int) hs) ?_
   rw [sizeOf_in e (by omega) (by omega)]
   obtain ⟨z1, z2, z3⟩ := size_le (D := D) (n := s.size) (by omega) c
   simp only [show (0 : Int) ≤ (D : Int) ∧ 0 ≤ ((s.size : Int) + D - 1) / D from ⟨by omega, z3⟩, if_true]
   rw [Int.toNat_natCast, Int.toNat_natCast]
   have hrl : (rowsOf D l M).length ≤ 100 := by rw [rowsOf_eq]; simp; omega
   have hew : encodeWith D (((s.size : Int) + D - 1) / D).toNat (rowsOf D l M) s = some (piecesFor D l M s, 0) := by
    unfold encodeWith piecesFor
    rw [if_pos ⟨by omega, z2, z1, hrl⟩, combRows_eq _ (((s.size : Int) + D - 1) / D).toNat]
    ·rfl
    ·intro r hr
     rw [rowsOf_eq] at hr
     obtain ⟨t, _, rfl⟩ := List.mem_map.1 hr
     refine ccomb_eq _ _ _ (by omega) (by rw [rowAt_length, partsOf_length]) (by rw [partsOf_length]; omega) (rowAt_isB D l t) (fun i hi => ?_)
     rw [partsOf_length] at hi
     rw [partsOf_get _ _ _ _ hi, partOf_size]
   simp only [hew]
   exact Ev.now _
  ·rw [if_neg c]
   simp only [show ((s.size : Int) > 4096) by omega, if_true]
   exact Ev.now _
 ·simp only [e, if_false]
  exact Ev.now _
/-! the same lists -/
/-! the law -/
end Go.Proofs.YtkadfidmfnpohaaDoor.XB

namespace Go.Proofs.YtkadfidmfnpohaaDoor.XB
open Go.RowKit Go.Proofs.YtkadfidmfnpohaaDoorW.PrintWords Go.Proofs.YtkadfidmfnpohaaDoorW.PrintLast Go.Proofs.YtkadfidmfnpohaaDoorW.PrintMore
set_option linter.unusedVariables false
set_option linter.unusedSimpArgs false
theorem isB_ex {a : Int} (h : isB a = true) : ∃ m : Nat, a = (m : Int) ∧ m < 256 := by
  rw [isB_iff] at h
  exact ⟨a.toNat, by omega, by omega⟩
theorem ixor_comm (a b : Int) : ixor a b = ixor b a := by unfold ixor; rw [Nat.xor_comm]
theorem ixor_assoc (a b c : Int) : ixor (ixor a b) c = ixor a (ixor b c) := by unfold ixor; rw [Int.toNat_natCast, Int.toNat_natCast, Nat.xor_assoc]
theorem ixor_self (a : Int) : ixor a a = 0 := by unfold ixor; rw [Nat.xor_self]; rfl
theorem ixor_zero_right {a : Int} (h : isB a = true) : ixor a 0 = a := by rw [ixor_comm]; exact ixor_zero h
theorem ixor_four (a b c d : Int) : ixor (ixor a b) (ixor c d) = ixor (ixor a c) (ixor b d) := by
  rw [ixor_assoc, ixor_assoc, ← ixor_assoc b c d, ixor_comm b c, ixor_assoc c b d]
theorem ixor_eq_zero {a b : Int} (ha : isB a = true) (hb : isB b = true) (h : ixor a b = 0) : a = b := by
  have : ixor (ixor a b) b = b := by rw [h, ixor_zero hb]
  rw [ixor_assoc, ixor_self, ixor_zero_right ha] at this
  exact this
theorem imul_zero_right (a : Int) : imul a 0 = 0 := by unfold imul; rw [Int.toNat_zero, QGF.mul_zero]; rfl
theorem imul_zero_left {a : Int} (h : isB a = true) : imul 0 a = 0 := by
  obtain ⟨m, rfl, hm⟩ := isB_ex h
  unfold imul; rw [Int.toNat_zero, Int.toNat_natCast, QGF.zero_mul hm]; rfl
theorem imul_one_left {a : Int} (h : isB a = true) : imul 1 a = a := by
  obtain ⟨m, rfl, hm⟩ := isB_ex h
  show ((QGF.mulN 1 m : Nat) : Int) = _
  rw [QGF.one_mul hm]
theorem imul_comm {a b : Int} (ha : isB a = true) (hb : isB b = true) : imul a b = imul b a := by
  obtain ⟨m, rfl, hm⟩ := isB_ex ha
  obtain ⟨n, rfl, hn⟩ := isB_ex hb
  show ((QGF.mulN m n : Nat) : Int) = ((QGF.mulN n m : Nat) : Int)
  rw [QGF.mul_comm hm hn]
theorem imul_assoc {a b c : Int} (ha : isB a = true) (hb : isB b = true) (hc : isB c = true) : imul (imul a b) c = imul a (imul b c) := by
  obtain ⟨m, rfl, hm⟩ := isB_ex ha
  obtain ⟨n, rfl, hn⟩ := isB_ex hb
  obtain ⟨o, rfl, ho⟩ := isB_ex hc
  show ((QGF.mulN (QGF.mulN m n) o : Nat) : Int) = ((QGF.mulN m (QGF.mulN n o) : Nat) : Int)
  rw [QGF.mul_assoc hm hn ho]
theorem imul_xor (a b c : Int) : imul a (ixor b c) = ixor (imul a b) (imul a c) := by
  show ((QGF.mulN a.toNat (b.toNat ^^^ c.toNat) : Nat) : Int) = ((QGF.mulN a.toNat b.toNat ^^^ QGF.mulN a.toNat c.toNat : Nat) : Int)
  rw [QGF.mul_xor]
theorem xor_imul {a b c : Int} (ha : isB a = true) (hb : isB b = true) (hc : isB c = true) : imul (ixor a b) c = ixor (imul a c) (imul b c) := by
  rw [imul_comm (isB_xor ha hb) hc, imul_xor, imul_comm hc ha, imul_comm hc hb]
theorem imul_eq_zero {a b : Int} (ha : isB a = true) (hb : isB b = true) (h : imul a b = 0) : a = 0 ∨ b = 0 := by
  obtain ⟨m, rfl, hm⟩ := isB_ex ha
  obtain ⟨n, rfl, hn⟩ := isB_ex hb
  have h : ((QGF.mulN m n : Nat) : Int) = 0 := h
  rcases QGF.mul_eq_zero hm hn (by omega) with e | e
  · exact .inl (by omega)
  · exact .inr (by omega)
theorem imul_inv {a : Int} (ha : isB a = true) (h0 : a ≠ 0) : imul (iinv a) a = 1 := by
  obtain ⟨m, rfl, hm⟩ := isB_ex ha
  show ((QGF.mulN (QGF.invN m) m : Nat) : Int) = 1
  rw [QGF.mul_comm QGF.inv_lt hm, QGF.mul_inv hm (by omega)]
  rfl
/-! rows and vectors -/
abbrev Vec := Nat → Int
def IsV (x : Vec) : Prop := ∀ i, isB (x i) = true
def dotU (r : List Int) (x : Vec) : Nat → Int
  | 0 => 0
  | i + 1 => ixor (dotU r x i) (imul (rd r (i : Int)) (x i))
def RowB (w : Nat) (r : List Int) : Prop := r.all isB = true ∧ r.length = w
theorem RowB.at {w : Nat} {r : List Int} (h : RowB w r) {i : Nat} (hi : i < w) : isB (rd r (i : Int)) = true := isB_rd h.1 i (by rw [h.2]; exact hi)
theorem dotU_isB {w : Nat} {r : List Int} {x : Vec} (hr : RowB w r) : ∀ i, i ≤ w → isB (dotU r x i) = true
  | 0, _ => rfl
  | i + 1, h => isB_xor (dotU_isB hr i (by omega)) (isB_mul _ (hr.at (by omega)))
theorem gcomb_dot (coef : List Int) (parts : List ByteArray) (k : Nat) : ∀ i, gcomb coef parts k i = dotU coef (fun j => bt (rdOf ByteArray.empty parts (j : Int)) (k : Int)) i
  | 0 => rfl
  | i + 1 => by show ixor (gcomb coef parts k i) _ = _; rw [gcomb_dot coef parts k i]; rfl
theorem dotU_congr {r : List Int} {x y : Vec} : ∀ i, (∀ j, j < i → x j = y j) → dotU r x i = dotU r y i
  | 0, _ => rfl
  | i + 1, h => by
    show ixor (dotU r x i) _ = ixor (dotU r y i) _
    rw [dotU_congr i (fun j hj => h j (by omega)), h i (Nat.lt_succ_self i)]
theorem dotU_sub {w : Nat} {f : Int} {x r : List Int} {v : Vec} (hf : isB f = true) (hr : RowB w r) (hx : RowB w x) (hv : IsV v) : ∀ i, i ≤ w → dotU (subRow f x r) v i = ixor (dotU r v i) (imul f (dotU x v i))
  | 0, _ => by show (0 : Int) = ixor 0 (imul f 0); rw [imul_zero_right]; rfl
  | i + 1, h => by
    have e : rd (subRow f x r) (i : Int) = ixor (rd r (i : Int)) (imul f (rd x (i : Int))) := by
      have hl : i < (subRow f x r).length := by rw [subRow_length, hr.2]; omega
      rw [rdi hl]
      simp [subRow]
    show ixor (dotU (subRow f x r) v i) (imul (rd (subRow f x r) (i : Int)) (v i)) = ixor (ixor (dotU r v i) (imul (rd r (i : Int)) (v i))) (imul f (ixor (dotU x v i) (imul (rd x (i : Int)) (v i))))
    rw [dotU_sub hf hr hx hv i (by omega), e, xor_imul (hr.at (by omega)) (isB_mul _ hf) (hv i), imul_xor, imul_assoc hf (hx.at (by omega)) (hv i), ixor_four]
theorem dotU_mul {w : Nat} {c : Int} {r : List Int} {v : Vec} (hc : isB c = true) (hr : RowB w r) (hv : IsV v) : ∀ i, i ≤ w → dotU (mulRow c r) v i = imul c (dotU r v i)
  | 0, _ => by show (0 : Int) = imul c 0; rw [imul_zero_right]
  | i + 1, h => by
    have e : rd (mulRow c r) (i : Int) = imul c (rd r (i : Int)) := by
      have hl : i < (mulRow c r).length := by rw [mulRow_length, hr.2]; omega
      rw [rdi hl]
      simp [mulRow]
    show ixor (dotU (mulRow c r) v i) (imul (rd (mulRow c r) (i : Int)) (v i)) = imul c (ixor (dotU r v i) (imul (rd r (i : Int)) (v i)))
    rw [dotU_mul hc hr hv i (by omega), e, imul_xor, imul_assoc hc (hr.at (by omega)) (hv i)]
theorem dotU_add {w : Nat} {r : List Int} {u v : Vec} (hr : RowB w r) : ∀ i, i ≤ w → dotU r (fun j => ixor (u j) (v j)) i = ixor (dotU r u i) (dotU r v i)
  | 0, _ => (by show (0 : Int) = ixor 0 0; rfl)
  | i + 1, h => by
    show ixor (dotU r _ i) (imul (rd r (i : Int)) (ixor (u i) (v i))) = ixor (ixor (dotU r u i) (imul (rd r (i : Int)) (u i))) (ixor (dotU r v i) (imul (rd r (i : Int)) (v i)))
    rw [dotU_add hr i (by omega), imul_xor, ixor_four]
/-- What leads: all before it is 0. -/
theorem fst_zero (r : List Int) {i : Nat} (h : i < fstIdx r) : rd r (i : Int) = 0 := by
  have hl : i < r.length := Nat.lt_of_lt_of_le h (fstIdx_le r)
  rw [rdi hl]
  have := List.not_of_lt_findIdx h
  simpa using this
theorem fst_ne (r : List Int) (h : fstIdx r < r.length) : rd r ((fstIdx r : Nat) : Int) ≠ 0 := by
  rw [rdi h]
  have := List.findIdx_getElem (w := h) (p := fun x => x != 0) (xs := r)
  intro e
  have h2 : (r[fstIdx r] != 0) = true := this
  rw [e] at h2
  cases h2
theorem fst_of {r : List Int} {p : Nat} (hp : p < r.length) (h0 : ∀ i, i < p → rd r (i : Int) = 0) (h1 : rd r (p : Int) ≠ 0) : fstIdx r = p := by
  rcases Nat.lt_trichotomy (fstIdx r) p with h | h | h
  · exact absurd (h0 _ h) (fst_ne r (by omega))
  · exact h
  · exact absurd (fst_zero r h) h1
theorem dotU_below {w : Nat} {r : List Int} {v : Vec} (hr : RowB w r) (hv : IsV v) {p : Nat} (h0 : ∀ i, i < p → rd r (i : Int) = 0) : ∀ i, i ≤ p → dotU r v i = 0
  | 0, _ => rfl
  | i + 1, h => by
    show ixor (dotU r v i) _ = 0
    rw [dotU_below hr hv h0 i (by omega), h0 i (by omega), imul_zero_left (hv i)]
    rfl
theorem dotU_zeros {r : List Int} {v : Vec} {p : Nat} : ∀ i, p ≤ i → (∀ j, p ≤ j → j < i → v j = 0) → isB (dotU r v p) = true → dotU r v i = dotU r v p
  | 0, h, _, _ => by obtain rfl : p = 0 := by omega
                     rfl
  | i + 1, h, hz, hb => by
    by_cases e : p = i + 1
    · rw [e]
    · have ih := dotU_zeros i (by omega) (fun j h1 h2 => hz j h1 (by omega)) hb
      show ixor (dotU r v i) (imul _ (v i)) = _
      rw [ih, hz i (by omega) (by omega), imul_zero_right, ixor_zero_right hb]
/-- Rows that lead at different places. -/
structure Leads (w : Nat) (S : List (List Int)) : Prop where
  rows : ∀ r ∈ S, RowB w r ∧ fstIdx r < w
  apart : (S.map fstIdx).Nodup
def Ker (w : Nat) (S : List (List Int)) (v : Vec) : Prop := ∀ r ∈ S, dotU r v w = 0
/-- Only 0 is sent to 0 by all rows. -/
def Full (w : Nat) (S : List (List Int)) : Prop := ∀ v, IsV v → Ker w S v → ∀ i, i < w → v i = 0
theorem nodup_sub {α : Type} [DecidableEq α] : ∀ (a l : List α), a.Nodup → (∀ x ∈ a, x ∈ l) → a.length ≤ l.length
  | [], _, _, _ => Nat.zero_le _
  | x :: a, l, hn, hs => by
    have hn := List.nodup_cons.1 hn
    have hx := hs x List.mem_cons_self
    have := nodup_sub a (l.erase x) hn.2 (fun y hy => (List.mem_erase_of_ne (fun (e : y = x) => hn.1 (e ▸ hy))).2 (hs y (List.mem_cons_of_mem _ hy)))
    rw [List.length_erase_of_mem hx] at this
    have hp := List.length_pos_of_mem hx
    simp only [List.length_cons]
    omega
theorem nodup_inj {α β : Type} {f : α → β} : ∀ {S : List α}, (S.map f).Nodup → ∀ a ∈ S, ∀ b ∈ S, f a = f b → a = b
  | [], _, a, ha, _, _, _ => by cases ha
  | x :: S, hn, a, ha, b, hb, e => by
    rw [List.map_cons] at hn
    have hn := List.nodup_cons.1 hn
    rcases List.mem_cons.1 ha with h1 | h1
    · rcases List.mem_cons.1 hb with h2 | h2
      · rw [h1, h2]
      · exact absurd (h1 ▸ e ▸ List.mem_map_of_mem h2) hn.1
    · rcases List.mem_cons.1 hb with h2 | h2
      · exact absurd (h2 ▸ e ▸ List.mem_map_of_mem h1) hn.1
      · exact nodup_inj hn.2 a h1 b h2 e
theorem Leads.all {w : Nat} {S : List (List Int)} (h : Leads w S) (hl : S.length = w) {p : Nat} (hp : p < w) : ∃ r ∈ S, fstIdx r = p := by
  by_cases hm : p ∈ S.map fstIdx
  · obtain ⟨r, hr, e⟩ := List.mem_map.1 hm
    exact ⟨r, hr, e⟩
  · have := nodup_sub (p :: S.map fstIdx) (List.range w) (List.nodup_cons.2 ⟨hm, h.apart⟩) (fun q hq => by
      rcases List.mem_cons.1 hq with rfl | hq
      · exact List.mem_range.2 hp
      · obtain ⟨r, hr, rfl⟩ := List.mem_map.1 hq
        exact List.mem_range.2 (h.rows r hr).2)
    simp [hl] at this
    omega
theorem Leads.missing {w : Nat} {S : List (List Int)} (h : Leads w S) (hl : S.length < w) : ∃ p, p < w ∧ ∀ r ∈ S, fstIdx r ≠ p := by
  by_cases hc : ∃ p, p < w ∧ p ∉ S.map fstIdx
  · obtain ⟨p, hp, hn⟩ := hc
    exact ⟨p, hp, fun r hr e => hn (List.mem_map.2 ⟨r, hr, e⟩)⟩
  · have := nodup_sub (List.range w) (S.map fstIdx) List.nodup_range (fun p hp => by
      by_cases h3 : p ∈ S.map fstIdx
      · exact h3
      · exact absurd ⟨p, List.mem_range.1 hp, h3⟩ hc)
    simp at this
    omega
theorem Leads.full {w : Nat} {S : List (List Int)} (h : Leads w S) (hl : S.length = w) : Full w S := by
  intro v hv hk
  have key : ∀ n, n ≤ w → ∀ i, w - n ≤ i → i < w → v i = 0 := by
    intro n
    induction n with
    | zero => intro _ i h1 h2; omega
    | succ n ih =>
      intro hn i h1 h2
      by_cases e : i = w - (n + 1)
      · obtain ⟨r, hr, he⟩ := h.all hl h2
        obtain ⟨hb, hf⟩ := h.rows r hr
        have h3 := hk r hr
        have h4 := dotU_zeros (r := r) (v := v) (p := i + 1) w (by omega) (fun j h5 h6 => ih (by omega) j (by omega) h6) (dotU_isB hb (i + 1) (by omega))
        rw [h3] at h4
        have h5 : dotU r v (i + 1) = ixor (dotU r v i) (imul (rd r (i : Int)) (v i)) := rfl
        rw [dotU_below hb hv (p := i) (fun j hj => fst_zero r (by omega)) i (Nat.le_refl _), ixor_zero (isB_mul _ (hb.at h2)), ← h4] at h5
        rcases imul_eq_zero (hb.at h2) (hv i) h5.symm with h6 | h6
        · exact absurd h6 (by have := fst_ne r (by rw [hb.2]; omega); rw [he] at this; exact this)
        · exact h6
      · exact ih (by omega) i (by omega) h2
  exact fun i hi => key w (Nat.le_refl _) i (by omega) hi
/-- What is sent to 0 by rows that leave a place free. -/
theorem Leads.free {w : Nat} {S : List (List Int)} (h : Leads w S) {p : Nat} (hp : p < w) (hfree : ∀ r ∈ S, fstIdx r ≠ p) : ∃ v, IsV v ∧ Ker w S v ∧ v p = 1 := by
  -- from the last place down: the places from w - n on are told so that all rows that lead there are met
  have key : ∀ n, n ≤ w → ∃ v : Vec, IsV v ∧ (∀ r ∈ S, w - n ≤ fstIdx r → dotU r v w = 0) ∧ (w - n ≤ p → v p = 1) ∧ (∀ i, i < w - n → v i = 0) := by
    intro n
    induction n with
    | zero => exact fun _ => ⟨fun _ => 0, fun _ => rfl, fun r hr h1 => by have := (h.rows r hr).2; omega, fun h1 => by omega, fun _ _ => rfl⟩
    | succ n ih =>
      intro hn
      obtain ⟨v, hv, hk, h1, h0⟩ := ih (by omega)
      obtain ⟨q, hq⟩ : ∃ q, q = w - (n + 1) := ⟨_, rfl⟩
      have hqw : q < w := by omega
      -- the value at q
      have main : ∃ c : Int, isB c = true ∧ (q = p → c = 1) ∧ ∀ r ∈ S, fstIdx r = q → ixor (dotU r v w) (imul (rd r (q : Int)) c) = 0 := by
        by_cases e : q = p
        · exact ⟨1, rfl, fun _ => rfl, fun r hr he => absurd (he.trans e) (hfree r hr)⟩
        · by_cases hx : ∃ r ∈ S, fstIdx r = q
          · obtain ⟨r, hr, he⟩ := hx
            obtain ⟨hb, hf⟩ := h.rows r hr
            have hbq := hb.at hqw
            have hne : rd r (q : Int) ≠ 0 := by have := fst_ne r (by rw [hb.2]; omega); rwa [he] at this
            have hd := dotU_isB (x := v) hb w (Nat.le_refl _)
            refine ⟨imul (iinv (rd r (q : Int))) (dotU r v w), isB_mul _ (isB_inv _), fun h => absurd h e, fun r' hr' he' => ?_⟩
            have : r' = r := nodup_inj h.apart r' hr' r hr (he'.trans he.symm)
            subst this
            rw [← imul_assoc hbq (isB_inv _) hd, imul_comm hbq (isB_inv _), imul_inv hbq hne, imul_one_left hd, ixor_self]
          · exact ⟨0, rfl, fun h => absurd h e, fun r hr he => absurd ⟨r, hr, he⟩ hx⟩
      obtain ⟨c, hc, hcp, hcr⟩ := main
      have hadd : ∀ r ∈ S, q ≤ fstIdx r ∨ True → dotU r (fun i => if i = q then c else v i) w = ixor (dotU r v w) (imul (rd r (q : Int)) c) := by
        intro r hr _
        obtain ⟨hb, _⟩ := h.rows r hr
        have he : dotU r (fun i => if i = q then c else v i) w = dotU r (fun i => ixor (v i) (if i = q then c else 0)) w := dotU_congr w (fun j hj => by
          by_cases e : j = q
          · subst e; rw [if_pos rfl, if_pos rfl, h0 j (by omega), ixor_zero hc]
          · rw [if_neg e, if_neg e, ixor_zero_right (hv j)])
        rw [he, dotU_add hb w (Nat.le_refl _)]
        congr 1
        have hone : ∀ i, i ≤ w → dotU r (fun i => if i = q then c else 0) i = if q < i then imul (rd r (q : Int)) c else 0 := by
          intro i
          induction i with
          | zero => intro _; rw [if_neg (by omega)]; rfl
          | succ i ih2 =>
            intro hi
            show ixor (dotU r _ i) (imul (rd r (i : Int)) (if i = q then c else 0)) = _
            rw [ih2 (by omega)]
            by_cases e : i = q
            · subst e
              rw [if_neg (by omega), if_pos rfl, if_pos (by omega), ixor_zero (isB_mul _ (hb.at (by omega)))]
            · rw [if_neg e, imul_zero_right]
              by_cases e2 : q < i
              · rw [if_pos e2, if_pos (by omega), ixor_zero_right (isB_mul _ (hb.at hqw))]
              · rw [if_neg e2, if_neg (by omega)]; rfl
        rw [hone w (Nat.le_refl _), if_pos hqw]
      refine ⟨fun i => if i = q then c else v i, fun i => ?_, fun r hr hle => ?_, fun hle => ?_, fun i hi => ?_⟩
      · by_cases e : i = q
        · simp only [e, if_true]; exact hc
        · simp only [e, if_false]; exact hv i
      · rw [hadd r hr (.inr trivial)]
        by_cases e : fstIdx r = q
        · exact hcr r hr e
        · have hz : rd r (q : Int) = 0 := fst_zero r (by omega)
          rw [hk r hr (by omega), hz, imul_zero_left hc]
          rfl
      · by_cases e : p = q
        · simp only [e, if_true]; exact hcp e.symm
        · simp only [e, if_false]; exact h1 (by omega)
      · have e : i ≠ q := by omega
        simp only [e, if_false]; exact h0 i (by omega)
  obtain ⟨v, hv, hk, h1, _⟩ := key w (Nat.le_refl _)
  exact ⟨v, hv, fun r hr => hk r hr (by omega), h1 (by omega)⟩
theorem Full.mono {w : Nat} {S T : List (List Int)} (h : Full w S) (hs : ∀ v, IsV v → Ker w T v → Ker w S v) : Full w T := fun v hv hk => h v hv (hs v hv hk)
end Go.Proofs.YtkadfidmfnpohaaDoor.XB

namespace Go.Proofs.YtkadfidmfnpohaaDoor.XB
open Go.RowKit Go.Proofs.YtkadfidmfnpohaaDoorW.PrintWords Go.Proofs.YtkadfidmfnpohaaDoorW.PrintLast Go.Proofs.YtkadfidmfnpohaaDoorW.PrintMore
set_option linter.unusedVariables false
set_option linter.unusedSimpArgs false
def Lead1 (st : St) : Prop := ∀ x ∈ st, rd x.1 ((fstIdx x.1 : Nat) : Int) = 1
def Cleared (st : St) : Prop := st.Pairwise fun a b => rd b.1 ((fstIdx a.1 : Nat) : Int) = 0
theorem redStep_row {w : Nat} {a x : List Int × ByteArray} (ha : RowB w a.1) (hx : RowB w x.1) (hf : fstIdx x.1 < w) : RowB w (redStep a x).1 := by
 unfold redStep
 split
 ·exact ha
 ·exact ⟨all_isB_sub ha.1 (ha.at hf), by rw [subRow_length]; exact ha.2⟩
theorem redStep_dot {w : Nat} {a x : List Int × ByteArray} {v : Vec} (ha : RowB w a.1) (hx : RowB w x.1) (hf : fstIdx x.1 < w) (hv : IsV v) (h0 : dotU x.1 v w = 0) : dotU (redStep a x).1 v w = dotU a.1 v w := by
 unfold redStep
 split
 ·rfl
 ·show dotU (subRow _ x.1 a.1) v w = _
  rw [dotU_sub (ha.at hf) ha hx hv w (Nat.le_refl _), h0, imul_zero_right, ixor_zero_right (dotU_isB ha w (Nat.le_refl _))]
theorem redStep_at {w : Nat} {a x : List Int × ByteArray} (ha : RowB w a.1) (hx : RowB w x.1) (hf : fstIdx x.1 < w) (h1 : rd x.1 ((fstIdx x.1 : Nat) : Int) = 1) :
  rd (redStep a x).1 ((fstIdx x.1 : Nat) : Int) = 0 ∧ ∀ z, z < w → rd x.1 (z : Int) = 0 → rd a.1 (z : Int) = 0 → rd (redStep a x).1 (z : Int) = 0 := by
 unfold redStep
 split
 ·rename_i h; exact ⟨h, fun z _ _ h => h⟩
 ·have key : ∀ z, z < w → rd (subRow (rd a.1 ((fstIdx x.1 : Nat) : Int)) x.1 a.1) (z : Int) = ixor (rd a.1 (z : Int)) (imul (rd a.1 ((fstIdx x.1 : Nat) : Int)) (rd x.1 (z : Int))) := by
   intro z hz
   rw [rdi (by rw [subRow_length, ha.2]; exact hz)]
   simp [subRow]
  refine ⟨?_, fun z hz h2 h3 => ?_⟩
  ·show rd (subRow _ x.1 a.1) _ = 0
   rw [key _ hf, h1, imul_comm (ha.at hf) rfl, imul_one_left (ha.at hf), ixor_self]
  ·show rd (subRow _ x.1 a.1) _ = 0
   rw [key z hz, h2, h3, imul_zero_right]
   rfl
theorem redRow_row {w : Nat} : ∀ {st : St} {a}, (∀ x ∈ st, RowB w x.1 ∧ fstIdx x.1 < w) → RowB w a.1 → RowB w (redRow st a).1
 | [], _, _, ha => ha
 | x :: st, a, h, ha => redRow_row (st := st) (fun y hy => h y (List.mem_cons_of_mem _ hy)) (redStep_row ha (h x List.mem_cons_self).1 (h x List.mem_cons_self).2)
theorem redRow_dot {w : Nat} {v : Vec} (hv : IsV v) : ∀ {st : St} {a}, (∀ x ∈ st, RowB w x.1 ∧ fstIdx x.1 < w) → RowB w a.1 → (∀ x ∈ st, dotU x.1 v w = 0) → dotU (redRow st a).1 v w = dotU a.1 v w
 | [], _, _, _, _ => rfl
 | x :: st, a, h, ha, h0 => by
  have hx := h x List.mem_cons_self
  have e := redRow_dot hv (st := st) (a := redStep a x) (fun y hy => h y (List.mem_cons_of_mem _ hy)) (redStep_row ha hx.1 hx.2) (fun y hy => h0 y (List.mem_cons_of_mem _ hy))
  exact e.trans (redStep_dot ha hx.1 hx.2 hv (h0 x List.mem_cons_self))
theorem redRow_at {w : Nat} : ∀ {st : St} {a} (Z : Nat → Prop), (∀ x ∈ st, RowB w x.1 ∧ fstIdx x.1 < w) → Lead1 st → Cleared st → RowB w a.1 → (∀ z, Z z → z < w ∧ rd a.1 (z : Int) = 0 ∧ ∀ x ∈ st, rd x.1 (z : Int) = 0) →
  (∀ z, Z z → rd (redRow st a).1 (z : Int) = 0) ∧ ∀ x ∈ st, rd (redRow st a).1 ((fstIdx x.1 : Nat) : Int) = 0
 | [], _, _, _, _, _, _, hZ => ⟨fun z hz => (hZ z hz).2.1, fun x hx => by cases hx⟩
 | x :: st, a, Z, h, h1, hc, ha, hZ => by
  have hx := h x List.mem_cons_self
  have hcl := List.pairwise_cons.1 hc
  have hs := redStep_at ha hx.1 hx.2 (h1 x List.mem_cons_self)
  obtain ⟨e1, e2⟩ := redRow_at (st := st) (a := redStep a x) (fun z => Z z ∨ z = fstIdx x.1) (fun y hy => h y (List.mem_cons_of_mem _ hy)) (fun y hy => h1 y (List.mem_cons_of_mem _ hy)) hcl.2 (redStep_row ha hx.1 hx.2) (fun z hz => by
   rcases hz with hz | rfl
   ·obtain ⟨h2, h3, h4⟩ := hZ z hz
    exact ⟨h2, hs.2 z h2 (h4 x List.mem_cons_self) h3, fun y hy => h4 y (List.mem_cons_of_mem _ hy)⟩
   ·exact ⟨hx.2, hs.1, fun y hy => hcl.1 y hy⟩)
  refine ⟨fun z hz => e1 z (.inl hz), fun y hy => ?_⟩
  rcases List.mem_cons.1 hy with rfl | hy
  ·exact e1 _ (.inr rfl)
  ·exact e2 y hy
structure Stairs (w : Nat) (st : St) : Prop where
 rows : ∀ x ∈ st, RowB w x.1 ∧ fstIdx x.1 < w
 apart : (st.map fun x => fstIdx x.1).Nodup
 one : Lead1 st
 clear : Cleared st
theorem Stairs.leads {w : Nat} {st : St} (h : Stairs w st) : Leads w (st.map Prod.fst) :=
 ⟨fun r hr => by obtain ⟨x, hx, rfl⟩ := List.mem_map.1 hr; exact h.rows x hx, by rw [List.map_map]; exact h.apart⟩
theorem Stairs.nil (w : Nat) : Stairs w [] := ⟨fun x hx => (by cases hx), List.nodup_nil, fun x hx => (by cases hx), List.Pairwise.nil⟩
/-- A row more. -/
theorem addSt_some {w : Nat} {st : St} (h : Stairs w st) {row : List Int} {part : ByteArray} (hr : RowB w row) {x} (he : addSt st row part = some x) :
  Stairs w (st ++ [x]) ∧ ∀ v, IsV v → (∀ y ∈ st, dotU y.1 v w = 0) → (dotU x.1 v w = 0 ↔ dotU row v w = 0) := by
 have hB := redRow_row (a := (row, part)) h.rows hr
 have hat := (redRow_at (a := (row, part)) (fun _ => False) h.rows h.one h.clear hr (fun z hz => hz.elim)).2
 have hdot := fun v hv h0 => redRow_dot (v := v) hv (a := (row, part)) h.rows hr h0
 unfold addSt at he
 generalize redRow st (row, part) = rr at *
 obtain ⟨r, q⟩ := rr
 dsimp only at *
 by_cases e : fstIdx r = r.length
 ·rw [if_pos e] at he; cases he
 ·rw [if_neg e] at he
  obtain rfl := (Option.some.inj he).symm
  have hfl : fstIdx r < r.length := by have := fstIdx_le r; omega
  have hfw : fstIdx r < w := by rw [← hB.2]; exact hfl
  have hne := fst_ne r hfl
  have hrf := hB.at hfw
  have hcB : isB (iinv (rd r ((fstIdx r : Nat) : Int))) = true := isB_inv _
  have hget : ∀ z, z < w → rd (mulRow (iinv (rd r ((fstIdx r : Nat) : Int))) r) (z : Int) = imul (iinv (rd r ((fstIdx r : Nat) : Int))) (rd r (z : Int)) := by
   intro z hz
   rw [rdi (by rw [mulRow_length, hB.2]; exact hz)]
   simp [mulRow]
  have hone : rd (mulRow (iinv (rd r ((fstIdx r : Nat) : Int))) r) ((fstIdx r : Nat) : Int) = 1 := by rw [hget _ hfw, imul_inv hrf hne]
  have hfst : fstIdx (mulRow (iinv (rd r ((fstIdx r : Nat) : Int))) r) = fstIdx r := by
   refine fst_of (by rw [mulRow_length]; exact hfl) (fun i hi => ?_) (by rw [hone]; decide)
   rw [hget i (by omega), fst_zero r hi, imul_zero_right]
  have hnew : RowB w (mulRow (iinv (rd r ((fstIdx r : Nat) : Int))) r) := ⟨all_isB_mul hcB, by rw [mulRow_length]; exact hB.2⟩
  refine ⟨⟨fun y hy => ?_, ?_, fun y hy => ?_, ?_⟩, fun v hv h0 => ?_⟩
  ·rcases List.mem_append.1 hy with hy | hy
   ·exact h.rows y hy
   ·obtain rfl := List.mem_singleton.1 hy
    exact ⟨hnew, by dsimp only; rw [hfst]; exact hfw⟩
  ·rw [List.map_append, List.nodup_append]
   refine ⟨h.apart, by simp, fun p hp p' hp' => ?_⟩
   obtain ⟨y, hy, rfl⟩ := List.mem_map.1 hp
   simp only [List.map_cons, List.map_nil, List.mem_singleton] at hp'
   rw [hp', hfst]
   intro hc
   have := hat y hy
   rw [hc] at this
   exact hne this
  ·rcases List.mem_append.1 hy with hy | hy
   ·exact h.one y hy
   ·obtain rfl := List.mem_singleton.1 hy
    dsimp only
    rw [hfst]; exact hone
  ·refine List.pairwise_append.2 ⟨h.clear, List.pairwise_singleton _ _, fun a ha b hb => ?_⟩
   obtain rfl := List.mem_singleton.1 hb
   dsimp only
   rw [hget _ (h.rows a ha).2, hat a ha, imul_zero_right]
  ·dsimp only
   rw [dotU_mul hcB hB hv w (Nat.le_refl _), ← hdot v hv h0]
   constructor
   ·intro hz
    rcases imul_eq_zero hcB (dotU_isB hB w (Nat.le_refl _)) hz with e2 | e2
    ·have := imul_inv hrf hne
     rw [e2, imul_zero_left hrf] at this
     cases this
    ·exact e2
   ·intro hz
    rw [hz, imul_zero_right]
theorem addSt_none {w : Nat} {st : St} (h : Stairs w st) {row : List Int} {part : ByteArray} (hr : RowB w row) (he : addSt st row part = none) :
  ∀ v, IsV v → (∀ y ∈ st, dotU y.1 v w = 0) → dotU row v w = 0 := by
 intro v hv h0
 have hB := redRow_row (a := (row, part)) h.rows hr
 rw [← redRow_dot hv (a := (row, part)) h.rows hr h0]
 unfold addSt at he
 generalize redRow st (row, part) = rr at *
 obtain ⟨r, q⟩ := rr
 dsimp only at *
 by_cases e : fstIdx r = r.length
 ·exact dotU_below hB hv (p := w) (fun i hi => fst_zero r (by rw [e, hB.2]; exact hi)) w (Nat.le_refl _)
 ·rw [if_neg e] at he; cases he
/-! rows of a set of pieces -/
def selRows (rows : List (List Int)) (mask : Nat) : Nat → List (List Int)
 | 0 => []
 | n + 1 => if (mask >>> n) % 2 = 1 then selRows rows mask n ++ [rd_L4 rows (n : Int)] else selRows rows mask n
theorem ker_append {w : Nat} {S T : List (List Int)} {v : Vec} : Ker w (S ++ T) v ↔ Ker w S v ∧ Ker w T v := by
 unfold Ker
 constructor
 ·exact fun h => ⟨fun r hr => h r (List.mem_append_left _ hr), fun r hr => h r (List.mem_append_right _ hr)⟩
 ·rintro ⟨h1, h2⟩ r hr
  rcases List.mem_append.1 hr with hr | hr
  ·exact h1 r hr
  ·exact h2 r hr
theorem ker_map {w : Nat} {st : St} {v : Vec} : Ker w (st.map Prod.fst) v ↔ ∀ y ∈ st, dotU y.1 v w = 0 := by
 unfold Ker
 constructor
 ·exact fun h y hy => h _ (List.mem_map_of_mem hy)
 ·intro h r hr
  obtain ⟨y, hy, rfl⟩ := List.mem_map.1 hr
  exact h y hy
theorem collect_inv {w mask : Nat} {rows : List (List Int)} {pieces : List ByteArray} (hrows : ∀ k : Nat, k < rows.length → RowB w (rd_L4 rows (k : Int))) :
  ∀ n, n ≤ rows.length → Stairs w (collectUpto w mask rows pieces n) ∧ (∀ v, IsV v → Ker w (selRows rows mask n) v → Ker w ((collectUpto w mask rows pieces n).map Prod.fst) v) ∧
   ((collectUpto w mask rows pieces n).length < w → ∀ v, IsV v → Ker w ((collectUpto w mask rows pieces n).map Prod.fst) v → Ker w (selRows rows mask n) v) := by
 intro n
 induction n with
 | zero => intro _; exact ⟨Stairs.nil w, fun v _ h r hr => (by cases hr), fun _ v _ h r hr => (by cases hr)⟩
 | succ n ih =>
  intro hn
  obtain ⟨h1, h2, h3⟩ := ih (by omega)
  have hr := hrows n (by omega)
  simp only [collectUpto, selRows]
  by_cases hb : (mask >>> n) % 2 = 1
  ·rw [if_pos hb]
   by_cases hl : (collectUpto w mask rows pieces n).length < w
   ·rw [if_pos ⟨hb, hl⟩]
    cases he : addSt (collectUpto w mask rows pieces n) (rd_L4 rows (n : Int)) (rdOf ByteArray.empty pieces (n : Int)) with
    | none =>
     have hz := addSt_none h1 hr he
     simp only [Option.toList_none, List.append_nil]
     refine ⟨h1, fun v hv hk => h2 v hv (ker_append.1 hk).1, fun _ v hv hk => ker_append.2 ⟨h3 hl v hv hk, fun r hr2 => ?_⟩⟩
     obtain rfl := List.mem_singleton.1 hr2
     exact hz v hv (ker_map.1 hk)
    | some x =>
     obtain ⟨h4, h5⟩ := addSt_some h1 hr he
     simp only [Option.toList_some]
     refine ⟨h4, fun v hv hk => ?_, fun _ v hv hk => ?_⟩
     ·obtain ⟨k1, k2⟩ := ker_append.1 hk
      have k3 := h2 v hv k1
      rw [List.map_append]
      refine ker_append.2 ⟨k3, fun r hr2 => ?_⟩
      obtain rfl := List.mem_singleton.1 hr2
      exact (h5 v hv (ker_map.1 k3)).2 (k2 _ (List.mem_singleton.2 rfl))
     ·rw [List.map_append] at hk
      obtain ⟨k1, k2⟩ := ker_append.1 hk
      refine ker_append.2 ⟨h3 hl v hv k1, fun r hr2 => ?_⟩
      obtain rfl := List.mem_singleton.1 hr2
      exact (h5 v hv (ker_map.1 k1)).1 (k2 _ (List.mem_singleton.2 rfl))
   ·rw [if_neg (fun h => hl h.2)]
    exact ⟨h1, fun v hv hk => h2 v hv (ker_append.1 hk).1, fun h => absurd h hl⟩
  ·rw [if_neg hb, if_neg (fun h => hb h.1)]
   exact ⟨h1, h2, h3⟩
/-- A set of pieces suffices if only 0 is sent to 0 by its rows. -/
theorem collect_iff {w mask : Nat} {rows : List (List Int)} {pieces : List ByteArray} (hrows : ∀ k : Nat, k < rows.length → RowB w (rd_L4 rows (k : Int))) :
  (collectUpto w mask rows pieces rows.length).length = w ↔ Full w (selRows rows mask rows.length) := by
 obtain ⟨h1, h2, h3⟩ := collect_inv (mask := mask) (pieces := pieces) hrows rows.length (Nat.le_refl _)
 have hle := collectUpto_length w mask rows pieces rows.length
 constructor
 ·intro h
  exact (h1.leads.full (by rw [List.length_map]; exact h)).mono h2
 ·intro hf
  by_cases e : (collectUpto w mask rows pieces rows.length).length = w
  ·exact e
  ·have hlt : (collectUpto w mask rows pieces rows.length).length < w := by omega
   obtain ⟨p, hp, hm⟩ := h1.leads.missing (by rw [List.length_map]; exact hlt)
   obtain ⟨v, hv, hk, hv1⟩ := h1.leads.free hp hm
   have := hf v hv (h3 hlt v hv hk) p hp
   rw [hv1] at this
   cases this
/-! pieces that fit -/
/-- A piece that is the row's combination of what X has at each byte. -/
def Fits (w n : Nat) (X : Nat → Vec) (a : List Int × ByteArray) : Prop := a.2.size = n ∧ ∀ b, b < n → bt a.2 (b : Int) = dotU a.1 (X b) w
theorem sum_bt {p s : ByteArray} {n : Nat} (hp : p.size = n) (hs : s.size = n) : (sumP p s).size = n ∧ ∀ b, b < n → bt (sumP p s) (b : Int) = ixor (bt p (b : Int)) (bt s (b : Int)) := by
 unfold sumP
 rw [if_neg (by omega)]
 refine ⟨by rw [sumBytes_size, hp], fun b hb => ?_⟩
 unfold sumBytes
 rw [hp, bt_map (f := gsum p s) (fun i hi => ?_) b hb]
 ·unfold gsum; rw [if_pos (by omega)]
 ·unfold gsum
  split
  ·exact isB_xor (isB_bt _ _) (isB_bt _ _)
  ·exact isB_bt _ _
/-! solving -/
/-- How many pieces of the first n a set has. -/
def bitsUpto (x : Nat) : Nat → Nat
 | 0 => 0
 | n + 1 => bitsUpto x n + (x >>> n) % 2
theorem bitsUpto_low (x : Nat) : ∀ n, bitsUpto x (n + 1) = x % 2 + bitsUpto (x / 2) n
 | 0 => by simp [bitsUpto]
 | n + 1 => by
  show bitsUpto x (n + 1) + (x >>> (n + 1)) % 2 = x % 2 + (bitsUpto (x / 2) n + ((x / 2) >>> n) % 2)
  rw [bitsUpto_low x n]
  have : x >>> (n + 1) = (x / 2) >>> n := by rw [Nat.shiftRight_eq_div_pow, Nat.shiftRight_eq_div_pow, Nat.div_div_eq_div_mul, Nat.pow_succ, Nat.mul_comm]
  rw [this]; omega
theorem bitsUpto_zero : ∀ n, bitsUpto 0 n = 0
 | 0 => rfl
 | n + 1 => by show bitsUpto 0 n + (0 >>> n) % 2 = 0; rw [bitsUpto_zero n]; simp
theorem bitsUpto_le (x : Nat) : ∀ n, bitsUpto x n ≤ n
 | 0 => Nat.le_refl _
 | n + 1 => by show bitsUpto x n + (x >>> n) % 2 ≤ n + 1; have := bitsUpto_le x n; omega
theorem rcount_from : ∀ n x c : Nat, x < 2 ^ n → n ≤ 60 → c + n ≤ 1000 → Ev (fun k => quietusref07_Count.l0 k (x : Int) (c : Int)) ((c + bitsUpto x n : Nat) : Int) := by
 intro n
 induction n with
 | zero =>
  intro x c hx _ _
  obtain rfl : x = 0 := by simpa using hx
  refine Ev.step (f := fun _ => some (c : Int)) (fun k => ?_) (Ev.now _)
  simp only [quietusref07_Count.l0]
  rw [if_neg (by omega)]
 | succ n ih =>
  intro x c hx hn hc
  by_cases h0 : x = 0
  ·subst h0
   rw [bitsUpto_zero]
   refine Ev.step (f := fun _ => some (c : Int)) (fun k => ?_) (Ev.now _)
   simp only [quietusref07_Count.l0]
   rw [if_neg (by omega)]
  ·have hp : 2 ^ (n + 1) ≤ 2 ^ 60 := Nat.pow_le_pow_right (by decide) hn
   have hs : 2 ^ (n + 1) = 2 * 2 ^ n := by rw [Nat.pow_succ, Nat.mul_comm]
   have e1 : wrap64 (Int.tdiv (x : Int) 2) = ((x / 2 : Nat) : Int) := by
    rw [Int.tdiv_eq_ediv_of_nonneg (by omega)]
    generalize 2 ^ n = z at *
    unfold wrap64; omega
   have e2 : wrap64 ((c : Int) + Int.tmod (x : Int) 2) = ((c + x % 2 : Nat) : Int) := by
    rw [Int.tmod_eq_emod_of_nonneg (by omega)]
    unfold wrap64; omega
   rw [bitsUpto_low, ← Nat.add_assoc]
   refine Ev.step (f := fun k => quietusref07_Count.l0 k ((x / 2 : Nat) : Int) ((c + x % 2 : Nat) : Int)) (fun k => ?_) (ih (x / 2) (c + x % 2) (by omega) (by omega) (by omega))
   simp only [quietusref07_Count.l0]
   rw [if_pos (by omega), e1, e2]
theorem rcount_ev (n x : Nat) (hx : x < 2 ^ n) (hn : n ≤ 60) : Ev (fun k => quietusref07_Count.f k (x : Int)) ((bitsUpto x n : Nat) : Int) :=
 Ev.congr (f := fun k => quietusref07_Count.l0 k (x : Int) ((0 : Nat) : Int)) (fun k => by unfold quietusref07_Count.f; rfl) (ev_eq (rcount_from n x 0 hx hn (by omega)) (by rw [Nat.zero_add]))
theorem bit_test (x i : Nat) : (x >>> i) % 2 = 1 ↔ x.testBit i = true := by
 rw [Nat.testBit_eq_decide_div_mod_eq, Nat.shiftRight_eq_div_pow, decide_eq_true_eq]
theorem bit_of_test (x i : Nat) : (x >>> i) % 2 = if x.testBit i = true then 1 else 0 := by
 have h := bit_test x i
 by_cases e : x.testBit i = true
 ·rw [if_pos e]; exact h.2 e
 ·rw [if_neg e]; have : ¬ (x >>> i) % 2 = 1 := fun h2 => e (h.1 h2)
  omega
/-! can it be recovered -/
def canB (d : Int) (l : List (List Int)) (m mask : Int) : Bool := (collectOk (rowsFor d l m) mask []).isSome
theorem rowsOf_rd {D M : Nat} {l : List (List Int)} {t : Nat} (h : t < D + l.length + M) : rd_L4 (rowsOf D l M) (t : Int) = rowAt D l t := by
 rw [rowsOf_eq]
 simp [rd_L4, List.getD_eq_getElem?_getD, h]
theorem rowsOf_length (D M : Nat) (l : List (List Int)) : (rowsOf D l M).length = D + l.length + M := by rw [rowsOf_eq]; simp
theorem rowAt_row (D : Nat) (l : List (List Int)) (t : Nat) : RowB D (rowAt D l t) := ⟨rowAt_isB D l t, rowAt_length D l t⟩
theorem rowWidth_rows {D M : Nat} {l : List (List Int)} (h : 0 < D) : rowWidth (rowsOf D l M) = D := by
 unfold rowWidth
 rw [rowsOf_rd (by omega), rowAt_length]
theorem rowsOf_rowB {D M : Nat} {l : List (List Int)} (k : Nat) (hk : k < (rowsOf D l M).length) : RowB D (rd_L4 (rowsOf D l M) (k : Int)) := by
 rw [rowsOf_length] at hk
 rw [rowsOf_rd hk]
 exact rowAt_row D l k
theorem okRows_rows {D M : Nat} {l : List (List Int)} (h1 : 1 ≤ D) (h2 : D ≤ 16) (h3 : D + l.length + M ≤ 24) : okRows (rowsOf D l M) = true := by
 unfold okRows
 rw [rowWidth_rows (by omega), rowsOf_length]
 simp only [Bool.and_eq_true, Bool.or_eq_true, decide_eq_true_eq, List.all_eq_true]
 refine ⟨⟨⟨h3, .inl h1⟩, h2⟩, fun r hr => ?_⟩
 rw [rowsOf_eq] at hr
 obtain ⟨t, _, rfl⟩ := List.mem_map.1 hr
 exact ⟨fun x hx => List.all_eq_true.1 (rowAt_isB D l t) x hx, rowAt_length D l t⟩
theorem CodeOk.bounds {D M : Nat} {l : List (List Int)} (h : CodeOk (D : Int) l (M : Int)) : 1 ≤ D ∧ D ≤ 16 ∧ M ≤ 4 ∧ D + l.length + M ≤ 24 := by
 have h1 := h.d1; have h2 := h.d2; have h3 := h.m2; have h4 := h.sum
 omega
theorem canB_iff {D M : Nat} {l : List (List Int)} (hc : chk (D : Int) l (M : Int) = 0) (mask : Int) :
  canB (D : Int) l (M : Int) mask = true ↔ 0 ≤ mask ∧ mask < ((2 ^ (D + l.length + M) : Nat) : Int) ∧ Full D (selRows (rowsOf D l M) mask.toNat (D + l.length + M)) := by
 obtain ⟨h1, h2, h3, h4⟩ := (chk_ok hc).bounds
 have hrf : rowsFor (D : Int) l (M : Int) = rowsOf D l M := by unfold rowsFor; rw [if_pos hc]; rfl
 have hci := collect_iff (w := D) (mask := mask.toNat) (pieces := []) (rows := rowsOf D l M) rowsOf_rowB
 have hle := collectUpto_length D mask.toNat (rowsOf D l M) [] (rowsOf D l M).length
 unfold canB collectOk collectSt
 rw [hrf, rowWidth_rows (by omega)]
 rw [rowsOf_length] at hci hle ⊢
 have hp : ((2 : Int) ^ (D + l.length + M)) = ((2 ^ (D + l.length + M) : Nat) : Int) := by simp
 rw [hp]
 by_cases c1 : D + l.length + M = 0 ∨ mask < 0 ∨ ((2 ^ (D + l.length + M) : Nat) : Int) ≤ mask
 ·rw [if_pos c1]
  constructor
  ·intro h; cases h
  ·rintro ⟨h5, h6, _⟩; omega
 ·rw [if_neg c1]
  by_cases c2 : (collectUpto D mask.toNat (rowsOf D l M) [] (D + l.length + M)).length < D
  ·rw [if_pos c2]
   constructor
   ·intro h; cases h
   ·rintro ⟨_, _, h7⟩
    have := hci.2 h7; omega
  ·rw [if_neg c2]
   constructor
   ·intro _
    exact ⟨by omega, by omega, hci.1 (by omega)⟩
   ·intro _; rfl
theorem crec_ev (d : Int) (l : List (List Int)) (m mask : Int) (hs : Small l) : Ev (fun k => code_Recoverable.f k d l m mask) (canB d l m mask) := by
 refine Ev.congr (f := fun k => (code_Rows.f k d l m).bind fun r => if okRows r.1 = true then some (collectOk r.1 mask []).isSome else none) (fun k => rfl) (Ev.bind (crows_ev d l m hs) ?_)
 have hok : okRows (rowsFor d l m) = true := by
  unfold rowsFor
  by_cases e : chk d l m = 0
  ·have hok := chk_ok e
   obtain ⟨D, M, rfl, rfl⟩ := hok.nats
   obtain ⟨h1, h2, h3, h4⟩ := hok.bounds
   rw [if_pos e]
   exact okRows_rows h1 h2 h4
  ·rw [if_neg e]; rfl
 simp only [hok, if_true]
 exact Ev.now _
def canN (D : Nat) (l : List (List Int)) (M : Nat) (x : Nat) : Bool := canB (D : Int) l (M : Int) (x : Int)
/-! the reference's Distance -/
/-! what the law asks -/
/-! the data, byte by byte -/
def partN (D : Nat) (s : ByteArray) : Nat := (((s.size : Int) + D - 1) / D).toNat
def dataV (D : Nat) (s : ByteArray) (b : Nat) : Vec := fun i => bt (partOf s (partN D s) i) (b : Int)
theorem dataV_isV (D : Nat) (s : ByteArray) (b : Nat) : IsV (dataV D s b) := fun i => isB_bt _ _
theorem bytes_range (s : ByteArray) : bytesOf s = (List.range s.size).map fun (j : Nat) => bt s (j : Int) := by
 apply List.ext_getElem
 ·rw [bytesOf_length]; simp
 ·intro i h1 h2
  have h : rd (bytesOf s) (i : Int) = bt s (i : Int) := rd_bytesOf s i
  rw [rdi h1] at h
  rw [h, List.getElem_map, List.getElem_range]
theorem strOf_bytesOf (s : ByteArray) : strOfNums (bytesOf s) = s := by
 apply ByteArray.ext
 simp [strOfNums, bytesOf, Function.comp_def]
theorem rdOf_at {L : List ByteArray} {j : Nat} (h : j < L.length) : rdOf ByteArray.empty L (j : Int) = L[j] := by simp [rdOf, List.getD_eq_getElem?_getD, List.getElem?_eq_getElem h]
theorem piece_fits {D M : Nat} {l : List (List Int)} (s : ByteArray) {t : Nat} (ht : t < D + l.length + M) : Fits D (partN D s) (dataV D s) (rowAt D l t, rdOf ByteArray.empty (piecesFor D l M s) (t : Int)) := by
 have e : rdOf ByteArray.empty (piecesFor D l M s) (t : Int) = combBytes (rowAt D l t) (partsOf s (partN D s) D) (partN D s) := by
  unfold piecesFor
  rw [rowsOf_eq]
  simp [rdOf, List.getD_eq_getElem?_getD, ht, partN]
 rw [e]
 refine ⟨by show (combBytes _ _ _).size = _; unfold combBytes; rw [strOfNums_size]; simp, fun b hb => ?_⟩
 show bt (combBytes _ _ _) _ = _
 unfold combBytes
 rw [bt_map (fun j _ => isB_comb _ _ _ (rowAt_isB D l t) _ (Nat.le_refl _)) b hb, rowAt_length, gcomb_dot]
 exact dotU_congr D fun j hj => by rw [partsOf_get _ _ _ _ hj]; rfl
theorem piecesFor_length (D : Nat) (l : List (List Int)) (M : Nat) (s : ByteArray) : (piecesFor D l M s).length = D + l.length + M := by unfold piecesFor; rw [List.length_map, rowsOf_length]
/-! Decode -/
def zOf (D n : Nat) : Nat := (((n : Int) + D - 1) / D).toNat
end Go.Proofs.YtkadfidmfnpohaaDoor.XB

namespace Go.Proofs.YtkadfidmfnpohaaDoor.XB
open Go.RowKit Go.Proofs.YtkadfidmfnpohaaDoorW.PrintWords Go.Proofs.YtkadfidmfnpohaaDoorW.PrintLast Go.Proofs.YtkadfidmfnpohaaDoorW.PrintMore
set_option linter.unusedVariables false
set_option linter.unusedSimpArgs false
theorem any_small {l : List (List Int)} (hl : l.length ≤ 20) (hw : ∀ g ∈ l, g.length ≤ maxLen) : Small l := by
 refine ⟨by omega, fun i => ?_⟩
 by_cases h : i < l.length
 ·have e : rd_L1 l (i : Int) = l[i] := by simp [rd_L1, List.getD_eq_getElem?_getD, List.getElem?_eq_getElem h]
  rw [e]
  have := hw _ (List.getElem_mem h)
  unfold maxLen at this
  omega
 ·have e : rd_L1 l (i : Int) = [] := by simp [rd_L1, List.getD_eq_getElem?_getD, List.getElem?_eq_none (show l.length ≤ i by omega)]
  rw [e]; simp
theorem piece_size {D M : Nat} {l : List (List Int)} (s : ByteArray) {t : Nat} (ht : t < D + l.length + M) : (rdOf ByteArray.empty (piecesFor D l M s) (t : Int)).size = zOf D s.size := (piece_fits s ht).1
end Go.Proofs.YtkadfidmfnpohaaDoor.XB

namespace Go.Proofs.YtkadfidmfnpohaaDoor.XB
open Go.RowKit Go.Proofs.YtkadfidmfnpohaaDoorW.PrintWords Go.Proofs.YtkadfidmfnpohaaDoorW.PrintLast Go.Proofs.YtkadfidmfnpohaaDoorW.PrintMore
set_option linter.unusedVariables false
set_option linter.unusedSimpArgs false
def xsum (f : Nat → Int) : Nat → Int
 | 0 => 0
 | i + 1 => ixor (xsum f i) (f i)
theorem xsum_congr {f g : Nat → Int} : ∀ n, (∀ i, i < n → f i = g i) → xsum f n = xsum g n
 | 0, _ => rfl
 | n + 1, h => by show ixor (xsum f n) (f n) = ixor (xsum g n) (g n); rw [xsum_congr n (fun i hi => h i (by omega)), h n (by omega)]
theorem xsum_zero {f : Nat → Int} : ∀ n, (∀ i, i < n → f i = 0) → xsum f n = 0
 | 0, _ => rfl
 | n + 1, h => by show ixor (xsum f n) (f n) = 0; rw [xsum_zero n (fun i hi => h i (by omega)), h n (by omega)]; rfl
theorem xsum_single {f : Nat → Int} {q : Nat} : ∀ n, q < n → (∀ i, i < n → isB (f i) = true) → (∀ i, i < n → i ≠ q → f i = 0) → xsum f n = f q
 | 0, h, _, _ => absurd h (Nat.not_lt_zero _)
 | n + 1, h, hb, h0 => by
  show ixor (xsum f n) (f n) = f q
  by_cases e : q = n
  ·subst e
   rw [xsum_zero q (fun i hi => h0 i (by omega) (by omega)), ixor_zero (hb q (by omega))]
  ·rw [xsum_single n (by omega) (fun i hi => hb i (by omega)) (fun i hi hq => h0 i (by omega) hq), h0 n (by omega) (fun h => e h.symm), ixor_zero_right (hb q (by omega))]
theorem xsum_xor (f g : Nat → Int) : ∀ n, xsum (fun i => ixor (f i) (g i)) n = ixor (xsum f n) (xsum g n)
 | 0 => (ixor_self 0).symm
 | n + 1 => by
  show ixor (xsum (fun i => ixor (f i) (g i)) n) (ixor (f n) (g n)) = ixor (ixor (xsum f n) (f n)) (ixor (xsum g n) (g n))
  rw [xsum_xor f g n, ixor_four]
theorem xsum_mul (c : Int) (f : Nat → Int) : ∀ n, xsum (fun i => imul c (f i)) n = imul c (xsum f n)
 | 0 => (imul_zero_right c).symm
 | n + 1 => by
  show ixor (xsum (fun i => imul c (f i)) n) (imul c (f n)) = imul c (ixor (xsum f n) (f n))
  rw [xsum_mul c f n, imul_xor]
theorem dotU_xsum (r : List Int) (v : Vec) : ∀ n, dotU r v n = xsum (fun i => imul (rd r (i : Int)) (v i)) n
 | 0 => rfl
 | n + 1 => by show ixor (dotU r v n) _ = _; rw [dotU_xsum r v n]; rfl
/-! Vandermonde: one unknown after the other -/
theorem vander {n : Nat} {x : Nat → Int} {p : Nat → Nat → Int} (hx : ∀ i, isB (x i) = true) (hinj : ∀ i j, i < n → j < n → x i = x j → i = j) (hp : ∀ i j, isB (p i j) = true) (h0 : ∀ i, p i 0 = 1) (h1 : ∀ i j, p i (j + 1) = imul (x i) (p i j)) :
  ∀ (T : List Nat) (w : Vec), (∀ t ∈ T, t < n) → IsV w → (∀ i, i < n → i ∉ T → w i = 0) → (∀ j, j < T.length → xsum (fun i => imul (w i) (p i j)) n = 0) → ∀ i, i < n → w i = 0
 | [], w, _, _, hz, _ => fun i hi => hz i hi (by simp)
 | t :: T, w, ht, hw, hz, hs => by
  have htn : t < n := ht t List.mem_cons_self
  have hw' : IsV fun i => imul (w i) (ixor (x i) (x t)) := fun i => isB_mul _ (hw i)
  have ih := vander hx hinj hp h0 h1 T (fun i => imul (w i) (ixor (x i) (x t))) (fun s hs => ht s (List.mem_cons_of_mem _ hs)) hw'
   (fun i hi hni => by
    show imul (w i) (ixor (x i) (x t)) = 0
    by_cases e : i = t
    ·subst e; rw [ixor_self, imul_zero_right]
    ·rw [hz i hi (fun h => (List.mem_cons.1 h).elim e hni), imul_zero_left (isB_xor (hx i) (hx t))])
   (fun j hj => by
    have a1 := hs (j + 1) (by simp; omega)
    have a2 := hs j (by simp; omega)
    have e : xsum (fun i => imul (imul (w i) (ixor (x i) (x t))) (p i j)) n = xsum (fun i => ixor (imul (w i) (p i (j + 1))) (imul (x t) (imul (w i) (p i j)))) n := by
     refine xsum_congr n fun i _ => ?_
     rw [imul_xor, xor_imul (isB_mul _ (hw i)) (isB_mul _ (hw i)) (hp i j), h1, imul_assoc (hw i) (hx i) (hp i j), imul_comm (hw i) (hx t), imul_assoc (hx t) (hw i) (hp i j)]
    rw [e, xsum_xor, xsum_mul, a1, a2, imul_zero_right]; rfl)
  have hrest : ∀ i, i < n → i ≠ t → w i = 0 := by
   intro i hi hit
   rcases imul_eq_zero (hw i) (isB_xor (hx i) (hx t)) (ih i hi) with h | h
   ·exact h
   ·exact absurd (hinj i t hi htn (ixor_eq_zero (hx i) (hx t) h)) hit
  intro i hi
  by_cases e : i = t
  ·subst e
   have a0 := hs 0 (by simp)
   rw [xsum_single (q := i) n hi (fun k _ => isB_mul _ (hw k)) (fun k hk hki => by rw [hrest k hk hki, imul_zero_left (hp k 0)])] at a0
   rw [h0, imul_comm (hw i) (by rfl), imul_one_left (hw i)] at a0
   exact a0
  ·exact hrest i hi e
/-! the powers of 2 -/
def pow2 (i : Nat) : Int := ((QGF.xtp i 1 : Nat) : Int)
theorem pow2_isB (i : Nat) : isB (pow2 i) = true := isB_nat (QGF.xtp_lt (by decide) i)
theorem pow2_add (i j : Nat) : imul (pow2 i) (pow2 j) = pow2 (i + j) := by
 unfold imul pow2
 rw [Int.toNat_natCast, Int.toNat_natCast, QGF.mul_pow (QGF.xtp_lt (by decide) i), ← QGF.xtp_add]
theorem pow2_inj {i j : Nat} (hi : i < 16) (hj : j < 16) (h : pow2 i = pow2 j) : i = j := by
 have := QGF.allN_spec (QGF.allN_spec (n := 16) (p := fun i => QGF.allN 16 fun j => !(Nat.beq (QGF.xtp i 1) (QGF.xtp j 1)) || Nat.beq i j) (by decide +kernel) i hi) j hj
 simp only [Bool.or_eq_true, Bool.not_eq_true'] at this
 rcases this with e | e
 ·have h2 : QGF.xtp i 1 = QGF.xtp j 1 := by unfold pow2 at h; exact_mod_cast h
  rw [h2, Nat.beq_refl] at e; cases e
 ·exact Nat.eq_of_beq_eq_true e
theorem pow2_ne {i : Nat} (hi : i < 16) : pow2 i ≠ 0 := by
 intro h
 have := QGF.allN_spec (n := 16) (p := fun i => !(Nat.beq (QGF.xtp i 1) 0)) (by decide +kernel) i hi
 have h2 : QGF.xtp i 1 = 0 := by unfold pow2 at h; exact_mod_cast h
 rw [h2] at this; cases this
/-! a group's elements -/
theorem grp_lt {d : Int} {l : List (List Int)} {m : Int} (h : CodeOk d l m) {g a b : Nat} (hg : g < l.length) (hab : a < b) (hb : b < (rd_L1 l (g : Nat)).length) : rd (rd_L1 l (g : Nat)) (a : Int) < rd (rd_L1 l (g : Nat)) (b : Int) := by
 induction b with
 | zero => omega
 | succ b ih =>
  have hs : rd (rd_L1 l (g : Nat)) (b : Int) < rd (rd_L1 l (g : Nat)) ((b + 1 : Nat) : Int) := by
   have := (h.grp g hg).2 (b + 1) hb
   unfold badEl at this
   simp only [Bool.or_eq_false_iff, Bool.and_eq_false_iff, decide_eq_false_iff_not, Nat.add_sub_cancel] at this
   omega
  by_cases e : a = b
  ·rw [e]; exact hs
  ·have := ih (by omega) (by omega); omega
theorem grp_inj {d : Int} {l : List (List Int)} {m : Int} (h : CodeOk d l m) {g a b : Nat} (hg : g < l.length) (ha : a < (rd_L1 l (g : Nat)).length) (hb : b < (rd_L1 l (g : Nat)).length) (e : rd (rd_L1 l (g : Nat)) (a : Int) = rd (rd_L1 l (g : Nat)) (b : Int)) : a = b := by
 rcases Nat.lt_trichotomy a b with c | c | c
 ·have := grp_lt h hg c hb; omega
 ·exact c
 ·have := grp_lt h hg c ha; omega
theorem grp_apart {d : Int} {l : List (List Int)} {m : Int} (h : CodeOk d l m) {g f : Nat} (hg : g < l.length) (hf : f < g) {x : Int} (hx : x ∈ rd_L1 l (g : Nat)) : x ∉ rd_L1 l (f : Nat) := by
 obtain ⟨t, ht, rfl⟩ := List.mem_iff_getElem.1 hx
 have := (h.grp g hg).2 t ht
 unfold badEl at this
 simp only [Bool.or_eq_false_iff, rdi ht] at this
 have h2 := anyFrom_false this.2 f (Nat.zero_le _) (by omega)
 exact of_decide_eq_false h2
/-- The sum over the first places of a group. -/
def psum (f : Nat → Int) (gr : List Int) : Nat → Int
 | 0 => 0
 | j + 1 => ixor (psum f gr j) (f (rd gr (j : Int)).toNat)
theorem psum_xsum {f : Nat → Int} {gr : List Int} {D : Nat} (hf : ∀ i, isB (f i) = true) (hel : ∀ x ∈ gr, 0 ≤ x ∧ x < D) (hinj : ∀ a b : Nat, a < gr.length → b < gr.length → rd gr (a : Int) = rd gr (b : Int) → a = b) :
  ∀ j, j ≤ gr.length → psum f gr j = xsum (fun i => if ∃ a : Nat, a < j ∧ rd gr (a : Int) = (i : Int) then f i else 0) D
 | 0, _ => (xsum_zero D (fun i _ => if_neg (by rintro ⟨a, ha, _⟩; omega))).symm
 | j + 1, hj => by
  have hm := hel _ (rdm (l := gr) (i := j) (by omega))
  show ixor (psum f gr j) (f (rd gr (j : Int)).toNat) = _
  rw [psum_xsum hf hel hinj j (by omega)]
  have e : f (rd gr (j : Int)).toNat = xsum (fun i => if rd gr (j : Int) = (i : Int) then f i else 0) D := by
   rw [xsum_single (q := (rd gr (j : Int)).toNat) D (by omega) (fun i _ => by split; exact hf i; rfl) (fun i _ hi => if_neg (by omega)), if_pos (by omega)]
  rw [e, ← xsum_xor]
  refine xsum_congr D fun i hi => ?_
  by_cases c1 : ∃ a : Nat, a < j ∧ rd gr (a : Int) = (i : Int)
  ·obtain ⟨a, ha, hai⟩ := c1
   have c2 : ¬ rd gr (j : Int) = (i : Int) := fun h => by have := hinj a j (by omega) (by omega) (hai.trans h.symm); omega
   rw [if_pos ⟨a, ha, hai⟩, if_neg c2, if_pos ⟨a, by omega, hai⟩, ixor_zero_right (hf i)]
  ·rw [if_neg c1]
   by_cases c2 : rd gr (j : Int) = (i : Int)
   ·rw [if_pos c2, if_pos ⟨j, by omega, c2⟩, ixor_zero (hf i)]
   ·rw [if_neg c2, if_neg, ixor_zero (by rfl)]
    rintro ⟨a, ha, hai⟩
    by_cases e : a = j
    ·subst e; exact c2 hai
    ·exact c1 ⟨a, by omega, hai⟩
theorem mem_rd {gr : List Int} {x : Int} : x ∈ gr ↔ ∃ a : Nat, a < gr.length ∧ rd gr (a : Int) = x := by
 constructor
 ·intro h
  obtain ⟨t, ht, rfl⟩ := List.mem_iff_getElem.1 h
  exact ⟨t, ht, rdi ht⟩
 ·rintro ⟨a, ha, rfl⟩
  exact rdm ha
/-- What a group's row makes of a vector. -/
theorem group_dot {D M : Nat} {l : List (List Int)} (h : CodeOk (D : Int) l (M : Int)) {g : Nat} (hg : g < l.length) {v : Vec} (hv : IsV v) : dotU (rowAt D l (D + g)) v D = psum v (rd_L1 l (g : Nat)) (rd_L1 l (g : Nat)).length := by
 have hel := h.elems g hg
 rw [dotU_xsum, psum_xsum hv (fun x hx => hel x hx) (fun a b ha hb e => grp_inj h hg ha hb e) _ (Nat.le_refl _)]
 have hD := h.d2
 refine xsum_congr D fun i hi => ?_
 have e : rd (rowAt D l (D + g)) (i : Int) = if (i : Int) ∈ rd_L1 l (g : Nat) then 1 else 0 := by
  rw [rdi (by rw [rowAt_length]; exact hi)]
  unfold rowAt
  rw [List.getElem_map, List.getElem_range]
  unfold elAt
  rw [if_neg (by omega), if_pos (by omega), show D + g - D = g by omega]
  exact setAt_has (fun x hx => by have := hel x hx; omega) i
 rw [e]
 by_cases c : (i : Int) ∈ rd_L1 l (g : Nat)
 ·rw [if_pos c, if_pos (mem_rd.1 c), imul_one_left (hv i)]
 ·rw [if_neg c, if_neg (fun hh => c (mem_rd.2 hh)), imul_zero_left (hv i)]
theorem unit_dot {D : Nat} {l : List (List Int)} {q : Nat} (hq : q < D) {v : Vec} (hv : IsV v) : dotU (rowAt D l q) v D = v q := by
 have e : ∀ i, i < D → rd (rowAt D l q) (i : Int) = if i = q then 1 else 0 := by
  intro i hi
  rw [rdi (by rw [rowAt_length]; exact hi)]
  unfold rowAt
  rw [List.getElem_map, List.getElem_range]
  unfold elAt
  rw [if_pos hq]; rfl
 rw [dotU_xsum, xsum_single (q := q) D hq (fun i hi => isB_mul _ (by rw [e i hi]; split <;> rfl)) (fun i hi hne => by rw [e i hi, if_neg hne, imul_zero_left (hv i)]), e q hq, if_pos rfl, imul_one_left (hv q)]
theorem glob_dot {D : Nat} {l : List (List Int)} {j : Nat} (v : Vec) : dotU (rowAt D l (D + l.length + j)) v D = xsum (fun i => imul (pow2 (i * (j + 1))) (v i)) D := by
 rw [dotU_xsum]
 refine xsum_congr D fun i hi => ?_
 congr 1
 rw [rdi (by rw [rowAt_length]; exact hi)]
 unfold rowAt
 rw [List.getElem_map, List.getElem_range]
 unfold elAt
 rw [if_neg (by omega), if_neg (by omega), show D + l.length + j - D - l.length = j by omega]; rfl
/-! which are lost alone -/
theorem many_zero {x : Nat} {gr : List Int} : ∀ n, manyUpto x gr n = 0 → ∀ b : Nat, b < n → (x >>> (rd gr (b : Int)).toNat) % 2 = 0
 | 0, _, b, hb => absurd hb (Nat.not_lt_zero _)
 | n + 1, h, b, hb => by
  simp only [manyUpto] at h
  by_cases e : b = n
  ·subst e; omega
  ·exact many_zero n (by omega) b (by omega)
theorem many_one {x : Nat} {gr : List Int} : ∀ n, manyUpto x gr n = 1 → ∃ a : Nat, a < n ∧ (x >>> (rd gr (a : Int)).toNat) % 2 = 1 ∧ ∀ b : Nat, b < n → b ≠ a → (x >>> (rd gr (b : Int)).toNat) % 2 = 0
 | 0, h => by cases h
 | n + 1, h => by
  simp only [manyUpto] at h
  by_cases e : (x >>> (rd gr (n : Int)).toNat) % 2 = 1
  ·exact ⟨n, by omega, e, fun b hb hn => many_zero n (by omega) b (by omega)⟩
  ·obtain ⟨a, ha, h1, h2⟩ := many_one (x := x) (gr := gr) n (by omega)
   exact ⟨a, by omega, h1, fun b hb hn => by
    by_cases c : b = n
    ·subst c; omega
    ·exact h2 b (by omega) hn⟩
/-- The elements that are lost alone in their groups. -/
theorem alone_list {d : Int} {l : List (List Int)} {m : Int} (h : CodeOk d l m) (x : Nat) : ∀ n, n ≤ l.length → ∃ A : List Nat, A.length = aloneUpto x l n ∧ A.Nodup ∧
  ∀ i ∈ A, ∃ g, g < n ∧ ∃ a : Nat, a < (rd_L1 l (g : Nat)).length ∧ rd (rd_L1 l (g : Nat)) (a : Int) = (i : Int) ∧ (x >>> i) % 2 = 1 ∧ ∀ b : Nat, b < (rd_L1 l (g : Nat)).length → b ≠ a → (x >>> (rd (rd_L1 l (g : Nat)) (b : Int)).toNat) % 2 = 0
 | 0, _ => ⟨[], rfl, List.nodup_nil, by simp⟩
 | n + 1, hn => by
  obtain ⟨A, h1, h2, h3⟩ := alone_list h x n (by omega)
  by_cases c : manyOf x (rd_L1 l (n : Nat)) = 1
  ·obtain ⟨a, ha, ha1, ha2⟩ := many_one _ c
   have hm := rdm (l := rd_L1 l (n : Nat)) ha
   have h0 := (h.elems n (by omega) _ hm).1
   refine ⟨A ++ [(rd (rd_L1 l (n : Nat)) (a : Int)).toNat], by simp only [aloneUpto, if_pos c, List.length_append, List.length_singleton, h1], ?_, ?_⟩
   ·rw [List.nodup_append]
    refine ⟨h2, by simp, fun y hy z hz e => ?_⟩
    have hz : z = (rd (rd_L1 l (n : Nat)) (a : Int)).toNat := by simpa using hz
    obtain ⟨g, hg, b, hb, hbe, _⟩ := h3 y hy
    refine grp_apart h (show n < l.length by omega) hg hm ?_
    rw [mem_rd]
    exact ⟨b, hb, by rw [hbe]; omega⟩
   ·intro i hi
    rcases List.mem_append.1 hi with hi | hi
    ·obtain ⟨g, hg, hh⟩ := h3 i hi
     exact ⟨g, by omega, hh⟩
    ·have hi : i = (rd (rd_L1 l (n : Nat)) (a : Int)).toNat := by simpa using hi
     subst hi
     exact ⟨n, by omega, a, ha, by omega, ha1, ha2⟩
  ·refine ⟨A, by simp only [aloneUpto, if_neg c, h1, Nat.add_zero], h2, fun i hi => ?_⟩
   obtain ⟨g, hg, hh⟩ := h3 i hi
   exact ⟨g, by omega, hh⟩
theorem bits_filter (x : Nat) : ∀ n, bitsUpto x n = ((List.range n).filter fun i => x.testBit i).length
 | 0 => rfl
 | n + 1 => by
  rw [List.range_succ, List.filter_append, List.length_append, ← bits_filter x n]
  show bitsUpto x n + (x >>> n) % 2 = _
  rw [bit_of_test]
  cases hb : x.testBit n <;> simp [hb]
theorem mem_selRows {rows : List (List Int)} {x : Nat} : ∀ n t, t < n → (x >>> t) % 2 = 1 → rd_L4 rows (t : Int) ∈ selRows rows x n
 | 0, t, h, _ => absurd h (Nat.not_lt_zero _)
 | n + 1, t, h, hb => by
  simp only [selRows]
  by_cases e : t = n
  ·subst e; rw [if_pos hb]; simp
  ·have := mem_selRows (rows := rows) (x := x) n t (by omega) hb
   split
   ·exact List.mem_append_left _ this
   ·exact this
theorem psum_only {gr : List Int} {v : Vec} (hv : IsV v) {a : Nat} (ha : a < gr.length) : ∀ n, (∀ b : Nat, b < n → b ≠ a → v (rd gr (b : Int)).toNat = 0) → psum v gr n = if a < n then v (rd gr (a : Int)).toNat else 0
 | 0, _ => by simp [psum]
 | n + 1, h => by
  show ixor (psum v gr n) (v (rd gr (n : Int)).toNat) = _
  rw [psum_only hv ha n (fun b hb hn => h b (by omega) hn)]
  by_cases e : a = n
  ·subst e; rw [if_neg (Nat.lt_irrefl _), if_pos (by omega), ixor_zero (hv _)]
  ·rw [h n (by omega) (fun h => e h.symm)]
   by_cases c : a < n
   ·rw [if_pos c, if_pos (by omega), ixor_zero_right (hv _)]
   ·rw [if_neg c, if_neg (by omega)]; rfl
/-- So few lost data pieces are recovered. -/
theorem repair_can {D M : Nat} {l : List (List Int)} (hc : chk (D : Int) l (M : Int) = 0) {x : Nat} (hx : x < 2 ^ D) (h : bitsUpto x D ≤ M + aloneUpto x l l.length) : canN D l M (2 ^ (D + l.length + M) - 1 - x) = true := by
 have hok := chk_ok hc
 obtain ⟨b1, b2, b3, b4⟩ := hok.bounds
 have hxn : x < 2 ^ (D + l.length + M) := Nat.lt_of_lt_of_le hx (Nat.pow_le_pow_right (by decide) (by omega))
 have hbit : ∀ t, t < D + l.length + M → x.testBit t = false → ((2 ^ (D + l.length + M) - 1 - x) >>> t) % 2 = 1 := by
  intro t ht hb
  rw [bit_test, show 2 ^ (D + l.length + M) - 1 - x = 2 ^ (D + l.length + M) - (x + 1) by omega, Nat.testBit_two_pow_sub_succ hxn, hb]
  simpa using ht
 have hhi : ∀ t, D ≤ t → x.testBit t = false := fun t ht => Nat.testBit_lt_two_pow (Nat.lt_of_lt_of_le hx (Nat.pow_le_pow_right (by decide) ht))
 unfold canN
 rw [canB_iff hc, Int.toNat_natCast]
 refine ⟨by omega, by have := Nat.two_pow_pos (D + l.length + M); omega, fun v hv hk => ?_⟩
 have hrow : ∀ t, t < D + l.length + M → x.testBit t = false → dotU (rowAt D l t) v D = 0 := by
  intro t ht hb
  have := hk _ (mem_selRows (rows := rowsOf D l M) (D + l.length + M) t ht (hbit t ht hb))
  rwa [rowsOf_rd ht] at this
 have hunit : ∀ q, q < D → x.testBit q = false → v q = 0 := by
  intro q hq hb
  have := hrow q (by omega) hb
  rwa [unit_dot hq hv] at this
 obtain ⟨A, hA1, hA2, hA3⟩ := alone_list hok x l.length (Nat.le_refl _)
 have hAz : ∀ i ∈ A, i < D ∧ x.testBit i = true ∧ v i = 0 := by
  intro i hi
  obtain ⟨g, hg, a, ha, hae, hab, hoth⟩ := hA3 i hi
  have hm := rdm (l := rd_L1 l (g : Nat)) ha
  have hel := hok.elems g hg
  have h0 := hel _ hm
  refine ⟨by omega, (bit_test x i).1 hab, ?_⟩
  have := hrow (D + g) (by omega) (hhi _ (by omega))
  rw [group_dot hok hg hv, psum_only hv ha _ (fun b hb hn => hunit _ (by have := hel _ (rdm (l := rd_L1 l (g : Nat)) hb); omega) (by
   have := hoth b hb hn
   cases hz : x.testBit (rd (rd_L1 l (g : Nat)) (b : Int)).toNat
   ·rfl
   ·have := (bit_test _ _).2 hz; omega)), if_pos ha, hae, Int.toNat_natCast] at this
  exact this
 have hT : ((List.range D).filter fun i => x.testBit i && !(A.contains i)).length ≤ M := by
  have hn : (A ++ (List.range D).filter fun i => x.testBit i && !(A.contains i)).Nodup := by
   rw [List.nodup_append]
   refine ⟨hA2, List.Pairwise.filter _ List.nodup_range, fun a ha b hb e => ?_⟩
   subst e
   have := (List.mem_filter.1 hb).2
   simp only [Bool.and_eq_true, Bool.not_eq_true'] at this
   have h2 := this.2
   rw [List.contains_iff_mem.2 ha] at h2; cases h2
  have hle := nodup_sub _ ((List.range D).filter fun i => x.testBit i) hn (fun i hi => by
   rcases List.mem_append.1 hi with hi | hi
   ·obtain ⟨p1, p2, _⟩ := hAz i hi
    exact List.mem_filter.2 ⟨List.mem_range.2 p1, p2⟩
   ·have := List.mem_filter.1 hi
    simp only [Bool.and_eq_true] at this
    exact List.mem_filter.2 ⟨this.1, this.2.1⟩)
  rw [← bits_filter, List.length_append, hA1] at hle
  omega
 have hsup : ∀ i, i < D → i ∉ ((List.range D).filter fun i => x.testBit i && !(A.contains i)) → v i = 0 := by
  intro i hi hn
  cases hb : x.testBit i
  ·exact hunit i hi hb
  ·by_cases hm : i ∈ A
   ·exact (hAz i hm).2.2
   ·exfalso
    apply hn
    refine List.mem_filter.2 ⟨List.mem_range.2 hi, ?_⟩
    rw [hb]
    have : A.contains i = false := by
     cases hz : A.contains i
     ·rfl
     ·exact absurd (List.contains_iff_mem.1 hz) hm
    rw [this]; rfl
 generalize hTd : ((List.range D).filter fun i => x.testBit i && !(A.contains i)) = T at hT hsup
 have hmain := vander (n := D) (x := fun i => pow2 i) (p := fun i j => pow2 (i * j)) (fun i => pow2_isB i) (fun i j hi hj e => pow2_inj (by omega) (by omega) e) (fun i j => pow2_isB _) (fun i => by simp [pow2, QGF.xtp])
  (fun i j => by show pow2 (i * (j + 1)) = _; rw [pow2_add, Nat.mul_succ, Nat.add_comm]) T (fun i => imul (v i) (pow2 i))
  (fun t ht => by rw [← hTd] at ht; exact List.mem_range.1 (List.mem_filter.1 ht).1) (fun i => isB_mul _ (hv i))
  (fun i hi hn => by show imul (v i) (pow2 i) = 0; rw [hsup i hi hn, imul_zero_left (pow2_isB i)])
  (fun j hj => by
   have := hrow (D + l.length + j) (by omega) (hhi _ (by omega))
   rw [glob_dot] at this
   rw [← this]
   refine xsum_congr D fun i _ => ?_
   show imul (imul (v i) (pow2 i)) (pow2 (i * j)) = _
   rw [imul_assoc (hv i) (pow2_isB _) (pow2_isB _), pow2_add, imul_comm (hv i) (pow2_isB _), Nat.mul_succ, Nat.add_comm])
 intro i hi
 rcases imul_eq_zero (hv i) (pow2_isB i) (hmain i hi) with e | e
 ·exact e
 ·exact absurd e (pow2_ne (by omega))
/-! each member is the sum of its parity and the others -/
theorem ba_ext {a b : ByteArray} (hs : a.size = b.size) (h : ∀ i, i < a.size → bt a (i : Int) = bt b (i : Int)) : a = b := by
 rw [← strOf_bytesOf a, ← strOf_bytesOf b, bytes_range a, bytes_range b, ← hs]
 congr 1
 exact List.map_congr_left fun j hj => h j (List.mem_range.1 hj)
theorem psum_congr {f g : Nat → Int} {gr : List Int} : ∀ n, (∀ j : Nat, j < n → f (rd gr (j : Int)).toNat = g (rd gr (j : Int)).toNat) → psum f gr n = psum g gr n
 | 0, _ => rfl
 | n + 1, h => by
  show ixor (psum f gr n) (f (rd gr (n : Int)).toNat) = ixor (psum g gr n) (g (rd gr (n : Int)).toNat)
  rw [psum_congr n (fun j hj => h j (by omega)), h n (by omega)]
theorem psum_xor (f g : Nat → Int) (gr : List Int) : ∀ n, psum (fun i => ixor (f i) (g i)) gr n = ixor (psum f gr n) (psum g gr n)
 | 0 => (ixor_self 0).symm
 | n + 1 => by
  show ixor (psum (fun i => ixor (f i) (g i)) gr n) (ixor (f (rd gr (n : Int)).toNat) (g (rd gr (n : Int)).toNat)) = ixor (ixor (psum f gr n) (f (rd gr (n : Int)).toNat)) (ixor (psum g gr n) (g (rd gr (n : Int)).toNat))
  rw [psum_xor f g gr n, ixor_four]
theorem psum_isB {f : Nat → Int} {gr : List Int} (hf : ∀ i, isB (f i) = true) : ∀ n, isB (psum f gr n) = true
 | 0 => rfl
 | n + 1 => isB_xor (psum_isB hf n) (hf _)
theorem sumOth_bt {L : List ByteArray} {p : ByteArray} {gr : List Int} {q : Int} {n : Nat} (hp : p.size = n) (hel : ∀ x ∈ gr, 0 ≤ x) (hL : ∀ j : Nat, j < gr.length → (rdOf ByteArray.empty L (rd gr (j : Int))).size = n) :
  ∀ j, j ≤ gr.length → (sumOth L p gr q j).size = n ∧ ∀ b, b < n → bt (sumOth L p gr q j) (b : Int) = ixor (bt p (b : Int)) (psum (fun i => if (i : Int) = q then 0 else bt (rdOf ByteArray.empty L (i : Int)) (b : Int)) gr j)
 | 0, _ => ⟨hp, fun b _ => (ixor_zero_right (isB_bt p _)).symm⟩
 | j + 1, hj => by
  obtain ⟨h1, h2⟩ := sumOth_bt (q := q) hp hel hL j (by omega)
  have h0 := hel _ (rdm (l := gr) (i := j) (by omega))
  have ht : (((rd gr (j : Int)).toNat : Nat) : Int) = rd gr (j : Int) := by omega
  show (if rd gr (j : Int) = q then sumOth L p gr q j else sumP (sumOth L p gr q j) (rdOf ByteArray.empty L (rd gr (j : Int)))).size = n ∧ ∀ b, b < n → bt (if rd gr (j : Int) = q then sumOth L p gr q j else sumP (sumOth L p gr q j) (rdOf ByteArray.empty L (rd gr (j : Int)))) (b : Int) = ixor (bt p (b : Int)) (ixor (psum (fun i => if (i : Int) = q then 0 else bt (rdOf ByteArray.empty L (i : Int)) (b : Int)) gr j) (if (((rd gr (j : Int)).toNat : Nat) : Int) = q then 0 else bt (rdOf ByteArray.empty L (((rd gr (j : Int)).toNat : Nat) : Int)) (b : Int)))
  rw [ht]
  have hps : ∀ b : Nat, isB (psum (fun i => if (i : Int) = q then 0 else bt (rdOf ByteArray.empty L (i : Int)) (b : Int)) gr j) = true := fun b => psum_isB (fun i => by split; rfl; exact isB_bt _ _) j
  by_cases e : rd gr (j : Int) = q
  ·simp only [if_pos e]
   refine ⟨h1, fun b hb => ?_⟩
   rw [h2 b hb, ixor_zero_right (hps b)]
  ·simp only [if_neg e]
   obtain ⟨s1, s2⟩ := sum_bt h1 (hL j (by omega))
   refine ⟨s1, fun b hb => ?_⟩
   rw [s2 b hb, h2 b hb, ixor_assoc]
/-- Each member of a group is its parity and the others. -/
theorem repair_sum {D M : Nat} {l : List (List Int)} (hc : chk (D : Int) l (M : Int) = 0) (s : ByteArray) {g a : Nat} (hg : g < l.length) (ha : a < (rd_L1 l (g : Nat)).length) :
  sumOth (piecesFor D l M s) (rdOf ByteArray.empty (piecesFor D l M s) ((D + g : Nat) : Int)) (rd_L1 l (g : Nat)) (rd (rd_L1 l (g : Nat)) (a : Int)) (rd_L1 l (g : Nat)).length = rdOf ByteArray.empty (piecesFor D l M s) (rd (rd_L1 l (g : Nat)) (a : Int)) := by
 have hok := chk_ok hc
 obtain ⟨b1, b2, b3, b4⟩ := hok.bounds
 have hel := hok.elems g hg
 have hd : ∀ x ∈ rd_L1 l (g : Nat), ∃ t : Nat, x = (t : Int) ∧ t < D := fun x hx => ⟨x.toNat, by have := hel x hx; omega, by have := hel x hx; omega⟩
 have hsz : ∀ j : Nat, j < (rd_L1 l (g : Nat)).length → (rdOf ByteArray.empty (piecesFor D l M s) (rd (rd_L1 l (g : Nat)) (j : Int))).size = partN D s := by
  intro j hj
  obtain ⟨t, ht, htD⟩ := hd _ (rdm (l := rd_L1 l (g : Nat)) hj)
  rw [ht]; exact (piece_fits s (by omega)).1
 obtain ⟨z1, z2⟩ := sumOth_bt (L := piecesFor D l M s) (q := rd (rd_L1 l (g : Nat)) (a : Int)) (piece_fits (D := D) (M := M) (l := l) s (t := D + g) (by omega)).1 (fun x hx => (hel x hx).1) hsz _ (Nat.le_refl _)
 obtain ⟨t, ht, htD⟩ := hd _ (rdm (l := rd_L1 l (g : Nat)) ha)
 refine ba_ext (z1.trans (hsz a ha).symm) fun b hb => ?_
 rw [z1] at hb
 have hb : b < partN D s := hb
 rw [z2 b hb]
 have hpar := (piece_fits (D := D) (M := M) (l := l) s (t := D + g) (by omega)).2 b hb
 have hpar : bt (rdOf ByteArray.empty (piecesFor D l M s) ((D + g : Nat) : Int)) (b : Int) = dotU (rowAt D l (D + g)) (dataV D s b) D := hpar
 have hv := dataV_isV D s b
 rw [hpar, group_dot hok hg hv]
 have hdat : ∀ i : Nat, i < D → bt (rdOf ByteArray.empty (piecesFor D l M s) (i : Int)) (b : Int) = dataV D s b i := by
  intro i hi
  have : bt (rdOf ByteArray.empty (piecesFor D l M s) (i : Int)) (b : Int) = dotU (rowAt D l i) (dataV D s b) D := (piece_fits (D := D) (M := M) (l := l) s (t := i) (by omega)).2 b hb
  rw [this, unit_dot hi hv]
 rw [ht, hdat t htD]
 rw [psum_congr (f := fun i => if (i : Int) = (t : Int) then 0 else bt (rdOf ByteArray.empty (piecesFor D l M s) (i : Int)) (b : Int)) (g := fun i => if (i : Int) = (t : Int) then 0 else dataV D s b i) _ (fun j hj => by
  obtain ⟨u, hu, huD⟩ := hd _ (rdm (l := rd_L1 l (g : Nat)) hj)
  rw [hu, Int.toNat_natCast]
  try dsimp only
  rw [hdat u huD]), ← psum_xor]
 rw [psum_congr (g := fun i => if (i : Int) = (t : Int) then dataV D s b i else 0) _ (fun j _ => by
  try dsimp only
  split
  ·exact ixor_zero_right (hv _)
  ·exact ixor_self _)]
 rw [psum_only (a := a) (v := fun i => if (i : Int) = (t : Int) then dataV D s b i else 0) (fun i => by dsimp only; split; exact hv i; rfl) ha _ (fun j hj hja => by
  obtain ⟨u, hu, huD⟩ := hd _ (rdm (l := rd_L1 l (g : Nat)) hj)
  rw [hu, Int.toNat_natCast]
  try dsimp only
  rw [if_neg]
  intro e
  exact hja (grp_inj hok hg hj ha (by rw [hu, ht, e]))), if_pos ha, ht, Int.toNat_natCast]
 try dsimp only
 rw [if_pos rfl]
end Go.Proofs.YtkadfidmfnpohaaDoor.XB

namespace Go.Proofs.YtkadfidmfnpohaaDoor.XB
open Go.RowKit Go.Proofs.YtkadfidmfnpohaaDoorW.PrintWords Go.Proofs.YtkadfidmfnpohaaDoorW.PrintLast Go.Proofs.YtkadfidmfnpohaaDoorW.PrintMore
set_option linter.unusedVariables false
set_option linter.unusedSimpArgs false
theorem rdOf_nat (L : List ByteArray) (i : Int) : rdOf ByteArray.empty L i = rdOf ByteArray.empty L ((i.toNat : Nat) : Int) := by unfold rdOf; rw [Int.toNat_natCast]
theorem rdOf_le {L : List ByteArray} {B : Nat} (h : ∀ p ∈ L, p.size ≤ B) (i : Int) : (rdOf ByteArray.empty L i).size ≤ B := by
 rw [rdOf_nat]
 by_cases e : i.toNat < L.length
 ·rw [rdOf_at e]; exact h _ (List.getElem_mem e)
 ·have : rdOf ByteArray.empty L ((i.toNat : Nat) : Int) = ByteArray.empty := by unfold rdOf; rw [Int.toNat_natCast, List.getD_eq_getElem?_getD, List.getElem?_eq_none (by omega)]; rfl
  rw [this]; exact Nat.zero_le _
theorem mask_num (n x : Nat) (hn : n ≤ 24) (hx : x < 2 ^ n) : wrap64 (wrap64 (wrap64 ((2 : Int) ^ n) - 1) - (x : Int)) = ((2 ^ n - 1 - x : Nat) : Int) := by
 have q1 : 2 ^ n ≤ 2 ^ 24 := Nat.pow_le_pow_right (by decide) hn
 rw [show (2 : Int) ^ n = ((2 ^ n : Nat) : Int) by simp]
 generalize 2 ^ n = z at q1 hx ⊢
 have q2 : z ≤ 16777216 := q1
 clear q1
 unfold wrap64; omega
set_option maxHeartbeats 1000000 in
set_option maxRecDepth 100000 in
theorem reps_walk (d : Int) (A : Option Addr) (c : Nat) (l : List (List Int)) (m : Int) (s : ByteArray) (lost : Int) (w : World) (hG : HG w) (hC : Kd.C (Kd.slice 3 (Kd.int .i64)) w A l.length l) (hc : l.length ≤ c)
  (hlen : ∀ g ∈ l, g.length ≤ maxLen) (hlo0 : 0 ≤ lost) (hlo1 : lost < 65536) :
  Calls Tryd.prog 7 #[.agg #[.int .i64 d, .slice A l.length c, .int .i64 m], .string s, .int .u16 lost] w fun e w' => e = .returned (.bool true) ∧ Below w.heap.size w w' := by
 by_cases g1 : 20 < l.length
 ·exact law07_reps.aside 0 d A c l m s lost 0 w hG hC hc (.inl g1)
 by_cases g3 : 200 < s.size
 ·exact law07_reps.aside 0 d A c l m s lost 0 w hG hC hc (.inr (.inl g3))
 have hs : Small l := any_small (by omega) hlen
 obtain ⟨K1, h1⟩ := cchk_ev d l m hs
 by_cases he : chk d l m = 0
 ·rw [he] at h1
  have hok := chk_ok he
  obtain ⟨D, M, rfl, rfl⟩ := hok.nats
  obtain ⟨b1, b2, b3, b4⟩ := hok.bounds
  have hpp : piecesOf (D : Int) l (M : Int) = ((D + l.length + M : Nat) : Int) := by unfold piecesOf; rw [if_pos he]; omega
  have h4 : s.size ≤ 4096 := by omega
  obtain ⟨K2, h2⟩ := cenc_ev (D : Int) l (M : Int) s hs (by omega)
  have hef : encFor (D : Int) l (M : Int) s = (piecesFor D l M s, 0) := by unfold encFor; rw [if_pos he, if_pos h4]; rfl
  rw [hef] at h2
  have hLl := piecesFor_length D l M s
  obtain ⟨K3, h3⟩ := cpieces_ev (D : Int) l (M : Int) hs
  rw [hpp, ← hLl] at h3
  obtain ⟨x, hx⟩ : ∃ x, x = lost.toNat % 2 ^ D := ⟨_, rfl⟩
  have hxlt : x < 2 ^ D := by rw [hx]; exact Nat.mod_lt _ (Nat.two_pow_pos _)
  obtain ⟨K4, h4c⟩ := rcount_ev D x hxlt (by omega)
  have hbp : ∀ p ∈ piecesFor D l M s, p.size ≤ 100000 := by
   intro p hp
   obtain ⟨t, ht, rfl⟩ := List.mem_iff_getElem.1 hp
   have h5 := piece_size (D := D) (M := M) (l := l) s (t := t) (by rw [hLl] at ht; exact ht)
   rw [rdOf_at ht] at h5
   have : zOf D s.size ≤ 4096 := (size_le (D := D) b1 h4).1
   omega
  obtain ⟨K5, h5⟩ := crec_ev (D : Int) l (M : Int) (wrap64 (wrap64 (wrap64 ((2 : Int) ^ (piecesFor D l M s).length) - 1) - (x : Int))) hs
  obtain ⟨k, hk⟩ : ∃ k, k = K1 + K2 + K3 + K4 + K5 := ⟨_, rfl⟩
  refine law07_reps.main k D A c l (M : Int) s lost x (piecesFor D l M s) w hG hC hc (by omega) (by omega) b1 b2 (by omega) (by omega) (by omega) (by omega) (h1 k (by omega)) (h2 k (by omega)) (h3 k (by omega)) hlo0 hlo1 hx
   (fun g hg y hy => hok.elems g hg y hy) (rdOf_le hbp) (fun g hg a ha => repair_sum he s hg ha) (bitsUpto x D) (by have := bitsUpto_le x D; omega) (h4c k (by omega)) _ (h5 k (by omega)) (fun hle => ?_)
  have hcan := repair_can he hxlt (by clear hx hxlt h5 h4c; omega)
  have hmask := mask_num (piecesFor D l M s).length x (by rw [hLl]; exact b4) (by rw [hLl]; exact Nat.lt_of_lt_of_le hxlt (Nat.pow_le_pow_right (by decide) (by omega)))
  rw [hLl] at hmask
  rw [hLl]
  rw [hmask]
  exact hcan
 ·exact law07_reps.aside K1 d A c l m s lost _ w hG hC hc (.inr (.inr ⟨h1 K1 (Nat.le_refl _), he⟩))
end Go.Proofs.YtkadfidmfnpohaaDoor.XB
