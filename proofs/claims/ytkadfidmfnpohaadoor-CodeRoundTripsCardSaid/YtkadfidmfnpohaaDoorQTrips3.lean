/- Lemmas for the claim Trips: functions of the program as plain Lean functions, each with its contract, and what is proved of them. -/
import Derived.Test.YtkadfidmfnpohaaDoorQTrips1
import Derived.Test.YtkadfidmfnpohaaDoorQTrips2
namespace Go.Proofs.YtkadfidmfnpohaaDoor.XB
open Go.RowKit Go.Proofs.YtkadfidmfnpohaaDoorW.PrintWords Go.Proofs.YtkadfidmfnpohaaDoorW.PrintLast Go.Proofs.YtkadfidmfnpohaaDoorW.PrintMore
set_option linter.unusedVariables false
set_option linter.unusedSimpArgs false

/-! ### quietuslaw07_sanity: function 15 -/
/-! a code in its variable -/
def CodeAt (g : Nat) (A : Option Addr) (c : Nat) (d : Int) (l : List (List Int)) (m : Int) (W : World) : Prop :=
 W.heap[g]? = some (.cells #[.int .i64 d, .slice A l.length c, .int .i64 m] 24 (0, 0)) ∧ l.length ≤ c ∧ Kd.C (Kd.slice 3 (Kd.int .i64)) W A l.length l ∧ HG W
theorem CodeAt.below {g : Nat} {A : Option Addr} {c : Nat} {d : Int} {l : List (List Int)} {m : Int} {W W' : World} (h : CodeAt g A c d l m W) (hb : Below W.heap.size W W') : CodeAt g A c d l m W' :=
 ⟨blk_below h.1 hb, h.2.1, Kd.C_below h.2.2.1 hb, h.2.2.2.below hb⟩
section
variable {g : Nat} {A : Option Addr} {c : Nat} {d : Int} {l : List (List Int)} {m : Int} {W : World}
theorem CodeAt.hg (h : CodeAt g A c d l m W) : HG W := h.2.2.2
theorem CodeAt.c0 (h : CodeAt g A c d l m W) : W.cell? ⟨g, 0, none⟩ = some (.int .i64 d) := blk_cell h.1 0
theorem CodeAt.c1 (h : CodeAt g A c d l m W) : W.cell? ⟨g, 1, none⟩ = some (.slice A l.length c) := blk_cell h.1 1
theorem CodeAt.c2 (h : CodeAt g A c d l m W) : W.cell? ⟨g, 2, none⟩ = some (.int .i64 m) := blk_cell h.1 2
theorem CodeAt.rows {k : Nat} {r1 : List (List Int)} {r2 : Int} (h : CodeAt g A c d l m W) (hr : code_Rows.f k d l m = some (r1, r2)) :
  Calls Tryd.prog 17 #[.agg #[.int .i64 d, .slice A l.length c, .int .i64 m]] W fun e w' => ∃ v0_ : Value, e = .returned (.tuple #[v0_, .int .i64 r2]) ∧ Kd.S (Kd.slice 5 (Kd.int .u8)) 57 w' W.heap.size (fun _ => True) v0_ r1 ∧ Below W.heap.size W w' :=
 code_Rows.calls k d A c l m r1 r2 W h.2.2.2 h.2.2.1 h.2.1 hr
theorem CodeAt.encode {k : Nat} {s : ByteArray} {r1 : List ByteArray} {r2 : Int} (h : CodeAt g A c d l m W) (hr : code_Encode.f k d l m s = some (r1, r2)) :
  Calls Tryd.prog 18 #[.agg #[.int .i64 d, .slice A l.length c, .int .i64 m], .string s] W fun e w' => ∃ v0_ : Value, e = .returned (.tuple #[v0_, .int .i64 r2]) ∧ Kd.R Kd.string 9 w' W.heap.size (fun _ => True) v0_ r1 ∧ Below W.heap.size W w' :=
 code_Encode.calls k d A c l m s r1 r2 W h.2.2.2 h.2.2.1 h.2.1 hr
theorem CodeAt.check {k : Nat} {r : Int} (h : CodeAt g A c d l m W) (hr : code_Check.f k d l m = some r) :
  Calls Tryd.prog 20 #[.agg #[.int .i64 d, .slice A l.length c, .int .i64 m]] W fun e w' => e = .returned (.int .i64 r) ∧ Below W.heap.size W w' :=
 code_Check.calls k d A c l m r W h.2.2.2 h.2.2.1 h.2.1 hr
theorem CodeAt.pieces {k : Nat} {r : Int} (h : CodeAt g A c d l m W) (hr : code_Pieces.f k d l m = some r) :
  Calls Tryd.prog 21 #[.agg #[.int .i64 d, .slice A l.length c, .int .i64 m]] W fun e w' => e = .returned (.int .i64 r) ∧ Below W.heap.size W w' :=
 code_Pieces.calls k d A c l m r W h.2.2.2 h.2.2.1 h.2.1 hr
theorem CodeAt.size {k : Nat} {n r : Int} (h : CodeAt g A c d l m W) (hr : code_Size.f k d l m n = some r) :
  Calls Tryd.prog 23 #[.agg #[.int .i64 d, .slice A l.length c, .int .i64 m], .int .i64 n] W fun e w' => e = .returned (.int .i64 r) ∧ Below W.heap.size W w' :=
 code_Size.calls k d A c l m n r W h.2.2.2 h.2.2.1 h.2.1 hr
theorem CodeAt.recoverable {k : Nat} {n : Int} {r : Bool} (h : CodeAt g A c d l m W) (hr : code_Recoverable.f k d l m n = some r) :
  Calls Tryd.prog 30 #[.agg #[.int .i64 d, .slice A l.length c, .int .i64 m], .int .i64 n] W fun e w' => e = .returned (.bool r) ∧ Below W.heap.size W w' :=
 code_Recoverable.calls k d A c l m n r W h.2.2.2 h.2.2.1 h.2.1 hr
theorem CodeAt.distance {k : Nat} {r1 r2 : Int} (h : CodeAt g A c d l m W) (hr : code_Distance.f k d l m = some (r1, r2)) :
  Calls Tryd.prog 32 #[.agg #[.int .i64 d, .slice A l.length c, .int .i64 m]] W fun e w' => e = .returned (.tuple #[.int .i64 r1, .int .i64 r2]) ∧ Below W.heap.size W w' :=
 code_Distance.calls k d A c l m r1 r2 W h.2.2.2 h.2.2.1 h.2.1 hr
theorem CodeAt.decode {k : Nat} {n mask : Int} {Ap : Option Addr} {cp np : Nat} {p : List ByteArray} {r1 : ByteArray} {r2 : Int} (h : CodeAt g A c d l m W) (hn : p.length = np) (hp : Kd.C Kd.string W Ap np p) (hcp : np ≤ cp) (hr : code_Decode.f k d l m n mask p = some (r1, r2)) :
  Calls Tryd.prog 28 #[.agg #[.int .i64 d, .slice A l.length c, .int .i64 m], .int .i64 n, .int .i64 mask, .slice Ap np cp] W fun e w' => e = .returned (.tuple #[.string r1, .int .i64 r2]) ∧ Below W.heap.size W w' := by
 subst hn
 exact code_Decode.calls k d A c l m n mask Ap cp p r1 r2 W h.2.2.2 h.2.2.1 h.2.1 hp hcp hr
end
/-! the document's example -/
def exL : List (List Int) := [[0, 1], [2, 3]]
def exRows : List (List Int) := [[1, 0, 0, 0], [0, 1, 0, 0], [0, 0, 1, 0], [0, 0, 0, 1], [1, 1, 0, 0], [0, 0, 1, 1], [1, 2, 4, 8]]
def exParts : List ByteArray := [⟨#[1, 2]⟩, ⟨#[3, 4]⟩, ⟨#[5, 6]⟩, ⟨#[7, 0]⟩, ⟨#[2, 6]⟩, ⟨#[2, 6]⟩, ⟨#[43, 18]⟩]
def exBad : List ByteArray := [⟨#[1, 2]⟩, ⟨#[3, 4]⟩, ⟨#[5, 6]⟩, ⟨#[7, 0]⟩, ⟨#[2, 6]⟩, ⟨#[2, 7]⟩, ⟨#[43, 18]⟩]
theorem ex_check : code_Check.f 40 4 exL 1 = some 0 := by decide +kernel
theorem ex_rows : code_Rows.f 40 4 exL 1 = some (exRows, 0) := by decide +kernel
theorem ex_encode : code_Encode.f 40 4 exL 1 (⟨#[1, 2, 3, 4, 5, 6, 7]⟩ : ByteArray) = some (exParts, 0) := by decide +kernel
theorem ex_pieces : code_Pieces.f 40 4 exL 1 = some 7 := by decide +kernel
theorem ex_size : code_Size.f 40 4 exL 1 7 = some 2 := by decide +kernel
theorem ex_can1 : code_Recoverable.f 40 4 exL 1 124 = some true := by decide +kernel
theorem ex_can2 : code_Recoverable.f 40 4 exL 1 120 = some true := by decide +kernel
theorem ex_can3 : code_Recoverable.f 40 4 exL 1 60 = some false := by decide +kernel
theorem ex_dist : code_Distance.f 40 4 exL 1 = some (3, 0) := by decide +kernel
theorem ex_dec1 : code_Decode.f 40 4 exL 1 7 30 exParts = some (⟨#[1, 2, 3, 4, 5, 6, 7]⟩, 0) := by decide +kernel
theorem ex_dec2 : code_Decode.f 40 4 exL 1 7 60 exParts = some (⟨#[]⟩, 17) := by decide +kernel
theorem ex_dec3 : code_Decode.f 40 4 exL 1 7 127 exBad = some (⟨#[]⟩, 14) := by decide +kernel
theorem ex_row {w : World} {gr : Nat} (h : Kd.C (Kd.slice 5 (Kd.int .u8)) w (some ⟨gr, 0, none⟩) 7 exRows) (i : Nat) (hi : i < 7) (x : List Int) (s : ByteArray) (hx : rd_L4 exRows (i : Int) = x) (n : Nat) (hn : x.length = n) (hs : strOfNums x = s) :
  ∃ A0 c0, w.cell? ⟨gr, i, none⟩ = some (.slice A0 n c0) ∧ (convert 57 9 (.slice A0 n c0)).run Tryd.prog w = .ok (.string s) w := by
 obtain ⟨ad', A0, c0, e, h1, _, h2⟩ := at_L4 h (i : Int) (by omega) (by omega)
 obtain rfl : ⟨gr, 0, none⟩ = ad' := by injection e
 rw [hx, hn, Int.toNat_natCast] at h1
 rw [show (⟨gr, 0, none⟩ : Addr).add i = ⟨gr, i, none⟩ from add_plain _ _] at h1
 rw [hx, hn] at h2
 rw [← hs]
 exact ⟨A0, c0, h1, Kd.C_string Tryd.underlying57 Tryd.underlying5 Tryd.underlying9 h2⟩
theorem ex_part {w : World} {gp : Nat} {p : List ByteArray} (h : Kd.C Kd.string w (some ⟨gp, 0, none⟩) 7 p) (i : Nat) (hi : i < 7) (s : ByteArray) (hs : rdOf ByteArray.empty p (i : Int) = s) : w.cell? ⟨gp, i, none⟩ = some (.string s) := by
 obtain ⟨ad', e, h1⟩ := at_string_nat h i hi
 obtain rfl : ⟨gp, 0, none⟩ = ad' := by injection e
 rw [show (⟨gp, 0, none⟩ : Addr).add i = ⟨gp, i, none⟩ from add_plain _ _] at h1
 rw [h1, hs]
set_option maxHeartbeats 4000000 in
set_option maxRecDepth 100000 in
theorem quietuslaw07_sanity.yes (w : World) (hG : HG w) :
  Calls Tryd.prog 15 #[] w fun e w' => e = .returned (.bool true) ∧ Below w.heap.size w w' := by
 have HGw := Aside0.mk hG
 have hu24 := Tryd.underlying24
 have hex : quietuslaw07_example.f = some (4, exL, 1) := rfl
 have HEX := Aside0.mk hex
 have HRows := Aside0.mk ex_rows
 have HEnc := Aside0.mk ex_encode
 have HChk := Aside0.mk ex_check
 have HPie := Aside0.mk ex_pieces
 have HSiz := Aside0.mk ex_size
 have HR1 := Aside0.mk ex_can1
 have HR2 := Aside0.mk ex_can2
 have HR3 := Aside0.mk ex_can3
 have HDi := Aside0.mk ex_dist
 have HD1 := Aside0.mk ex_dec1
 have HD2 := Aside0.mk ex_dec2
 have HD3 := Aside0.mk ex_dec3
 generalize exL = L at HEX HRows HEnc HChk HPie HSiz HR1 HR2 HR3 HDi HD1 HD2 HD3
 clear hG hex
 go_enter Tryd.func15, Tryd.ntmps15
 go_upto_region 4 with (first
  | (go_at_call 56; (with_reducible refine (quietuslaw07_example.calls 4 L 1 _ HGw.out HEX.out).mono ?_); rintro e w5 ⟨v0, rfl, hN, hb5⟩; obtain ⟨A, c, rfl, hc, hC⟩ := Kd.N_reads hN; have HK0 := Aside0.mk (show CodeAt w5.heap.size A c 4 L 1 (w5.alloc (.cells #[.int .i64 4, .slice A L.length c, .int .i64 1] 24)) from ⟨blk_new _ _, hc, Kd.C_alloc hC _, (HGw.out.below hb5).alloc _⟩); have HB0 := Aside0.mk (below_alloc hb5 (.cells #[.int .i64 4, .slice A L.length c, .int .i64 1] 24)); clear hN hC hc hb5)
  | (go_at_call 17; (with_reducible refine (HK0.out.rows HRows.out).mono ?_); rintro e w6 ⟨v1, rfl, hS, hb⟩; obtain ⟨gr, cr, rfl, _, _, _⟩ := Kd.S_form hS (by decide); have hCr := (Kd.S_reads' hS).2.2; have HK1 := Aside0.mk (HK0.out.below hb); have HB1 := Aside0.mk (below_step HB0.out hb); have HCR1 := Aside0.mk (show Kd.C (Kd.slice 5 (Kd.int .u8)) w6 (some ⟨gr, 0, none⟩) 7 exRows from hCr); rw [show exRows.length = 7 from rfl]; clear hS hb hCr; generalize w5.heap.size = gc at *; have hz0 := HK1.out.c0; have hz1 := HK1.out.c1; have hz2 := HK1.out.c2)
  | (go_at_call 18; (with_reducible refine (HK1.out.encode HEnc.out).mono ?_); rintro e w7 ⟨v2, rfl, hR, hb⟩; have HK2 := Aside0.mk (HK1.out.below hb); have HB2 := Aside0.mk (below_step HB1.out hb); have HCR2 := Aside0.mk (Kd.C_below HCR1.out hb); obtain ⟨gp, cp, rfl, hgp, _, _⟩ := Kd.R_form hR (by decide); have HP2 := Aside0.mk (show Kd.R Kd.string 9 w7 w6.heap.size (fun _ => True) (.slice (some ⟨gp, 0, none⟩) 7 cp) exParts from hR); rw [show exParts.length = 7 from rfl]; have HGP := Aside0.mk hgp; have HBE := Aside0.mk hb; clear hR hb hgp hz0 hz1 hz2; have hz0 := HK2.out.c0; have hz1 := HK2.out.c1; have hz2 := HK2.out.c2))
 go_upto_region 6 with (first | (go_at_call 20; (with_reducible refine (HK2.out.check HChk.out).mono ?_); rintro e w8 ⟨rfl, hb⟩; have HKn := Aside0.mk (HK2.out.below hb); have HBn := Aside0.mk (below_step HB2.out hb); have HEn := Aside0.mk (below_step HBE.out hb); have HCn := Aside0.mk (Kd.C_below HCR2.out hb); have HPn := Aside0.mk (Kd.R_below HP2.out hb); clear HK2 HB2 HBE HCR2 HP2 hz0 hz1 hz2 hb; have HK2 := HKn; have HB2 := HBn; have HBE := HEn; have HCR2 := HCn; have HP2 := HPn; clear HKn HBn HEn HCn HPn; have hz0 := HK2.out.c0; have hz1 := HK2.out.c1; have hz2 := HK2.out.c2) | (go_at_call 21; (with_reducible refine (HK2.out.pieces HPie.out).mono ?_); rintro e w8 ⟨rfl, hb⟩; have HKn := Aside0.mk (HK2.out.below hb); have HBn := Aside0.mk (below_step HB2.out hb); have HEn := Aside0.mk (below_step HBE.out hb); have HCn := Aside0.mk (Kd.C_below HCR2.out hb); have HPn := Aside0.mk (Kd.R_below HP2.out hb); clear HK2 HB2 HBE HCR2 HP2 hz0 hz1 hz2 hb; have HK2 := HKn; have HB2 := HBn; have HBE := HEn; have HCR2 := HCn; have HP2 := HPn; clear HKn HBn HEn HCn HPn; have hz0 := HK2.out.c0; have hz1 := HK2.out.c1; have hz2 := HK2.out.c2) | (go_at_call 23; (with_reducible refine (HK2.out.size HSiz.out).mono ?_); rintro e w8 ⟨rfl, hb⟩; have HKn := Aside0.mk (HK2.out.below hb); have HBn := Aside0.mk (below_step HB2.out hb); have HEn := Aside0.mk (below_step HBE.out hb); have HCn := Aside0.mk (Kd.C_below HCR2.out hb); have HPn := Aside0.mk (Kd.R_below HP2.out hb); clear HK2 HB2 HBE HCR2 HP2 hz0 hz1 hz2 hb; have HK2 := HKn; have HB2 := HBn; have HBE := HEn; have HCR2 := HCn; have HP2 := HPn; clear HKn HBn HEn HCn HPn; have hz0 := HK2.out.c0; have hz1 := HK2.out.c1; have hz2 := HK2.out.c2))
 obtain ⟨hcp_, hCp⟩ := (Kd.R_reads' HP2.out).2
 have HCP := Aside0.mk (show Kd.C Kd.string _ (some ⟨gp, 0, none⟩) 7 exParts from hCp)
 obtain ⟨B4, b4, hr4, hs4⟩ := ex_row HCR2.out 4 (by omega) _ ⟨#[1, 1, 0, 0]⟩ rfl 4 rfl rfl
 obtain ⟨B5, b5, hr5, hs5⟩ := ex_row HCR2.out 5 (by omega) _ ⟨#[0, 0, 1, 1]⟩ rfl 4 rfl rfl
 obtain ⟨B6, b6, hr6, hs6⟩ := ex_row HCR2.out 6 (by omega) _ ⟨#[1, 2, 4, 8]⟩ rfl 4 rfl rfl
 have hp3 := ex_part HCP.out 3 (by omega) ⟨#[7, 0]⟩ rfl
 have hp4 := ex_part HCP.out 4 (by omega) ⟨#[2, 6]⟩ rfl
 have hp5 := ex_part HCP.out 5 (by omega) ⟨#[2, 6]⟩ rfl
 have hp6 := ex_part HCP.out 6 (by omega) ⟨#[43, 18]⟩ rfl
 clear hCp
 go_upto_region 7 with (fail)
 clear hr4 hr5 hr6 hs4 hs5 hs6 hp3 hp4 hp5 hp6 HCR2
 have HN7 := Aside0.mk (show exParts.length = 7 from rfl)
 have HM7 := Aside0.mk (show exBad.length = 7 from rfl)
 go_upto_region 11 with (first | (go_at_call 30; (with_reducible refine (HK2.out.recoverable HR1.out).mono ?_); rintro e w8 ⟨rfl, hb⟩; have HKn := Aside0.mk (HK2.out.below hb); have HBn := Aside0.mk (below_step HB2.out hb); have HEn := Aside0.mk (below_step HBE.out hb); have HPn := Aside0.mk (Kd.R_below HP2.out hb); have HCn := Aside0.mk (Kd.C_below HCP.out hb); clear HK2 HB2 HBE HP2 HCP hz0 hz1 hz2 hb; have HK2 := HKn; have HB2 := HBn; have HBE := HEn; have HP2 := HPn; have HCP := HCn; clear HKn HBn HEn HPn HCn; have hz0 := HK2.out.c0; have hz1 := HK2.out.c1; have hz2 := HK2.out.c2) | (go_at_call 30; (with_reducible refine (HK2.out.recoverable HR2.out).mono ?_); rintro e w8 ⟨rfl, hb⟩; have HKn := Aside0.mk (HK2.out.below hb); have HBn := Aside0.mk (below_step HB2.out hb); have HEn := Aside0.mk (below_step HBE.out hb); have HPn := Aside0.mk (Kd.R_below HP2.out hb); have HCn := Aside0.mk (Kd.C_below HCP.out hb); clear HK2 HB2 HBE HP2 HCP hz0 hz1 hz2 hb; have HK2 := HKn; have HB2 := HBn; have HBE := HEn; have HP2 := HPn; have HCP := HCn; clear HKn HBn HEn HPn HCn; have hz0 := HK2.out.c0; have hz1 := HK2.out.c1; have hz2 := HK2.out.c2) | (go_at_call 30; (with_reducible refine (HK2.out.recoverable HR3.out).mono ?_); rintro e w8 ⟨rfl, hb⟩; have HKn := Aside0.mk (HK2.out.below hb); have HBn := Aside0.mk (below_step HB2.out hb); have HEn := Aside0.mk (below_step HBE.out hb); have HPn := Aside0.mk (Kd.R_below HP2.out hb); have HCn := Aside0.mk (Kd.C_below HCP.out hb); clear HK2 HB2 HBE HP2 HCP hz0 hz1 hz2 hb; have HK2 := HKn; have HB2 := HBn; have HBE := HEn; have HP2 := HPn; have HCP := HCn; clear HKn HBn HEn HPn HCn; have hz0 := HK2.out.c0; have hz1 := HK2.out.c1; have hz2 := HK2.out.c2) | (go_at_call 32; (with_reducible refine (HK2.out.distance HDi.out).mono ?_); rintro e w8 ⟨rfl, hb⟩; have HKn := Aside0.mk (HK2.out.below hb); have HBn := Aside0.mk (below_step HB2.out hb); have HEn := Aside0.mk (below_step HBE.out hb); have HPn := Aside0.mk (Kd.R_below HP2.out hb); have HCn := Aside0.mk (Kd.C_below HCP.out hb); clear HK2 HB2 HBE HP2 HCP hz0 hz1 hz2 hb; have HK2 := HKn; have HB2 := HBn; have HBE := HEn; have HP2 := HPn; have HCP := HCn; clear HKn HBn HEn HPn HCn; have hz0 := HK2.out.c0; have hz1 := HK2.out.c1; have hz2 := HK2.out.c2) | (go_at_call 28; (with_reducible refine (HK2.out.decode HN7.out HCP.out hcp_ HD1.out).mono ?_); rintro e w8 ⟨rfl, hb⟩; have HKn := Aside0.mk (HK2.out.below hb); have HBn := Aside0.mk (below_step HB2.out hb); have HEn := Aside0.mk (below_step HBE.out hb); have HPn := Aside0.mk (Kd.R_below HP2.out hb); have HCn := Aside0.mk (Kd.C_below HCP.out hb); clear HK2 HB2 HBE HP2 HCP hz0 hz1 hz2 hb; have HK2 := HKn; have HB2 := HBn; have HBE := HEn; have HP2 := HPn; have HCP := HCn; clear HKn HBn HEn HPn HCn; have hz0 := HK2.out.c0; have hz1 := HK2.out.c1; have hz2 := HK2.out.c2) | (go_at_call 28; (with_reducible refine (HK2.out.decode HN7.out HCP.out hcp_ HD2.out).mono ?_); rintro e w8 ⟨rfl, hb⟩; have HKn := Aside0.mk (HK2.out.below hb); have HBn := Aside0.mk (below_step HB2.out hb); have HEn := Aside0.mk (below_step HBE.out hb); have HPn := Aside0.mk (Kd.R_below HP2.out hb); have HCn := Aside0.mk (Kd.C_below HCP.out hb); clear HK2 HB2 HBE HP2 HCP hz0 hz1 hz2 hb; have HK2 := HKn; have HB2 := HBn; have HBE := HEn; have HP2 := HPn; have HCP := HCn; clear HKn HBn HEn HPn HCn; have hz0 := HK2.out.c0; have hz1 := HK2.out.c1; have hz2 := HK2.out.c2))
 obtain ⟨hom, hfz⟩ := Kd.R_celln (ByteArray.empty) HP2.out (5 : Int) (by omega) (by decide)
 rw [show (5 : Int).toNat = 5 from rfl] at hom hfz
 have HPUT := Aside0.mk (Kd.R_putn HP2.out (5 : Int) ⟨#[2, 7]⟩)
 have hEw := below_set (j := 5) (v := .string ⟨#[2, 7]⟩) HBE.out HGP.out
 have HKw := Aside0.mk (HK1.out.below hEw)
 have HCw := Aside0.mk (show Kd.C Kd.string (World.setCell _ ⟨gp, 5, none⟩ (.string ⟨#[2, 7]⟩)) (some ⟨gp, 0, none⟩) 7 exBad from (Kd.R_reads' HPUT.out).2.2)
 have HBw := Aside0.mk (below_step HB1.out hEw)
 go_upto_region 12 with (fail)
 clear hz0 hz1 hz2 hom hfz hEw
 have hz0 := HKw.out.c0
 have hz1 := HKw.out.c1
 have hz2 := HKw.out.c2
 go_wp2_with (go_at_call 28; (with_reducible refine (HKw.out.decode HM7.out HCw.out hcp_ HD3.out).mono ?_); rintro e w8 ⟨rfl, hb⟩; have HBz := Aside0.mk (below_step HBw.out hb); clear hb)
 go_ret
 exact ⟨rfl, HBz.out⟩


/-! ### quietuslaw07_CodeEncodesAsSpecified: function 3 -/
section
variable {g : Nat} {A : Option Addr} {c : Nat} {d : Int} {l : List (List Int)} {m : Int} {W : World}
end
theorem CodeAt.keep {g : Nat} {A : Option Addr} {c : Nat} {d : Int} {l : List (List Int)} {m : Int} {w W W' : World} (h : CodeAt g A c d l m W) (hb : Below W.heap.size W W') : Aside0 (CodeAt g A c d l m W') := ⟨h.below hb⟩

/-! ### quietuslaw07_CodeRoundTrips: function 6 -/
-- over CodeAt.few CodeAt.check
/-- Fresh bytes: a block whose cell behind the last is marked. -/
def BytesAt (g : Nat) (xs : List Int) (W : World) : Prop := ∃ cs : Array Value, W.heap[g]? = some (.cells cs 5 (cs.size, cs.size + 1)) ∧ xs.length ≤ cs.size ∧ ∀ j : Nat, j < xs.length → cs[j]? = some (.int .u8 (rd xs (j : Int)))
theorem BytesAt.new (W : World) (s : ByteArray) : BytesAt W.heap.size (bytesOf s) (Lib.bytesWorld W 5 s) := by
 refine ⟨_, Lib.bytesWorld_at_new W 5 s, ?_, fun j hj => ?_⟩
 ·rw [bytesOf_length]; unfold Lib.bytesCells; rw [Array.size_append, Array.size_map]; exact Nat.le_add_right _ _
 ·rw [bytesOf_length] at hj
  have h := Lib.bytesWorld_cell W 5 s j hj
  have h1 : (Lib.bytesWorld W 5 s).cell? ⟨W.heap.size, j, none⟩ = (Lib.bytesCells W 5 s)[j]? := cell_of_row _ _ _ _ _ _ (Lib.bytesWorld_at_new W 5 s)
  rw [h1] at h
  rw [h]
  have h' : j < s.data.toList.length := by rw [Array.length_toList]; exact hj
  simp [bytesOf, rd, List.getD_eq_getElem?_getD, List.getElem?_eq_getElem h']
theorem BytesAt.cell {g : Nat} {xs : List Int} {W : World} (h : BytesAt g xs W) (j : Nat) (hj : j < xs.length) : W.cell? ⟨g, j, none⟩ = some (.int .u8 (rd xs (j : Int))) ∧ W.frozen? ⟨g, j, none⟩ = false := by
 obtain ⟨cs, h1, h2, h3⟩ := h
 refine ⟨(cell_of_row _ _ _ _ _ _ h1).trans (h3 j hj), ?_⟩
 simp [World.frozen?, h1]; omega
theorem BytesAt.below {g : Nat} {xs : List Int} {W W' : World} (h : BytesAt g xs W) (hb : Below W.heap.size W W') : BytesAt g xs W' := by
 obtain ⟨cs, h1, h2⟩ := h
 exact ⟨cs, blk_below h1 hb, h2⟩
theorem BytesAt.reads {g : Nat} {xs : List Int} {W : World} (h : BytesAt g xs W) (hm : xs.length ≤ 9223372036854775807) : ReadsInt W .u8 (some ⟨g, 0, none⟩) xs.length xs := by
 refine ⟨rfl, hm, fun _ => ⟨_, rfl, fun j hj => ?_⟩⟩
 rw [add_plain, (h.cell j hj).1]; rfl
theorem BytesAt.set {g : Nat} {xs : List Int} {W : World} (h : BytesAt g xs W) (i : Nat) (hi : i < xs.length) (v : Int) : BytesAt g (xs.set i v) (W.setCell ⟨g, i, none⟩ (.int .u8 v)) := by
 obtain ⟨cs, h1, h2, h3⟩ := h
 refine ⟨cs.setIfInBounds i (.int .u8 v), ?_, by simpa using h2, fun j hj => ?_⟩
 ·simp [World.setCell, Array.getElem?_modify, h1]
 ·rw [List.length_set] at hj
  by_cases e : i = j
  ·subst e
   simp [Array.getElem?_setIfInBounds, rd, List.getD_eq_getElem?_getD, hi, show i < cs.size by omega]
  ·rw [Array.getElem?_setIfInBounds_ne e, h3 j hj]
   simp [rd, List.getD_eq_getElem?_getD, List.getElem?_set_ne e]
set_option maxHeartbeats 4000000 in
set_option maxRecDepth 100000 in
theorem law07_trips.main (k : Nat) (d : Int) (A : Option Addr) (c : Nat) (l : List (List Int)) (m : Int) (s : ByteArray) (a0 a1 a2 a3 : Int) (N x : Nat) (L : List ByteArray) (w : World) (hG : HG w) (hC : Kd.C (Kd.slice 3 (Kd.int .i64)) w A l.length l) (hc : l.length ≤ c)
  (hl20 : l.length ≤ 20) (hs0 : s.size ≠ 0) (hs1 : s.size ≤ 200) (hN0 : 1 ≤ N) (hN : N ≤ 24) (hL : L.length = N)
  (h1 : code_Check.f k d l m = some 0) (h2 : code_Encode.f k d l m s = some (L, 0)) (h3 : code_Pieces.f k d l m = some (N : Int)) (hx : x = a0.toNat % 2 ^ N) (ha0 : 0 ≤ a0) (ha1 : a0 < 4294967296) (ha2 : 0 ≤ a1) (ha3 : a1 < 4294967296) (ha6 : 0 ≤ a2) (ha7 : a2 < 4294967296) (ha4 : 0 ≤ a3) (ha5 : a3 < 4294967296) (can : Bool) (kk : Nat) (hkk : kk = a1.toNat % N)
  (h4 : code_Recoverable.f k d l m (x : Int) = some can) (h5 : code_Decode.f k d l m (s.size : Int) (x : Int) L = some (if can = true then (s, 0) else (⟨#[]⟩, 17))) (bb cc : Bool) (hbb : (((x >>> kk % 2 : Nat) : Int) == 0) = bb) (hcc : (a3 % 256 == 0) = cc)
  (p : ByteArray) (hp : p = rdOf ByteArray.empty L (kk : Int)) (p2 : ByteArray) (hp2e : p2 = strOfNums ((bytesOf p).set (a2 % (p.size : Int)).toNat (Go.bits .xor .u8 (rd (bytesOf p) (((a2 % (p.size : Int)).toNat : Nat) : Int)) (a3 % 256))))
  (r : ByteArray) (e : Int) (h6 : code_Decode.f k d l m (s.size : Int) (x : Int) (L.set kk p2) = some (r, e)) (can2 : Bool) (h7 : code_Recoverable.f k d l m (IntKind.i64.wrap ((x : Int) - IntKind.i64.wrap ((2 : Int) ^ kk))) = some can2) (h8 : can = true → bb = false → cc = false → can2 = true → e = 14) (h9 : can = true → bb = false → cc = false → e = 14 ∨ (e = 0 ∧ r ≠ s)) (hpz : p.size ≠ 0) (hpz2 : p.size ≤ 100000) :
  Calls Tryd.prog 6 #[.agg #[.int .i64 d, .slice A l.length c, .int .i64 m], .string s, .agg #[.int .u32 a0, .int .u32 a1, .int .u32 a2, .int .u32 a3]] w fun e w' => e = .returned (.bool true) ∧ Below w.heap.size w w' := by
 have HK := Aside0.mk (show CodeAt w.heap.size A c d l m ((w.alloc (.cells #[.int .i64 d, .slice A l.length c, .int .i64 m] 24)).alloc (.cells #[.int .u32 a0, .int .u32 a1, .int .u32 a2, .int .u32 a3] 56)) from CodeAt.below ⟨blk_new _ _, hc, Kd.C_alloc hC _, hG.alloc _⟩ (below_alloc (Below.refl _ _) _))
 have HL := Aside0.mk (blk_new1 w (.cells #[.int .i64 d, .slice A l.length c, .int .i64 m] 24) (.cells #[.int .u32 a0, .int .u32 a1, .int .u32 a2, .int .u32 a3] 56))
 have hu24 := Tryd.underlying24
 have hu56 := Tryd.underlying56
 have hu32 := Tryd.underlying32
 have HB := Aside0.mk (below_alloc (below_alloc (Below.refl w.heap.size w) (.cells #[.int .i64 d, .slice A l.length c, .int .i64 m] 24)) (.cells #[.int .u32 a0, .int .u32 a1, .int .u32 a2, .int .u32 a3] 56))
 have hz0 := HK.out.c0
 have hz1 := HK.out.c1
 have hz2 := HK.out.c2
 have hy0 := True.intro
 have hy1 := True.intro
 have hy2 := True.intro
 have hy3 := True.intro
 have H1 := Aside0.mk h1
 have H2 := Aside0.mk h2
 have H3 := Aside0.mk h3
 have H4 := Aside0.mk h4
 have H5 := Aside0.mk h5
 have Hbb := Aside0.mk hbb
 have Hcc := Aside0.mk hcc
 have Hp := Aside0.mk hp
 have Hp2e := Aside0.mk hp2e
 have H6 := Aside0.mk h6
 have H7 := Aside0.mk h7
 have H8 := Aside0.mk h8
 have H9 := Aside0.mk h9
 have HC := Aside0.mk hC
 have HG := Aside0.mk hG
 have b1 : decide ((20 : Int) < (l.length : Int)) = false := decide_eq_false (by omega)
 have b2 : ((s.size : Int) == 0) = false := beq_eq_false_iff_ne.2 (by omega)
 have b3 : decide ((200 : Int) < (s.size : Int)) = false := decide_eq_false (by omega)
 have b4 : ((L.length : Int) != (N : Int)) = false := by rw [hL]; simp
 have b5 : decide ((N : Int) < 1) = false := decide_eq_false (by omega)
 have hz : w.heap.size + 1 < ((w.alloc (.cells #[.int .i64 d, .slice A l.length c, .int .i64 m] 24)).alloc (.cells #[.int .u32 a0, .int .u32 a1, .int .u32 a2, .int .u32 a3] 56)).heap.size := blk_lt HL.out
 have HPO := Aside0.mk (show (a2 % (p.size : Int)).toNat < p.size by have := Int.emod_lt_of_pos a2 (show (0 : Int) < (p.size : Int) by omega); omega)
 have hPO0 : 0 ≤ a2 % (p.size : Int) := Int.emod_nonneg _ (by omega)
 have hPO1 : a2 % (p.size : Int) < (p.size : Int) := Int.emod_lt_of_pos _ (by omega)
 have hPO2 : (p.size : Int) ≠ 0 := by omega
 have hxx := hx
 have hp2 : (2 : Nat) ^ N ≤ 2 ^ 24 := Nat.pow_le_pow_right (by decide) hN
 have hp1 : 0 < 2 ^ N := Nat.two_pow_pos N
 have hw0 : wrap64 ((2 : Int) ^ N) = ((2 ^ N : Nat) : Int) := by
  rw [show (2 : Int) ^ N = ((2 ^ N : Nat) : Int) by simp]
  generalize 2 ^ N = z at hp1 hp2
  unfold wrap64; omega
 have hw1 : wrap64 ((2 : Int) ^ N) ≠ 0 := by rw [hw0]; clear hw0 hx; generalize 2 ^ N = z at hp1 hp2 ⊢; omega
 have hw2 : 0 ≤ wrap64 ((2 : Int) ^ N) := by rw [hw0]; exact Int.natCast_nonneg _
 have hX : a0 % wrap64 ((2 : Int) ^ N) = (x : Int) := by
  obtain ⟨u, rfl⟩ := Int.eq_ofNat_of_zero_le ha0
  rw [hw0, hx, Int.toNat_natCast, Int.natCast_emod]
 have Hc := Aside0.mk hc
 clear hG hC hc h1 h2 h3 h4 h5 hbb hcc hp hp2e h6 h7 h8 h9 hx hw0
 have hN1 : (N : Int) ≠ 0 := by omega
 have hKK : a1 % (N : Int) = (kk : Int) := by
  obtain ⟨u, rfl⟩ := Int.eq_ofNat_of_zero_le ha2
  rw [hkk, Int.toNat_natCast, Int.natCast_emod]
 have hkl : kk < N := by rw [hkk]; exact Nat.mod_lt _ (by omega)
 have hx24 : x < 2 ^ 24 := by rw [hxx]; exact Nat.lt_of_lt_of_le (Nat.mod_lt _ hp1) hp2
 have HX := Aside0.mk hX
 have HKK := Aside0.mk hKK
 have HBT := Aside0.mk (bit_eq x kk hx24)
 clear hX hKK hkk hxx hp1 hp2 hx24
 go_enter Tryd.func6, Tryd.ntmps6
 go_upto_region 7 with (first
  | (go_at_call 20; (with_reducible refine (HK.out.check H1.out).mono ?_); rintro e w1 ⟨rfl, hb⟩; have HKn := Aside0.mk (HK.out.below hb); have HBn := Aside0.mk (below_step HB.out hb); have HLn := Aside0.mk (blk_below HL.out hb); clear HK HB HL hz0 hz1 hz2 hy0 hy1 hy2 hy3 hb; have HK := HKn; have HB := HBn; have HL := HLn; clear HKn HBn HLn; have hz0 := HK.out.c0; have hz1 := HK.out.c1; have hz2 := HK.out.c2; have hy0 := blk_cell HL.out 0; have hy1 := blk_cell HL.out 1; have hy2 := blk_cell HL.out 2; have hy3 := blk_cell HL.out 3)
  | (go_at_call 18; (with_reducible refine (HK.out.encode H2.out).mono ?_); rintro e w1 ⟨v2, rfl, hS, hb⟩; obtain ⟨ad, cl, rfl⟩ := Kd.R_slice1 hS (by omega); obtain ⟨gl, rfl⟩ := Kd.R_head hS; have hgl := Nat.lt_of_lt_of_le (blk_lt HL.out) ((Kd.R_bound hS).1 gl rfl).2.1; have HR := Aside0.mk (Kd.R_lower hS (Nat.succ_le_of_lt (blk_lt HL.out))); clear hS; have HKn := Aside0.mk (HK.out.below hb); have HBn := Aside0.mk (below_step HB.out hb); have HLn := Aside0.mk (blk_below HL.out hb); clear HK HB HL hz0 hz1 hz2 hy0 hy1 hy2 hy3 hb; have HK := HKn; have HB := HBn; have HL := HLn; clear HKn HBn HLn; have hz0 := HK.out.c0; have hz1 := HK.out.c1; have hz2 := HK.out.c2; have hy0 := blk_cell HL.out 0; have hy1 := blk_cell HL.out 1; have hy2 := blk_cell HL.out 2; have hy3 := blk_cell HL.out 3)
  | (go_at_call 21; (with_reducible refine (HK.out.pieces H3.out).mono ?_); rintro e w1 ⟨rfl, hb⟩; have HKn := Aside0.mk (HK.out.below hb); have HBn := Aside0.mk (below_step HB.out hb); have HLn := Aside0.mk (blk_below HL.out hb); have HRn := Aside0.mk (Kd.R_below HR.out hb); clear HK HB HL HR hz0 hz1 hz2 hy0 hy1 hy2 hy3 hb; have HK := HKn; have HB := HBn; have HL := HLn; have HR := HRn; clear HKn HBn HLn HRn; have hz0 := HK.out.c0; have hz1 := HK.out.c1; have hz2 := HK.out.c2; have hy0 := blk_cell HL.out 0; have hy1 := blk_cell HL.out 1; have hy2 := blk_cell HL.out 2; have hy3 := blk_cell HL.out 3))
 go_region
 go_upto_region 8 with fail
 rw [HX.out]
 have hb := below_drew (Below.refl w1.heap.size w1)
 have HKn := Aside0.mk (HK.out.below hb)
 have HBn := Aside0.mk (below_step HB.out hb)
 have HLn := Aside0.mk (blk_below HL.out hb)
 have HRn := Aside0.mk (Kd.R_below HR.out hb)
 clear HK HB HL HR hz0 hz1 hz2 hy0 hy1 hy2 hy3 hb
 have HK := HKn
 have HB := HBn
 have HL := HLn
 have HR := HRn
 clear HKn HBn HLn HRn
 have hz0 := HK.out.c0
 have hz1 := HK.out.c1
 have hz2 := HK.out.c2
 have hy0 := blk_cell HL.out 0
 have hy1 := blk_cell HL.out 1
 have hy2 := blk_cell HL.out 2
 have hy3 := blk_cell HL.out 3
 generalize w1.drew = wd at HK HB HL HR hz0 hz1 hz2 hy0 hy1 hy2 hy3 ⊢
 have hcl : N ≤ cl := by have := (Kd.R_reads' HR.out).2.1; omega
 have HCN := Aside0.mk (show Kd.C Kd.string wd (some ⟨gl, 0, none⟩) N L by have := (Kd.R_reads' HR.out).2.2; rwa [hL] at this)
 have HDEC := Aside0.mk H5.out
 have HREC := Aside0.mk H4.out
 cases can with
 | false =>
  simp only [Bool.false_eq_true, if_false] at HDEC
  go_wp2_with (first
   | (go_at_call 28; (with_reducible refine (HK.out.decode hL HCN.out hcl HDEC.out).mono ?_); rintro e w1 ⟨rfl, hb⟩; have HKn := Aside0.mk (HK.out.below hb); have HBn := Aside0.mk (below_step HB.out hb); have HLn := Aside0.mk (blk_below HL.out hb); have HRn := Aside0.mk (Kd.R_below HR.out hb); clear HK HB HL HR hz0 hz1 hz2 hy0 hy1 hy2 hy3 hb; have HK := HKn; have HB := HBn; have HL := HLn; have HR := HRn; clear HKn HBn HLn HRn; have hz0 := HK.out.c0; have hz1 := HK.out.c1; have hz2 := HK.out.c2; have hy0 := blk_cell HL.out 0; have hy1 := blk_cell HL.out 1; have hy2 := blk_cell HL.out 2; have hy3 := blk_cell HL.out 3)
   | (go_at_call 30; (with_reducible refine (HK.out.recoverable HREC.out).mono ?_); rintro e w1 ⟨rfl, hb⟩; have HKn := Aside0.mk (HK.out.below hb); have HBn := Aside0.mk (below_step HB.out hb); have HLn := Aside0.mk (blk_below HL.out hb); have HRn := Aside0.mk (Kd.R_below HR.out hb); clear HK HB HL HR hz0 hz1 hz2 hy0 hy1 hy2 hy3 hb; have HK := HKn; have HB := HBn; have HL := HLn; have HR := HRn; clear HKn HBn HLn HRn; have hz0 := HK.out.c0; have hz1 := HK.out.c1; have hz2 := HK.out.c2; have hy0 := blk_cell HL.out 0; have hy1 := blk_cell HL.out 1; have hy2 := blk_cell HL.out 2; have hy3 := blk_cell HL.out 3)
   | (go_at_call 15; (with_reducible refine (quietuslaw07_sanity.yes _ HK.out.hg).mono ?_); rintro e w1 ⟨rfl, hb⟩; have HKn := Aside0.mk (HK.out.below hb); have HBn := Aside0.mk (below_step HB.out hb); have HLn := Aside0.mk (blk_below HL.out hb); have HRn := Aside0.mk (Kd.R_below HR.out hb); clear HK HB HL HR hz0 hz1 hz2 hy0 hy1 hy2 hy3 hb; have HK := HKn; have HB := HBn; have HL := HLn; have HR := HRn; clear HKn HBn HLn HRn; have hz0 := HK.out.c0; have hz1 := HK.out.c1; have hz2 := HK.out.c2; have hy0 := blk_cell HL.out 0; have hy1 := blk_cell HL.out 1; have hy2 := blk_cell HL.out 2; have hy3 := blk_cell HL.out 3))
  go_ret
  exact ⟨rfl, HB.out⟩
 | true =>
  simp only [if_true] at HDEC
  go_upto_region 14 with (first
   | (go_at_call 28; (with_reducible refine (HK.out.decode hL HCN.out hcl HDEC.out).mono ?_); rintro e w1 ⟨rfl, hb⟩; have HKn := Aside0.mk (HK.out.below hb); have HBn := Aside0.mk (below_step HB.out hb); have HLn := Aside0.mk (blk_below HL.out hb); have HRn := Aside0.mk (Kd.R_below HR.out hb); clear HK HB HL HR hz0 hz1 hz2 hy0 hy1 hy2 hy3 hb; have HK := HKn; have HB := HBn; have HL := HLn; have HR := HRn; clear HKn HBn HLn HRn; have hz0 := HK.out.c0; have hz1 := HK.out.c1; have hz2 := HK.out.c2; have hy0 := blk_cell HL.out 0; have hy1 := blk_cell HL.out 1; have hy2 := blk_cell HL.out 2; have hy3 := blk_cell HL.out 3)
   | (go_at_call 30; (with_reducible refine (HK.out.recoverable HREC.out).mono ?_); rintro e w1 ⟨rfl, hb⟩; have HKn := Aside0.mk (HK.out.below hb); have HBn := Aside0.mk (below_step HB.out hb); have HLn := Aside0.mk (blk_below HL.out hb); have HRn := Aside0.mk (Kd.R_below HR.out hb); clear HK HB HL HR hz0 hz1 hz2 hy0 hy1 hy2 hy3 hb; have HK := HKn; have HB := HBn; have HL := HLn; have HR := HRn; clear HKn HBn HLn HRn; have hz0 := HK.out.c0; have hz1 := HK.out.c1; have hz2 := HK.out.c2; have hy0 := blk_cell HL.out 0; have hy1 := blk_cell HL.out 1; have hy2 := blk_cell HL.out 2; have hy3 := blk_cell HL.out 3))
  rw [HKK.out]
  have hcc := Hcc.out
  have hkn : (kk : Int) < 64 := by omega
  cases bb with
  | true =>
   have hbt : Go.bits .and .i64 ((x : Int) / 2 ^ kk) 1 = 0 := by rw [HBT.out]; exact beq_iff_eq.1 Hbb.out
   go_wp2_with (first
    | (go_at_call 15; (with_reducible refine (quietuslaw07_sanity.yes _ HK.out.hg).mono ?_); rintro e w1 ⟨rfl, hb⟩; have HKn := Aside0.mk (HK.out.below hb); have HBn := Aside0.mk (below_step HB.out hb); have HLn := Aside0.mk (blk_below HL.out hb); have HRn := Aside0.mk (Kd.R_below HR.out hb); clear HK HB HL HR hz0 hz1 hz2 hy0 hy1 hy2 hy3 hb; have HK := HKn; have HB := HBn; have HL := HLn; have HR := HRn; clear HKn HBn HLn HRn; have hz0 := HK.out.c0; have hz1 := HK.out.c1; have hz2 := HK.out.c2; have hy0 := blk_cell HL.out 0; have hy1 := blk_cell HL.out 1; have hy2 := blk_cell HL.out 2; have hy3 := blk_cell HL.out 3))
   go_ret
   exact ⟨rfl, HB.out⟩
  | false =>
   have hbt : Go.bits .and .i64 ((x : Int) / 2 ^ kk) 1 = 1 := by
    have h := beq_eq_false_iff_ne.1 Hbb.out
    rw [HBT.out]; omega
   cases cc with
   | true =>
    go_wp2_with (first
     | (go_at_call 15; (with_reducible refine (quietuslaw07_sanity.yes _ HK.out.hg).mono ?_); rintro e w1 ⟨rfl, hb⟩; have HKn := Aside0.mk (HK.out.below hb); have HBn := Aside0.mk (below_step HB.out hb); have HLn := Aside0.mk (blk_below HL.out hb); have HRn := Aside0.mk (Kd.R_below HR.out hb); clear HK HB HL HR hz0 hz1 hz2 hy0 hy1 hy2 hy3 hb; have HK := HKn; have HB := HBn; have HL := HLn; have HR := HRn; clear HKn HBn HLn HRn; have hz0 := HK.out.c0; have hz1 := HK.out.c1; have hz2 := HK.out.c2; have hy0 := blk_cell HL.out 0; have hy1 := blk_cell HL.out 1; have hy2 := blk_cell HL.out 2; have hy3 := blk_cell HL.out 3))
    go_ret
    exact ⟨rfl, HB.out⟩
   | false =>
    obtain ⟨hom, hfz⟩ := Kd.R_celln (ByteArray.empty) HR.out ((kk : Nat) : Int) (by omega) (by omega)
    rw [Int.toNat_natCast, ← Hp.out] at hom
    rw [Int.toNat_natCast] at hfz
    have kb := fun W => print_bytes (P := Tryd.prog) 9 57 5 Tryd.underlying9 Tryd.underlying57 Tryd.underlying5 p W
    have b6 : ((p.size : Int) == 0) = false := beq_eq_false_iff_ne.2 (by exact_mod_cast hpz)
    have HBY := Aside0.mk (BytesAt.new w1 p)
    go_upto_region 19 with fail
    have hb := bytes_below (Below.refl w1.heap.size w1) (Nat.le_refl _) 5 p
    have HBW := Aside0.mk hb
    have HKo := HK
    have HBo := HB
    have HLo := HL
    have HRo := HR
    have HKn := Aside0.mk (HK.out.below hb)
    have HBn := Aside0.mk (below_step HB.out hb)
    have HLn := Aside0.mk (blk_below HL.out hb)
    have HRn := Aside0.mk (Kd.R_below HR.out hb)
    clear HK HB HL HR hz0 hz1 hz2 hy0 hy1 hy2 hy3 hb
    have HK := HKn
    have HB := HBn
    have HL := HLn
    have HR := HRn
    clear HKn HBn HLn HRn
    have hz0 := HK.out.c0
    have hz1 := HK.out.c1
    have hz2 := HK.out.c2
    have hy0 := blk_cell HL.out 0
    have hy1 := blk_cell HL.out 1
    have hy2 := blk_cell HL.out 2
    have hy3 := blk_cell HL.out 3
    generalize hwb : Lib.bytesWorld w1 5 p = wb at HK HB HL HR HBY HBW hz0 hz1 hz2 hy0 hy1 hy2 hy3 ⊢
    have hq : (a2 % (p.size : Int)).toNat < (bytesOf p).length := by rw [bytesOf_length]; exact HPO.out
    obtain ⟨hbc, hbf⟩ := HBY.out.cell (a2 % (p.size : Int)).toNat hq
    generalize hv0 : rd (bytesOf p) (((a2 % (p.size : Int)).toNat : Nat) : Int) = v0 at hbc
    have HQ := Aside0.mk hq
    have HV0 := Aside0.mk hv0
    clear hq hv0 hwb hom hfz
    go_region
    go_upto_region 20 with fail
    have hb : Below w1.heap.size w1 (wb.setCell ⟨w1.heap.size, (a2 % (p.size : Int)).toNat, none⟩ (.int .u8 (Go.bits .xor .u8 v0 (a3 % 256)))).drew := below_drew (HBW.out.setCell (p := ⟨w1.heap.size, (a2 % (p.size : Int)).toNat, none⟩) (Nat.le_refl _) _)
    have HBY2 := Aside0.mk ((HBY.out.set _ HQ.out (Go.bits .xor .u8 v0 (a3 % 256))).below (below_drew (Below.refl _ _)))
    clear HK HB HL HR
    have HK := HKo
    have HB := HBo
    have HL := HLo
    have HR := HRo
    have HKn := Aside0.mk (HK.out.below hb)
    have HBn := Aside0.mk (below_step HB.out hb)
    have HLn := Aside0.mk (blk_below HL.out hb)
    have HRn := Aside0.mk (Kd.R_below HR.out hb)
    clear HK HB HL HR hz0 hz1 hz2 hy0 hy1 hy2 hy3 hb
    have HK := HKn
    have HB := HBn
    have HL := HLn
    have HR := HRn
    clear HKn HBn HLn HRn
    have hz0 := HK.out.c0
    have hz1 := HK.out.c1
    have hz2 := HK.out.c2
    have hy0 := blk_cell HL.out 0
    have hy1 := blk_cell HL.out 1
    have hy2 := blk_cell HL.out 2
    have hy3 := blk_cell HL.out 3
    clear HKo HBo HLo HRo HBY HBW hbc hbf
    generalize (wb.setCell ⟨w1.heap.size, (a2 % (p.size : Int)).toNat, none⟩ (.int .u8 (Go.bits .xor .u8 v0 (a3 % 256)))).drew = w2 at HK HB HL HR HBY2 hz0 hz1 hz2 hy0 hy1 hy2 hy3 ⊢
    obtain ⟨hom, hfz⟩ := Kd.R_celln (ByteArray.empty) HR.out ((kk : Nat) : Int) (by omega) (by omega)
    rw [Int.toNat_natCast] at hom hfz
    have kc : (convert 57 9 (.slice (some ⟨w1.heap.size, 0, none⟩) p.size (grownCap w1 p.size 0 5))).run Tryd.prog w2 = .ok (.string p2) w2 := by
     rw [Hp2e.out, HV0.out]
     have hr := HBY2.out.reads (by rw [List.length_set, bytesOf_length]; omega)
     rw [List.length_set, bytesOf_length] at hr
     exact string_of_reads Tryd.underlying57 Tryd.underlying5 Tryd.underlying9 hr
    go_upto_region 21 with fail
    have hB3 := HB.out.setCell (p := ⟨gl, kk, none⟩) (by show w.heap.size ≤ gl; omega) (.string p2)
    have HK3 := Aside0.mk (show CodeAt w.heap.size A c d l m (w2.setCell ⟨gl, kk, none⟩ (.string p2)) from ⟨(Below.heap_setCell w2 ⟨gl, kk, none⟩ (.string p2) w.heap.size (by show w.heap.size ≠ gl; omega)).trans HK.out.1, Hc.out, Kd.C_below HC.out hB3, HG.out.below hB3⟩)
    have HL3 := Aside0.mk (blk_far HL.out (p := ⟨gl, kk, none⟩) (by show w.heap.size + 1 ≠ gl; omega) (.string p2))
    have HR3 := Aside0.mk (Kd.R_putn HR.out ((kk : Nat) : Int) p2)
    rw [Int.toNat_natCast] at HR3
    have HB3 := Aside0.mk hB3
    clear HK HB HL HR hz0 hz1 hz2 hy0 hy1 hy2 hy3 hom hfz kc HBY2 hB3
    have HK := HK3
    have HB := HB3
    have HL := HL3
    have HR := HR3
    clear HK3 HB3 HL3 HR3
    have hz0 := HK.out.c0
    have hz1 := HK.out.c1
    have hz2 := HK.out.c2
    have hy0 := blk_cell HL.out 0
    have hy1 := blk_cell HL.out 1
    have hy2 := blk_cell HL.out 2
    have hy3 := blk_cell HL.out 3
    generalize w2.setCell ⟨gl, kk, none⟩ (.string p2) = w3 at HK HB HL HR hz0 hz1 hz2 hy0 hy1 hy2 hy3 ⊢
    have HCN3 := Aside0.mk (show Kd.C Kd.string w3 (some ⟨gl, 0, none⟩) N (L.set kk p2) by have := (Kd.R_reads' HR.out).2.2; rwa [List.length_set, hL] at this)
    go_upto_region 22 with (first
     | (go_at_call 28; (with_reducible refine (HK.out.decode (by rw [List.length_set]; exact hL) HCN3.out hcl H6.out).mono ?_); rintro e w1 ⟨rfl, hb⟩; have HKn := Aside0.mk (HK.out.below hb); have HBn := Aside0.mk (below_step HB.out hb); have HLn := Aside0.mk (blk_below HL.out hb); have HRn := Aside0.mk (Kd.R_below HR.out hb); clear HK HB HL HR hz0 hz1 hz2 hy0 hy1 hy2 hy3 hb; have HK := HKn; have HB := HBn; have HL := HLn; have HR := HRn; clear HKn HBn HLn HRn; have hz0 := HK.out.c0; have hz1 := HK.out.c1; have hz2 := HK.out.c2; have hy0 := blk_cell HL.out 0; have hy1 := blk_cell HL.out 1; have hy2 := blk_cell HL.out 2; have hy3 := blk_cell HL.out 3))
    go_region_with (first
     | (go_at_call 30; (with_reducible refine ((HK.out.below (below_drew (Below.refl _ _))).recoverable H7.out).mono ?_); rintro e9 w9 ⟨rfl, hb0⟩; have hb := below_step (below_drew (Below.refl _ _)) hb0; clear hb0; have HKn := Aside0.mk (HK.out.below hb); have HBn := Aside0.mk (below_step HB.out hb); have HLn := Aside0.mk (blk_below HL.out hb); have HRn := Aside0.mk (Kd.R_below HR.out hb); clear HK HB HL HR hz0 hz1 hz2 hy0 hy1 hy2 hy3 hb; have HK := HKn; have HB := HBn; have HL := HLn; have HR := HRn; clear HKn HBn HLn HRn; have hz0 := HK.out.c0; have hz1 := HK.out.c1; have hz2 := HK.out.c2; have hy0 := blk_cell HL.out 0; have hy1 := blk_cell HL.out 1; have hy2 := blk_cell HL.out 2; have hy3 := blk_cell HL.out 3))
    have hsj : r ≠ s → (r.toList == s.toList) = false := fun h => beq_eq_false_iff_ne.2 (fun h2 => h (ba_inj.1 h2))
    have hsk : r ≠ s → (r.toList != s.toList) = true := fun h => bne_iff_ne.2 (fun h2 => h (ba_inj.1 h2))
    have HSJ := Aside0.mk hsj
    have HSK := Aside0.mk hsk
    clear hsj hsk
    cases can2 with
    | true =>
     obtain rfl := H8.out (by simp) (by simp) (by simp) (by simp)
     go_wp2_with (first
      | (go_at_call 15; (with_reducible refine (quietuslaw07_sanity.yes _ HK.out.hg).mono ?_); rintro e w1 ⟨rfl, hb⟩; have HKn := Aside0.mk (HK.out.below hb); have HBn := Aside0.mk (below_step HB.out hb); have HLn := Aside0.mk (blk_below HL.out hb); have HRn := Aside0.mk (Kd.R_below HR.out hb); clear HK HB HL HR hz0 hz1 hz2 hy0 hy1 hy2 hy3 hb; have HK := HKn; have HB := HBn; have HL := HLn; have HR := HRn; clear HKn HBn HLn HRn; have hz0 := HK.out.c0; have hz1 := HK.out.c1; have hz2 := HK.out.c2; have hy0 := blk_cell HL.out 0; have hy1 := blk_cell HL.out 1; have hy2 := blk_cell HL.out 2; have hy3 := blk_cell HL.out 3))
     go_ret
     exact ⟨rfl, HB.out⟩
    | false =>
     rcases H9.out (by simp) (by simp) (by simp) with he | ⟨he, hne⟩
     ·subst he
      go_wp2_with (first
       | (go_at_call 15; (with_reducible refine (quietuslaw07_sanity.yes _ HK.out.hg).mono ?_); rintro e w1 ⟨rfl, hb⟩; have HKn := Aside0.mk (HK.out.below hb); have HBn := Aside0.mk (below_step HB.out hb); have HLn := Aside0.mk (blk_below HL.out hb); have HRn := Aside0.mk (Kd.R_below HR.out hb); clear HK HB HL HR hz0 hz1 hz2 hy0 hy1 hy2 hy3 hb; have HK := HKn; have HB := HBn; have HL := HLn; have HR := HRn; clear HKn HBn HLn HRn; have hz0 := HK.out.c0; have hz1 := HK.out.c1; have hz2 := HK.out.c2; have hy0 := blk_cell HL.out 0; have hy1 := blk_cell HL.out 1; have hy2 := blk_cell HL.out 2; have hy3 := blk_cell HL.out 3))
      go_ret
      exact ⟨rfl, HB.out⟩
     ·subst he
      have hs1 := HSJ.out hne
      have hs2 := HSK.out hne
      clear hne
      go_wp2_with (first
       | (go_at_call 15; (with_reducible refine (quietuslaw07_sanity.yes _ HK.out.hg).mono ?_); rintro e w1 ⟨rfl, hb⟩; have HKn := Aside0.mk (HK.out.below hb); have HBn := Aside0.mk (below_step HB.out hb); have HLn := Aside0.mk (blk_below HL.out hb); have HRn := Aside0.mk (Kd.R_below HR.out hb); clear HK HB HL HR hz0 hz1 hz2 hy0 hy1 hy2 hy3 hb; have HK := HKn; have HB := HBn; have HL := HLn; have HR := HRn; clear HKn HBn HLn HRn; have hz0 := HK.out.c0; have hz1 := HK.out.c1; have hz2 := HK.out.c2; have hy0 := blk_cell HL.out 0; have hy1 := blk_cell HL.out 1; have hy2 := blk_cell HL.out 2; have hy3 := blk_cell HL.out 3))
      go_ret
      exact ⟨rfl, HB.out⟩
set_option maxHeartbeats 4000000 in
set_option maxRecDepth 100000 in
theorem law07_trips.aside (k : Nat) (d : Int) (A : Option Addr) (c : Nat) (l : List (List Int)) (m : Int) (s : ByteArray) (a0 a1 a2 a3 : Int) (e : Int) (w : World) (hG : HG w) (hC : Kd.C (Kd.slice 3 (Kd.int .i64)) w A l.length l) (hc : l.length ≤ c)
  (hout : 20 < l.length ∨ s.size = 0 ∨ 200 < s.size ∨ (code_Check.f k d l m = some e ∧ e ≠ 0)) :
  Calls Tryd.prog 6 #[.agg #[.int .i64 d, .slice A l.length c, .int .i64 m], .string s, .agg #[.int .u32 a0, .int .u32 a1, .int .u32 a2, .int .u32 a3]] w fun e w' => e = .returned (.bool true) ∧ Below w.heap.size w w' := by
 have HK := Aside0.mk (show CodeAt w.heap.size A c d l m ((w.alloc (.cells #[.int .i64 d, .slice A l.length c, .int .i64 m] 24)).alloc (.cells #[.int .u32 a0, .int .u32 a1, .int .u32 a2, .int .u32 a3] 56)) from CodeAt.below ⟨blk_new _ _, hc, Kd.C_alloc hC _, hG.alloc _⟩ (below_alloc (Below.refl _ _) _))
 have HL := Aside0.mk (blk_new1 w (.cells #[.int .i64 d, .slice A l.length c, .int .i64 m] 24) (.cells #[.int .u32 a0, .int .u32 a1, .int .u32 a2, .int .u32 a3] 56))
 have hu24 := Tryd.underlying24
 have hu56 := Tryd.underlying56
 have hu32 := Tryd.underlying32
 have HB := Aside0.mk (below_alloc (below_alloc (Below.refl w.heap.size w) (.cells #[.int .i64 d, .slice A l.length c, .int .i64 m] 24)) (.cells #[.int .u32 a0, .int .u32 a1, .int .u32 a2, .int .u32 a3] 56))
 have hz0 := HK.out.c0
 have hz1 := HK.out.c1
 have hz2 := HK.out.c2
 have hy0 := True.intro
 have hy1 := True.intro
 have hy2 := True.intro
 have hy3 := True.intro
 clear hG hC hc
 obtain ⟨z, hz⟩ : ∃ z : Nat, z = s.size := ⟨_, rfl⟩
 rw [← hz] at hout
 by_cases g1 : 20 < l.length
 ·have b1 : decide ((20 : Int) < (l.length : Int)) = true := decide_eq_true (by omega)
  subst hz
  clear g1 hout
  go_enter Tryd.func6, Tryd.ntmps6
  go_wp2_with (first
   | (go_at_call 15; (with_reducible refine (quietuslaw07_sanity.yes _ HK.out.hg).mono ?_); rintro e w1 ⟨rfl, hb⟩; have HKn := Aside0.mk (HK.out.below hb); have HBn := Aside0.mk (below_step HB.out hb); have HLn := Aside0.mk (blk_below HL.out hb); clear HK HB HL hz0 hz1 hz2 hy0 hy1 hy2 hy3 hb; have HK := HKn; have HB := HBn; have HL := HLn; clear HKn HBn HLn; have hz0 := HK.out.c0; have hz1 := HK.out.c1; have hz2 := HK.out.c2; have hy0 := blk_cell HL.out 0; have hy1 := blk_cell HL.out 1; have hy2 := blk_cell HL.out 2; have hy3 := blk_cell HL.out 3))
  go_ret
  exact ⟨rfl, HB.out⟩
 ·have b1 : decide ((20 : Int) < (l.length : Int)) = false := decide_eq_false (by omega)
  by_cases g2 : z = 0
  ·have b2 : ((z : Int) == 0) = true := beq_iff_eq.2 (by omega)
   subst hz
   clear g1 g2 hout
   go_enter Tryd.func6, Tryd.ntmps6
   go_wp2_with (first
   | (go_at_call 15; (with_reducible refine (quietuslaw07_sanity.yes _ HK.out.hg).mono ?_); rintro e w1 ⟨rfl, hb⟩; have HKn := Aside0.mk (HK.out.below hb); have HBn := Aside0.mk (below_step HB.out hb); have HLn := Aside0.mk (blk_below HL.out hb); clear HK HB HL hz0 hz1 hz2 hy0 hy1 hy2 hy3 hb; have HK := HKn; have HB := HBn; have HL := HLn; clear HKn HBn HLn; have hz0 := HK.out.c0; have hz1 := HK.out.c1; have hz2 := HK.out.c2; have hy0 := blk_cell HL.out 0; have hy1 := blk_cell HL.out 1; have hy2 := blk_cell HL.out 2; have hy3 := blk_cell HL.out 3))
   go_ret
   exact ⟨rfl, HB.out⟩
  ·have b2 : ((z : Int) == 0) = false := beq_eq_false_iff_ne.2 (by omega)
   by_cases g3 : 200 < z
   ·have b3 : decide ((200 : Int) < (z : Int)) = true := decide_eq_true (by omega)
    subst hz
    clear g1 g2 g3 hout
    go_enter Tryd.func6, Tryd.ntmps6
    go_wp2_with (first
   | (go_at_call 15; (with_reducible refine (quietuslaw07_sanity.yes _ HK.out.hg).mono ?_); rintro e w1 ⟨rfl, hb⟩; have HKn := Aside0.mk (HK.out.below hb); have HBn := Aside0.mk (below_step HB.out hb); have HLn := Aside0.mk (blk_below HL.out hb); clear HK HB HL hz0 hz1 hz2 hy0 hy1 hy2 hy3 hb; have HK := HKn; have HB := HBn; have HL := HLn; clear HKn HBn HLn; have hz0 := HK.out.c0; have hz1 := HK.out.c1; have hz2 := HK.out.c2; have hy0 := blk_cell HL.out 0; have hy1 := blk_cell HL.out 1; have hy2 := blk_cell HL.out 2; have hy3 := blk_cell HL.out 3))
    go_ret
    exact ⟨rfl, HB.out⟩
   ·have b3 : decide ((200 : Int) < (z : Int)) = false := decide_eq_false (by omega)
    obtain ⟨h1, he⟩ : code_Check.f k d l m = some e ∧ e ≠ 0 := by rcases hout with h | h | h | h; exact absurd h g1; exact absurd h g2; exact absurd h g3; exact h
    have b4 : (e == 0) = false := beq_eq_false_iff_ne.2 he
    have b5 : (e != 0) = true := bne_iff_ne.2 he
    have H1 := Aside0.mk h1
    subst hz
    clear g1 g2 g3 hout h1 he
    go_enter Tryd.func6, Tryd.ntmps6
    go_wp2_with (first
     | (go_at_call 20; (with_reducible refine (HK.out.check H1.out).mono ?_); rintro e w1 ⟨rfl, hb⟩; have HKn := Aside0.mk (HK.out.below hb); have HBn := Aside0.mk (below_step HB.out hb); have HLn := Aside0.mk (blk_below HL.out hb); clear HK HB HL hz0 hz1 hz2 hy0 hy1 hy2 hy3 hb; have HK := HKn; have HB := HBn; have HL := HLn; clear HKn HBn HLn; have hz0 := HK.out.c0; have hz1 := HK.out.c1; have hz2 := HK.out.c2; have hy0 := blk_cell HL.out 0; have hy1 := blk_cell HL.out 1; have hy2 := blk_cell HL.out 2; have hy3 := blk_cell HL.out 3)
     | (go_at_call 15; (with_reducible refine (quietuslaw07_sanity.yes _ HK.out.hg).mono ?_); rintro e w1 ⟨rfl, hb⟩; have HKn := Aside0.mk (HK.out.below hb); have HBn := Aside0.mk (below_step HB.out hb); have HLn := Aside0.mk (blk_below HL.out hb); clear HK HB HL hz0 hz1 hz2 hy0 hy1 hy2 hy3 hb; have HK := HKn; have HB := HBn; have HL := HLn; clear HKn HBn HLn; have hz0 := HK.out.c0; have hz1 := HK.out.c1; have hz2 := HK.out.c2; have hy0 := blk_cell HL.out 0; have hy1 := blk_cell HL.out 1; have hy2 := blk_cell HL.out 2; have hy3 := blk_cell HL.out 3))
    go_ret
    exact ⟨rfl, HB.out⟩

def anyFrom (p : Nat → Bool) : Nat → Nat → Bool
 | _, 0 => false
 | j, n + 1 => p j || anyFrom p (j + 1) n
theorem anyFrom_iff (p : Nat → Bool) : ∀ n j, anyFrom p j n = true ↔ ∃ t, j ≤ t ∧ t < j + n ∧ p t = true := by
 intro n
 induction n with
 | zero =>
  intro j
  simp only [anyFrom]
  constructor
  ·intro h; cases h
  ·rintro ⟨t, h1, h2, _⟩; omega
 | succ n ih =>
  intro j
  simp only [anyFrom, Bool.or_eq_true, ih]
  constructor
  ·rintro (h | ⟨t, h1, h2, h3⟩)
   ·exact ⟨j, Nat.le_refl _, by omega, h⟩
   ·exact ⟨t, by omega, by omega, h3⟩
  ·rintro ⟨t, h1, h2, h3⟩
   by_cases e : t = j
   ·subst e; exact .inl h3
   ·exact .inr ⟨t, by omega, by omega, h3⟩
theorem anyFrom_false {p : Nat → Bool} {j n : Nat} (h : anyFrom p j n = false) : ∀ t, j ≤ t → t < j + n → p t = false := by
 intro t h1 h2
 cases hp : p t
 ·rfl
 ·rw [(anyFrom_iff p n j).2 ⟨t, h1, h2, hp⟩] at h; cases h
theorem wrap_succ {n : Nat} (h : n < 9223372036854775807) : wrap64 ((n : Int) + 1) = ((n + 1 : Nat) : Int) := by unfold wrap64; omega
theorem wrap_pred {n : Nat} (h0 : 0 < n) (h : n < 9223372036854775807) : wrap64 ((n : Int) - 1) = ((n - 1 : Nat) : Int) := by unfold wrap64; omega
theorem ev_eq {α : Type} {g : Nat → Option α} {a b : α} (h : Ev g a) (e : a = b) : Ev g b := e ▸ h
/-! Has -/
/-! what Check says -/
def badEl (d : Int) (l : List (List Int)) (gi j : Nat) : Bool :=
 (decide (rd (rd_L1 l gi) j < 0) || (decide (d ≤ rd (rd_L1 l gi) j) || (decide (0 < j) && decide (rd (rd_L1 l gi) j ≤ rd (rd_L1 l gi) ((j - 1 : Nat) : Int))))) || anyFrom (fun h => decide (rd (rd_L1 l gi) j ∈ rd_L1 l (h : Nat))) 0 gi
def grpErr (d : Int) (l : List (List Int)) (gi : Nat) : Int := if (rd_L1 l gi).length = 0 then 8 else if anyFrom (badEl d l gi) 0 (rd_L1 l gi).length = true then 1 else 0
def chkFrom (d : Int) (l : List (List Int)) : Nat → Nat → Int
 | _, 0 => 0
 | i, n + 1 => if grpErr d l i = 0 then chkFrom d l (i + 1) n else grpErr d l i
def chk (d : Int) (l : List (List Int)) (m : Int) : Int := if d < 1 ∨ 16 < d ∨ m < 0 ∨ 4 < m then 3 else if 24 < d + l.length + m then 2 else chkFrom d l 0 l.length
/-! the reference's Check -/
def Small (l : List (List Int)) : Prop := l.length ≤ 4611686018427387000 ∧ ∀ i : Nat, (rd_L1 l i).length ≤ 9223372036854775807
def orAll (g : List Int) (s : Nat) : Nat := g.foldl (fun s i => s ||| 2 ^ i.toNat) s
theorem orAll_snoc (g : List Int) (x : Int) (s : Nat) : orAll (g ++ [x]) s = orAll g s ||| 2 ^ x.toNat := by simp [orAll]
theorem orAll_lt {g : List Int} (h : ∀ x ∈ g, 0 ≤ x ∧ x < 16) : ∀ {s : Nat}, s < 2 ^ 16 → orAll g s < 2 ^ 16 := by
 induction g with
 | nil => intro s hs; exact hs
 | cons a g ih =>
  intro s hs
  have ha := h a (List.mem_cons_self)
  exact ih (fun x hx => h x (List.mem_cons_of_mem _ hx)) (Nat.or_lt_two_pow hs (Nat.pow_lt_pow_right (by decide) (by omega)))
theorem orAll_bit (g : List Int) (i : Nat) : ∀ s, (orAll g s).testBit i = (s.testBit i || g.any (fun x => x.toNat == i)) := by
 induction g with
 | nil => intro s; simp [orAll]
 | cons a g ih =>
  intro s
  show (orAll g (s ||| 2 ^ a.toNat)).testBit i = _
  rw [ih, Nat.testBit_or, Nat.testBit_two_pow, List.any_cons, Bool.or_assoc]
  congr 2
def seenOf (l : List (List Int)) : Nat → Nat
 | 0 => 0
 | i + 1 => orAll (rd_L1 l (i : Nat)) (seenOf l i)
/-- The groups before i have elements of the code alone. -/
def Elems (d : Int) (l : List (List Int)) (i : Nat) : Prop := ∀ h : Nat, h < i → ∀ x ∈ rd_L1 l (h : Nat), 0 ≤ x ∧ x < d
theorem seenOf_lt {d : Int} {l : List (List Int)} (hd : d ≤ 16) : ∀ {i}, Elems d l i → seenOf l i < 2 ^ 16
 | 0, _ => (by decide : (0 : Nat) < 2 ^ 16)
 | i + 1, h => orAll_lt (fun x hx => by have := h i (Nat.lt_succ_self i) x hx; omega) (seenOf_lt hd (fun g hg => h g (by omega)))
theorem seenOf_bit {d : Int} {l : List (List Int)} {x : Int} (hx : 0 ≤ x) : ∀ {i}, Elems d l i → (seenOf l i).testBit x.toNat = anyFrom (fun h => decide (x ∈ rd_L1 l (h : Nat))) 0 i := by
 intro i
 induction i with
 | zero => intro _; simp [seenOf, anyFrom]
 | succ i ih =>
  intro h
  have e := ih (fun g hg => h g (by omega))
  rw [Bool.eq_iff_iff, anyFrom_iff] at e ⊢
  rw [show seenOf l (i + 1) = orAll (rd_L1 l (i : Nat)) (seenOf l i) from rfl, orAll_bit, Bool.or_eq_true, e, List.any_eq_true]
  constructor
  ·rintro (⟨t, h1, h2, h3⟩ | ⟨y, hy, hz⟩)
   ·exact ⟨t, h1, by omega, h3⟩
   ·have := (h i (Nat.lt_succ_self i) y hy).1
    have hz : y.toNat = x.toNat := by simpa using hz
    obtain rfl : y = x := by omega
    exact ⟨i, by omega, by omega, by simpa using hy⟩
  ·rintro ⟨t, h1, h2, h3⟩
   by_cases ht : t = i
   ·subst ht; exact .inr ⟨x, by simpa using h3, by simp⟩
   ·exact .inl ⟨t, h1, by omega, h3⟩
theorem bit_of (s : Nat) (x : Int) (hx : 0 ≤ x) (h16 : x < 16) (hs : s < 2 ^ 16) : (Go.bits .and .i64 (shr .i64 (s : Int) x) 1 = 1) ↔ s.testBit x.toNat = true := by
 obtain ⟨n, rfl⟩ := Int.eq_ofNat_of_zero_le hx
 rw [shr_i64_nat s n (by omega), i64_and1 _ (by have := Nat.shiftRight_le s n; omega), Int.toNat_natCast, Nat.testBit_eq_decide_div_mod_eq, Nat.shiftRight_eq_div_pow, decide_eq_true_eq]
 omega
theorem rdm {l : List Int} {i : Nat} (h : i < l.length) : rd l (i : Int) ∈ l := by rw [rdi h]; exact List.getElem_mem h
theorem cchk_l2 (d : Int) (l : List (List Int)) (m : Int) (hs : Small l) (i : Nat) (hil : i < l.length) (s : Nat) (hlt : s < 2 ^ 16) (hg : ∀ x ∈ rd_L1 l (i : Nat), 0 ≤ x ∧ x < 16) (R : Int)
  (hR : Ev (fun k => code_Check.l0 k ((orAll (rd_L1 l (i : Nat)) s : Nat) : Int) 0 l (l.length : Int) ((i + 1 : Nat) : Int) d l m) R) :
  ∀ n j, j + n = (rd_L1 l (i : Nat)).length → Ev (fun k => code_Check.l2 k ((orAll ((rd_L1 l (i : Nat)).take j) s : Nat) : Int) 0 l (l.length : Int) (i : Int) (rd_L1 l (i : Nat)) ((rd_L1 l (i : Nat)).length : Int) (j : Int) d l m) R := by
 have hgl := hs.2 i
 have hsl := hs.1
 generalize rd_L1 l (i : Nat) = g at *
 intro n
 induction n with
 | zero =>
  intro j hj
  refine Ev.step (f := fun k => code_Check.l0 k ((orAll g s : Nat) : Int) 0 l (l.length : Int) ((i + 1 : Nat) : Int) d l m) (fun k => ?_) hR
  simp only [code_Check.l2]
  rw [if_neg (by omega), List.take_of_length_le (by omega), wrap_succ (by omega)]
 | succ n ih =>
  intro j hj
  have hx := hg _ (rdm (show j < g.length by omega))
  refine Ev.step (f := fun k => code_Check.l2 k ((orAll (g.take (j + 1)) s : Nat) : Int) 0 l (l.length : Int) (i : Int) g (g.length : Int) ((j + 1 : Nat) : Int) d l m) (fun k => ?_) (ih (j + 1) (by omega))
  simp only [code_Check.l2]
  have ht : g.take (j + 1) = g.take j ++ [rd g (j : Int)] := by rw [rdi (show j < g.length by omega)]; exact List.take_succ_eq_append_getElem (by omega)
  rw [if_pos (by omega), if_pos (by omega), if_pos (by omega), if_pos hx.1, wrap_succ (by omega), ht, orAll_snoc]
  have hb := orAll_lt (g := g.take j) (fun x hx => hg x (List.mem_of_mem_take hx)) hlt
  have hp : 2 ^ (rd g (j : Int)).toNat < 2 ^ 16 := Nat.pow_lt_pow_right (by decide) (by omega)
  have e := shl_i64_nat 1 (rd g (j : Int)).toNat (by omega) (by omega)
  rw [Int.toNat_of_nonneg hx.1, Nat.one_mul] at e
  rw [show ((1 : Nat) : Int) = 1 from rfl] at e
  rw [e, i64_or _ _ (by omega) (by omega)]
theorem cchk_l1 (d : Int) (hd : d ≤ 16) (l : List (List Int)) (m : Int) (hs : Small l) (i : Nat) (hil : i < l.length) (hel : Elems d l i) (R : Int)
  (hR : (∀ x ∈ rd_L1 l (i : Nat), 0 ≤ x ∧ x < d) → Ev (fun k => code_Check.l0 k ((seenOf l (i + 1) : Nat) : Int) 0 l (l.length : Int) ((i + 1 : Nat) : Int) d l m) R) :
  ∀ n j, j + n = (rd_L1 l (i : Nat)).length → (∀ t : Nat, t < j → 0 ≤ rd (rd_L1 l i) t ∧ rd (rd_L1 l i) t < d) →
   Ev (fun k => code_Check.l1 k ((seenOf l i : Nat) : Int) 0 (rd_L1 l i) l (l.length : Int) (i : Int) (rd_L1 l i) ((rd_L1 l i).length : Int) (j : Int) d l m) (if anyFrom (badEl d l i) j n = true then 1 else R) := by
 have hgl := hs.2 i
 have hlt := seenOf_lt hd hel
 intro n
 induction n with
 | zero =>
  intro j hj hpre
  have hall : ∀ x ∈ rd_L1 l (i : Nat), 0 ≤ x ∧ x < d := by
   intro x hx
   obtain ⟨t, ht, rfl⟩ := List.mem_iff_getElem.1 hx
   have := hpre t (by omega)
   rwa [rdi ht] at this
  refine Ev.step (f := fun k => code_Check.l2 k ((seenOf l i : Nat) : Int) 0 l (l.length : Int) (i : Int) (rd_L1 l i) ((rd_L1 l i).length : Int) ((0 : Nat) : Int) d l m) (fun k => ?_) ?_
  ·simp only [code_Check.l1]
   rw [if_neg (by omega)]
   rfl
  ·simp only [anyFrom]
   exact cchk_l2 d l m hs i hil (seenOf l i) hlt (fun x hx => by have := hall x hx; omega) R (hR hall) _ 0 (Nat.zero_add _)
 | succ n ih =>
  intro j hj hpre
  have hjl : j < (rd_L1 l i).length := by omega
  by_cases hb : badEl d l i j = true
  ·simp only [anyFrom, hb, Bool.true_or, if_true]
   refine Ev.step (f := fun _ => some 1) (fun k => ?_) (Ev.now _)
   simp only [code_Check.l1]
   rw [if_pos (by omega), if_pos (by omega), if_pos (by omega)]
   unfold badEl at hb
   by_cases c1 : rd (rd_L1 l i) j < 0
   ·rw [if_pos c1]
   rw [if_neg c1]
   by_cases c2 : d ≤ rd (rd_L1 l i) j
   ·rw [if_pos c2]
   rw [if_neg c2]
   simp only [c1, c2, decide_false, Bool.false_or] at hb
   have hsn : ¬ (decide (0 < j) && decide (rd (rd_L1 l i) j ≤ rd (rd_L1 l i) ((j - 1 : Nat) : Int))) = true → Go.bits .and .i64 (shr .i64 ((seenOf l i : Nat) : Int) (rd (rd_L1 l i) j)) 1 = 1 := by
    intro hn
    rw [bit_of _ _ (by omega) (by omega) hlt, seenOf_bit (by omega) hel]
    rw [Bool.not_eq_true] at hn
    rw [hn, Bool.false_or] at hb
    exact hb
   by_cases c3 : 0 < j
   ·rw [if_pos (by omega), wrap_pred c3 (by omega), if_pos (by omega), if_pos (by omega)]
    by_cases c4 : rd (rd_L1 l i) j ≤ rd (rd_L1 l i) ((j - 1 : Nat) : Int)
    ·rw [if_pos c4]
    ·rw [if_neg c4, if_pos (by omega), if_pos (hsn (by simp [c4]))]
   ·rw [if_neg (by omega), if_pos (by omega), if_pos (hsn (by simp [c3]))]
  ·have hb0 : badEl d l i j = false := Bool.eq_false_iff.2 hb
   simp only [anyFrom, hb0, Bool.false_or]
   unfold badEl at hb0
   simp only [Bool.or_eq_false_iff, decide_eq_false_iff_not] at hb0
   obtain ⟨⟨c1, c2, c3⟩, c4⟩ := hb0
   refine Ev.step (f := fun k => code_Check.l1 k ((seenOf l i : Nat) : Int) 0 (rd_L1 l i) l (l.length : Int) (i : Int) (rd_L1 l i) ((rd_L1 l i).length : Int) ((j + 1 : Nat) : Int) d l m) (fun k => ?_) (ih (j + 1) (by omega) (fun t ht => ?_))
   ·simp only [code_Check.l1]
    have hns : ¬ Go.bits .and .i64 (shr .i64 ((seenOf l i : Nat) : Int) (rd (rd_L1 l i) j)) 1 = 1 := by
     rw [bit_of _ _ (by omega) (by omega) hlt, seenOf_bit (by omega) hel, c4]
     decide
    rw [if_pos (by omega), if_pos (by omega), if_pos (by omega), if_neg c1, if_neg (show ¬ rd (rd_L1 l i) j ≥ d from c2)]
    by_cases e : 0 < j
    ·have c5 : ¬ rd (rd_L1 l i) j ≤ rd (rd_L1 l i) ((j - 1 : Nat) : Int) := by
      intro h; simp [e, h] at c3
     rw [if_pos (by omega), wrap_pred e (by omega), if_pos (by omega), if_pos (by omega), if_neg c5, if_pos (by omega), if_neg hns, wrap_succ (by omega)]
    ·rw [if_neg (by omega), if_pos (by omega), if_neg hns, wrap_succ (by omega)]
   ·by_cases e : t = j
    ·subst e; omega
    ·exact hpre t (by omega)
theorem cchk_l0 (d : Int) (hd : d ≤ 16) (l : List (List Int)) (m : Int) (hs : Small l) : ∀ n i, i + n = l.length → Elems d l i → Ev (fun k => code_Check.l0 k ((seenOf l i : Nat) : Int) 0 l (l.length : Int) (i : Int) d l m) (chkFrom d l i n) := by
 intro n
 have hsl := hs.1
 induction n with
 | zero =>
  intro i hi hel
  refine Ev.step (f := fun _ => some 0) (fun k => ?_) (Ev.now _)
  simp only [code_Check.l0]
  rw [if_neg (by omega)]
 | succ n ih =>
  intro i hi hel
  by_cases h0 : (rd_L1 l i).length = 0
  ·have e : grpErr d l i = 8 := by unfold grpErr; rw [if_pos h0]
   simp only [chkFrom, e]
   refine Ev.step (f := fun _ => some 8) (fun k => ?_) (Ev.now _)
   simp only [code_Check.l0]
   rw [if_pos (by omega), if_pos (by omega), if_pos (by omega), if_pos (by omega)]
  ·refine Ev.step (f := fun k => code_Check.l1 k ((seenOf l i : Nat) : Int) 0 (rd_L1 l i) l (l.length : Int) (i : Int) (rd_L1 l i) ((rd_L1 l i).length : Int) ((0 : Nat) : Int) d l m) (fun k => ?_) ?_
   ·simp only [code_Check.l0]
    rw [if_pos (by omega), if_pos (by omega), if_pos (by omega), if_neg (by omega)]
    rfl
   ·refine ev_eq (cchk_l1 d hd l m hs i (by omega) hel (chkFrom d l (i + 1) n) (fun hall => ih (i + 1) (by omega) (fun h hh => ?_)) _ 0 (Nat.zero_add _) (fun t ht => absurd ht (Nat.not_lt_zero t))) ?_
    ·by_cases e : h = i
     ·subst e; exact hall
     ·exact hel h (by omega)
    ·have ge : grpErr d l i = if anyFrom (badEl d l i) 0 (rd_L1 l i).length = true then 1 else 0 := by unfold grpErr; rw [if_neg h0]
     by_cases e : anyFrom (badEl d l i) 0 (rd_L1 l i).length = true
     ·rw [if_pos e] at ge ⊢
      simp [chkFrom, ge]
     ·rw [if_neg e] at ge ⊢
      simp [chkFrom, ge]
theorem cchk_ev (d : Int) (l : List (List Int)) (m : Int) (hs : Small l) : Ev (fun k => code_Check.f k d l m) (chk d l m) := by
 have hsl := hs.1
 obtain ⟨b, hb⟩ : ∃ b, b = (decide (d < 1) || (decide (16 < d) || (decide (m < 0) || decide (4 < m)))) := ⟨_, rfl⟩
 refine Ev.congr (f := fun k => code_Check.j0 k b d l m) (fun k => ?_) ?_
 ·unfold code_Check.f
  by_cases c1 : d < 1
  ·rw [if_pos c1, hb]; simp [c1]
  rw [if_neg c1]
  by_cases c2 : 16 < d
  ·rw [if_pos c2, hb]; simp [c2]
  rw [if_neg c2]
  by_cases c3 : m < 0
  ·rw [if_pos c3, hb]; simp [c3]
  rw [if_neg c3, hb]
  simp [c1, c2, c3]
 ·unfold chk
  cases b with
  | true =>
   have : d < 1 ∨ 16 < d ∨ m < 0 ∨ 4 < m := by simpa using hb.symm
   rw [if_pos this]
   exact Ev.step (f := fun _ => some 3) (fun k => by simp only [code_Check.j0]; rfl) (Ev.now _)
  | false =>
   have h' : ¬ (d < 1 ∨ 16 < d ∨ m < 0 ∨ 4 < m) := by
    intro h
    have : (decide (d < 1) || (decide (16 < d) || (decide (m < 0) || decide (4 < m)))) = true := by simpa using h
    rw [← hb] at this; cases this
   rw [if_neg h']
   have hw : wrap64 (wrap64 (d + (l.length : Int)) + m) = d + l.length + m := by unfold wrap64; omega
   by_cases e : 24 < d + (l.length : Int) + m
   ·rw [if_pos e]
    refine Ev.step (f := fun k => code_Check.j1 k true d l m) (fun k => ?_) (Ev.step (f := fun _ => some 2) (fun k => by simp only [code_Check.j1]; rfl) (Ev.now _))
    simp only [code_Check.j0, hw, gt_iff_lt, e, decide_true, Bool.false_eq_true, if_false, ite_self]
   ·rw [if_neg e]
    refine Ev.step (f := fun k => code_Check.j1 k false d l m) (fun k => ?_) (Ev.step (f := fun k => code_Check.l0 k ((seenOf l 0 : Nat) : Int) 0 l (l.length : Int) ((0 : Nat) : Int) d l m) (fun k => by simp only [code_Check.j1]; rfl) (cchk_l0 d (by omega) l m hs _ 0 (Nat.zero_add _) (fun h hh => absurd hh (Nat.not_lt_zero h))))
    simp only [code_Check.j0, hw, gt_iff_lt, e, decide_false, Bool.false_eq_true, if_false]
    rw [if_neg (by omega)]
/-! what a code without an error is like -/
theorem chkFrom_elems {d : Int} {l : List (List Int)} : ∀ n i, chkFrom d l i n = 0 → ∀ h : Nat, i ≤ h → h < i + n → grpErr d l h = 0 := by
 intro n
 induction n with
 | zero => intro i _ h h1 h2; omega
 | succ n ih =>
  intro i hc h h1 h2
  simp only [chkFrom] at hc
  by_cases e : grpErr d l i = 0
  ·rw [if_pos e] at hc
   by_cases e2 : h = i
   ·subst e2; exact e
   ·exact ih (i + 1) hc h (by omega) (by omega)
  ·rw [if_neg e] at hc
   exact absurd hc e
theorem grp_ok {d : Int} {l : List (List Int)} {gi : Nat} (h : grpErr d l gi = 0) : 0 < (rd_L1 l gi).length ∧ ∀ j : Nat, j < (rd_L1 l gi).length → badEl d l gi j = false := by
 unfold grpErr at h
 by_cases e : (rd_L1 l gi).length = 0
 ·rw [if_pos e] at h; cases h
 ·rw [if_neg e] at h
  refine ⟨by omega, fun j hj => ?_⟩
  have : anyFrom (badEl d l gi) 0 (rd_L1 l gi).length = false := by
   cases hc : anyFrom (badEl d l gi) 0 (rd_L1 l gi).length
   ·rfl
   ·rw [hc] at h; cases h
  exact anyFrom_false this j (Nat.zero_le _) (by omega)
structure CodeOk (d : Int) (l : List (List Int)) (m : Int) : Prop where
 d1 : 1 ≤ d
 d2 : d ≤ 16
 m1 : 0 ≤ m
 m2 : m ≤ 4
 sum : d + l.length + m ≤ 24
 grp : ∀ h : Nat, h < l.length → 0 < (rd_L1 l h).length ∧ ∀ j : Nat, j < (rd_L1 l h).length → badEl d l h j = false
theorem chk_ok {d : Int} {l : List (List Int)} {m : Int} (h : chk d l m = 0) : CodeOk d l m := by
 unfold chk at h
 by_cases c1 : d < 1 ∨ 16 < d ∨ m < 0 ∨ 4 < m
 ·rw [if_pos c1] at h; cases h
 rw [if_neg c1] at h
 by_cases c2 : 24 < d + (l.length : Int) + m
 ·rw [if_pos c2] at h; cases h
 rw [if_neg c2] at h
 exact ⟨by omega, by omega, by omega, by omega, by omega, fun g hg => grp_ok (chkFrom_elems _ _ h g (Nat.zero_le _) (by omega))⟩
theorem CodeOk.elems {d : Int} {l : List (List Int)} {m : Int} (h : CodeOk d l m) : Elems d l l.length := by
 intro g hg x hx
 obtain ⟨t, ht, rfl⟩ := List.mem_iff_getElem.1 hx
 have := (h.grp g hg).2 t ht
 unfold badEl at this
 simp only [Bool.or_eq_false_iff, decide_eq_false_iff_not, rdi ht] at this
 omega
/-! Pieces, Size, Few -/
def piecesOf (d : Int) (l : List (List Int)) (m : Int) : Int := if chk d l m = 0 then d + l.length + m else 0
theorem cpieces_ev (d : Int) (l : List (List Int)) (m : Int) (hs : Small l) : Ev (fun k => code_Pieces.f k d l m) (piecesOf d l m) := by
 unfold piecesOf
 refine Ev.congr (f := fun k => (code_Check.f k d l m).bind fun t => if t = 0 then some (wrap64 (wrap64 (d + (l.length : Int)) + m)) else some 0) (fun k => rfl) (Ev.bind (cchk_ev d l m hs) ?_)
 by_cases e : chk d l m = 0
 ·have := chk_ok e
  have h1 := this.d1; have h2 := this.d2; have h3 := this.m1; have h4 := this.m2; have h5 := this.sum
  simp only [e, if_true]
  have hw : wrap64 (wrap64 (d + (l.length : Int)) + m) = d + l.length + m := by unfold wrap64; omega
  rw [hw]
  exact Ev.now _
 ·simp only [e, if_false]
  exact Ev.now _
def sizeOf (d : Int) (l : List (List Int)) (m n : Int) : Int := if chk d l m = 0 ∧ 0 ≤ n ∧ n ≤ 4096 then (n + d - 1) / d else 0
theorem size_num {d n : Int} (h1 : 1 ≤ d) (h2 : d ≤ 16) (h3 : 0 ≤ n) (h4 : n ≤ 4096) : wrap64 (Int.tdiv (wrap64 (wrap64 (n + d) - 1)) d) = (n + d - 1) / d := by
 have e : wrap64 (wrap64 (n + d) - 1) = n + d - 1 := by unfold wrap64; omega
 rw [e, Int.tdiv_eq_ediv_of_nonneg (by omega)]
 have h5 : 0 ≤ (n + d - 1) / d := Int.ediv_nonneg (by omega) (by omega)
 have h6 : (n + d - 1) / d ≤ n + d - 1 := Int.ediv_le_self _ (by omega)
 generalize (n + d - 1) / d = q at *
 unfold wrap64; omega
theorem sizeOf_in {d : Int} {l : List (List Int)} {m n : Int} (h : chk d l m = 0) (h0 : ¬ n < 0) (h1 : ¬ n > 4096) : sizeOf d l m n = (n + d - 1) / d := if_pos ⟨h, by omega, by omega⟩
theorem sizeOf_out {d : Int} {l : List (List Int)} {m n : Int} (h : chk d l m ≠ 0 ∨ n < 0 ∨ n > 4096) : sizeOf d l m n = 0 := if_neg (fun ⟨h1, h2, h3⟩ => by rcases h with h | h | h; exact h h1; omega; omega)
theorem csize_ev (d : Int) (l : List (List Int)) (m n : Int) (hs : Small l) : Ev (fun k => code_Size.f k d l m n) (sizeOf d l m n) := by
 by_cases c1 : n < 0
 ·rw [sizeOf_out (.inr (.inl c1))]
  exact Ev.congr (f := fun _ => some 0) (fun k => by unfold code_Size.f; rw [if_pos c1]) (Ev.now _)
 by_cases c2 : n > 4096
 ·rw [sizeOf_out (.inr (.inr c2))]
  exact Ev.congr (f := fun _ => some 0) (fun k => by unfold code_Size.f; rw [if_neg c1, if_pos c2]) (Ev.now _)
 refine Ev.congr (f := fun k => (code_Check.f k d l m).bind fun t => if t = 0 then (if d = 0 then none else some (wrap64 (Int.tdiv (wrap64 (wrap64 (n + d) - 1)) d))) else some 0) (fun k => by unfold code_Size.f; rw [if_neg c1, if_neg c2]) (Ev.bind (cchk_ev d l m hs) ?_)
 by_cases e : chk d l m = 0
 ·have := chk_ok e
  have h1 := this.d1; have h2 := this.d2
  rw [sizeOf_in e c1 c2]
  simp only [e, if_true, if_neg (show ¬ d = 0 by omega), size_num h1 h2 (show 0 ≤ n by omega) (show n ≤ 4096 by omega)]
  exact Ev.now _
 ·rw [sizeOf_out (.inl e)]
  simp only [e, if_false]
  exact Ev.now _
end Go.Proofs.YtkadfidmfnpohaaDoor.XB

namespace Go.Proofs.YtkadfidmfnpohaaDoor.XB
open Go.RowKit Go.Proofs.YtkadfidmfnpohaaDoorW.PrintWords Go.Proofs.YtkadfidmfnpohaaDoorW.PrintLast Go.Proofs.YtkadfidmfnpohaaDoorW.PrintMore
set_option linter.unusedVariables false
set_option linter.unusedSimpArgs false
theorem bt_get (l : List Int) (h : ∀ x ∈ l, isB x = true) (i : Nat) (hi : i < l.length) : bt (strOfNums l) (i : Int) = l[i] := by
 have hx := isB_iff.1 (h _ (List.getElem_mem hi))
 have hs : (i : Int).toNat < (strOfNums l).size := by rw [strOfNums_size]; simpa using hi
 unfold bt
 rw [dif_pos hs]
 have e : (strOfNums l)[(i : Int).toNat]'hs = UInt8.ofNat (l[i]).toNat := by
  simp [strOfNums, ByteArray.getElem_eq_getElem_data]
 rw [e, UInt8.toNat_ofNat', Nat.mod_eq_of_lt (by omega)]
 omega
theorem bt_out (s : ByteArray) (i : Nat) (h : s.size ≤ i) : bt s (i : Int) = 0 := by
 unfold bt
 rw [dif_neg (by simpa using h)]
/-! the reference's product -/
/-! powers of 2 -/
/-! a row of the reference -/
def elAt (D : Nat) (l : List (List Int)) (t i : Nat) : Int := if t < D then unitAt t i else if t < D + l.length then setAt (setOf (rd_L1 l ((t - D : Nat) : Int))) i else expAt (t - D - l.length) i
def rowAt (D : Nat) (l : List (List Int)) (t : Nat) : List Int := (List.range D).map (elAt D l t)
/-! all rows -/
theorem rowsOf_eq (D : Nat) (l : List (List Int)) (M : Nat) : rowsOf D l M = (List.range (D + l.length + M)).map (rowAt D l) := by
 unfold rowsOf unitRows groupRows expRows
 rw [List.take_length]
 apply List.ext_getElem?
 intro i
 by_cases c1 : i < D
 ·rw [List.append_assoc, List.getElem?_append_left (by simpa using c1), List.getElem?_map, List.getElem?_map, List.getElem?_range c1, List.getElem?_range (by omega)]
  simp only [Option.map_some]
  congr 1
  unfold unitRow rowAt
  apply List.map_congr_left
  intro j _
  unfold elAt
  rw [if_pos c1]
 ·by_cases c2 : i < D + l.length
  ·rw [List.append_assoc, List.getElem?_append_right (by simp; omega), List.getElem?_append_left (by simp; omega), List.getElem?_map, List.getElem?_map, List.getElem?_range (by omega)]
   simp only [List.length_map, List.length_range, Option.map_some]
   rw [List.getElem?_eq_getElem (by omega)]
   simp only [Option.map_some]
   congr 1
   unfold groupRow rowAt
   apply List.map_congr_left
   intro j _
   unfold elAt
   rw [if_neg c1, if_pos c2]
   have : rd_L1 l ((i - D : Nat) : Int) = l[i - D]'(by omega) := by simp [rd_L1, List.getD_eq_getElem?_getD, List.getElem?_eq_getElem (show i - D < l.length by omega)]
   rw [this]
  ·have hL : ((List.range D).map (unitRow D) ++ l.map (groupRow D)).length = D + l.length := by simp
   by_cases c3 : i < D + l.length + M
   ·rw [List.getElem?_append_right (by omega), hL, List.getElem?_map, List.getElem?_range (show i - (D + l.length) < M by omega), List.getElem?_map, List.getElem?_range c3]
    simp only [Option.map_some]
    congr 1
    unfold expRow rowAt
    apply List.map_congr_left
    intro j _
    unfold elAt
    rw [if_neg c1, if_neg c2, Nat.sub_add_eq]
   ·rw [List.getElem?_eq_none (by simp; omega), List.getElem?_eq_none (by simp; omega)]
theorem okCode_of {D : Nat} {l : List (List Int)} {M : Nat} (h : CodeOk (D : Int) l (M : Int)) : okCode (D : Int) l (M : Int) = true := by
 have h1 := h.d1; have h2 := h.d2; have h3 := h.m2; have h4 := h.sum; have h5 := h.elems
 simp only [okCode, Bool.and_eq_true, decide_eq_true_eq, List.all_eq_true]
 refine ⟨⟨⟨⟨⟨h1, h2⟩, by omega⟩, h3⟩, by omega⟩, fun g hg x hx => ?_⟩
 obtain ⟨t, ht, rfl⟩ := List.mem_iff_getElem.1 hg
 have e : rd_L1 l (t : Nat) = l[t] := by simp [rd_L1, List.getD_eq_getElem?_getD, List.getElem?_eq_getElem ht]
 have := h5 t ht x (by rw [e]; exact hx)
 omega
theorem CodeOk.nats {d : Int} {l : List (List Int)} {m : Int} (h : CodeOk d l m) : ∃ D M : Nat, d = D ∧ m = M := by
 have h1 := h.d1; have h3 := h.m1
 exact ⟨d.toNat, m.toNat, by omega, by omega⟩
/-- The rows of a code; none with an error. -/
def rowsFor (d : Int) (l : List (List Int)) (m : Int) : List (List Int) := if chk d l m = 0 then rowsOf d.toNat l m.toNat else []
theorem crows_ev (d : Int) (l : List (List Int)) (m : Int) (hs : Small l) : Ev (fun k => code_Rows.f k d l m) (rowsFor d l m, chk d l m) := by
 unfold rowsFor
 refine Ev.congr (f := fun k => (code_Check.f k d l m).bind fun e => if e = 0 then (if okCode d l m = true then some (rowsOf d.toNat l m.toNat, 0) else none) else some ([], e)) (fun k => rfl) (Ev.bind (cchk_ev d l m hs) ?_)
 by_cases e : chk d l m = 0
 ·have hok := chk_ok e
  obtain ⟨D, M, rfl, rfl⟩ := hok.nats
  simp only [e, if_true, okCode_of hok]
  exact Ev.now _
 ·simp only [e, if_false]
  exact Ev.now _
end Go.Proofs.YtkadfidmfnpohaaDoor.XB

namespace Go.Proofs.YtkadfidmfnpohaaDoor.XB
open Go.RowKit Go.Proofs.YtkadfidmfnpohaaDoorW.PrintWords Go.Proofs.YtkadfidmfnpohaaDoorW.PrintLast Go.Proofs.YtkadfidmfnpohaaDoorW.PrintMore
set_option linter.unusedVariables false
set_option linter.unusedSimpArgs false
/-! Scale and Sum of the reference -/
/-! Combine of the reference -/
theorem all_map_isB {n : Nat} {f : Nat → Int} (h : ∀ i, i < n → isB (f i) = true) : ∀ x ∈ (List.range n).map f, isB x = true := by
 intro x hx
 obtain ⟨i, hi, rfl⟩ := List.mem_map.1 hx
 exact h i (List.mem_range.1 hi)
theorem bt_map {n : Nat} {f : Nat → Int} (h : ∀ i, i < n → isB (f i) = true) (i : Nat) (hi : i < n) : bt (strOfNums ((List.range n).map f)) (i : Int) = f i := by
 rw [bt_get _ (all_map_isB h) i (by simpa using hi)]
 simp
theorem ixor_zero {x : Int} (h : isB x = true) : ixor 0 x = x := by
 rw [isB_iff] at h
 unfold ixor
 rw [Int.toNat_zero, Nat.zero_xor]
 omega
theorem ccomb_eq (coef : List Int) (parts : List ByteArray) (n : Nat) (hn : n ≤ 1000000) (hl : coef.length = parts.length) (h0 : 0 < parts.length) (hc : coef.all isB = true) (hp : ∀ i : Nat, i < parts.length → (rdOf ByteArray.empty parts (i : Int)).size = n) :
  gf_Combine.f coef parts = some (combBytes coef parts n, 0) := by
 have hs : partSize parts = n := by
  have := hp 0 h0
  cases parts with
  | nil => simp at h0
  | cons a l => exact this
 unfold gf_Combine.f
 rw [if_pos hl, hs, if_pos ⟨hc, by omega⟩, if_pos (sameSize_iff.2 hp)]
/-! parts -/
theorem partOf_size (s : ByteArray) (size i : Nat) : (partOf s size i).size = size := by unfold partOf; rw [strOfNums_size]; simp
theorem partsOf_length (s : ByteArray) (size n : Nat) : (partsOf s size n).length = n := by simp [partsOf]
theorem partsOf_get (s : ByteArray) (size n i : Nat) (h : i < n) : rdOf ByteArray.empty (partsOf s size n) (i : Int) = partOf s size i := by
 simp [rdOf, partsOf, List.getD_eq_getElem?_getD, h]
theorem rowAt_length (D : Nat) (l : List (List Int)) (t : Nat) : (rowAt D l t).length = D := by simp [rowAt]
theorem elAt_isB (D : Nat) (l : List (List Int)) (t i : Nat) : isB (elAt D l t i) = true := by
 unfold elAt
 split
 ·unfold unitAt; split <;> decide
 ·split
  ·unfold setAt; exact isB_nat (by omega)
  ·unfold expAt; exact isB_nat (QGF.xtp_lt (by decide) _)
theorem rowAt_isB (D : Nat) (l : List (List Int)) (t : Nat) : (rowAt D l t).all isB = true := by
 rw [List.all_eq_true]
 exact all_map_isB (fun i _ => elAt_isB D l t i)
/-- The pieces of a chunk. -/
def piecesFor (D : Nat) (l : List (List Int)) (M : Nat) (s : ByteArray) : List ByteArray := (rowsOf D l M).map fun r => combBytes r (partsOf s (((s.size : Int) + D - 1) / D).toNat D) (((s.size : Int) + D - 1) / D).toNat
def encFor (d : Int) (l : List (List Int)) (m : Int) (s : ByteArray) : List ByteArray × Int := if chk d l m = 0 then (if s.size ≤ 4096 then (piecesFor d.toNat l m.toNat s, 0) else ([], 2)) else ([], chk d l m)
theorem size_le {D n : Nat} (h1 : 1 ≤ D) (h2 : n ≤ 4096) : (((n : Int) + D - 1) / D).toNat ≤ 4096 ∧ n ≤ D * (((n : Int) + D - 1) / D).toNat ∧ 0 ≤ ((n : Int) + D - 1) / D := by
 have e : ((n : Int) + D - 1) / D = (((n + D - 1) / D : Nat) : Int) := by
  rw [show (n : Int) + D - 1 = ((n + D - 1 : Nat) : Int) by omega]
  exact (Int.natCast_ediv _ _).symm
 rw [e, Int.toNat_natCast]
 refine ⟨?_, ?_, Int.natCast_nonneg _⟩
 ·rw [Nat.div_le_iff_le_mul_add_pred h1]
  have : D * 4096 ≥ 4096 * 1 := by rw [Nat.mul_comm]; exact Nat.mul_le_mul_left _ h1
  have h3 : 4096 * D ≥ 4096 + (D - 1) * 4096 := by
   obtain ⟨k, rfl⟩ : ∃ k, D = k + 1 := ⟨D - 1, by omega⟩
   simp; omega
  rw [Nat.mul_comm] at h3
  omega
 ·have := Nat.div_add_mod (n + D - 1) D
  have h3 := Nat.mod_lt (n + D - 1) (show 0 < D by omega)
  omega
theorem combRows_eq (parts : List ByteArray) (n : Nat) : ∀ rows : List (List Int), (∀ r ∈ rows, gf_Combine.f r parts = some (combBytes r parts n, 0)) → combRows parts rows = some (rows.map fun r => combBytes r parts n)
 | [], _ => rfl
 | r :: rows, h => by
  unfold combRows
  rw [h r (List.mem_cons_self), combRows_eq parts n rows (fun x hx => h x (List.mem_cons_of_mem _ hx))]
  rfl
theorem cenc_ev (d : Int) (l : List (List Int)) (m : Int) (s : ByteArray) (hs : Small l) (hb : s.size ≤ 140737488351232) : Ev (fun k => code_Encode.f k d l m s) (encFor d l m s) := by
 unfold encFor
 refine Ev.congr (f := fun k => (code_Rows.f k d l m).bind fun r => if r.2 = 0 then (if (s.size : Int) > 4096 then some ([], 2) else (code_Size.f k d l m (s.size : Int)).bind fun size => if 0 ≤ d ∧ 0 ≤ size then encodeWith d.toNat size.toNat r.1 s else none) else some ([], r.2)) (fun k => rfl) (Ev.bind (crows_ev d l m hs) ?_)
 by_cases e : chk d l m = 0
 ·have hok := chk_ok e
  obtain ⟨D, M, rfl, rfl⟩ := hok.nats
  have h1 := hok.d1; have h2 := hok.d2; have h4 := hok.sum
  simp only [e, if_true, rowsFor]
  by_cases c : s.size ≤ 4096
  ·rw [if_pos c]
   simp only [show ¬ ((s.size : Int) > 4096) by omega, if_false]
   refine Ev.bind (csize_ev (D : Int) l (M : Int) (s.size : Int) hs) ?_
   rw [sizeOf_in e (by omega) (by omega)]
   obtain ⟨z1, z2, z3⟩ := size_le (D := D) (n := s.size) (by omega) c
   simp only [show (0 : Int) ≤ (D : Int) ∧ 0 ≤ ((s.size : Int) + D - 1) / D from ⟨by omega, z3⟩, if_true]
   rw [Int.toNat_natCast, Int.toNat_natCast]
   have hrl : (rowsOf D l M).length ≤ 100 := by rw [rowsOf_eq]; simp; omega
   have hew : encodeWith D (((s.size : Int) + D - 1) / D).toNat (rowsOf D l M) s = some (piecesFor D l M s, 0) := by
    unfold encodeWith piecesFor
    rw [if_pos ⟨by omega, z2, z1, hrl⟩, combRows_eq _ (((s.size : Int) + D - 1) / D).toNat]
    ·rfl
    ·intro r hr
     rw [rowsOf_eq] at hr
     obtain ⟨t, _, rfl⟩ := List.mem_map.1 hr
     refine ccomb_eq _ _ _ (by omega) (by rw [rowAt_length, partsOf_length]) (by rw [partsOf_length]; omega) (rowAt_isB D l t) (fun i hi => ?_)
     rw [partsOf_length] at hi
     rw [partsOf_get _ _ _ _ hi, partOf_size]
   simp only [hew]
   exact Ev.now _
  ·rw [if_neg c]
   simp only [show ((s.size : Int) > 4096) by omega, if_true]
   exact Ev.now _
 ·simp only [e, if_false]
  exact Ev.now _
/-! the same lists -/
/-! the law -/
end Go.Proofs.YtkadfidmfnpohaaDoor.XB

namespace Go.Proofs.YtkadfidmfnpohaaDoor.XB
open Go.RowKit Go.Proofs.YtkadfidmfnpohaaDoorW.PrintWords Go.Proofs.YtkadfidmfnpohaaDoorW.PrintLast Go.Proofs.YtkadfidmfnpohaaDoorW.PrintMore
set_option linter.unusedVariables false
set_option linter.unusedSimpArgs false
theorem isB_ex {a : Int} (h : isB a = true) : ∃ m : Nat, a = (m : Int) ∧ m < 256 := by
  rw [isB_iff] at h
  exact ⟨a.toNat, by omega, by omega⟩
theorem ixor_comm (a b : Int) : ixor a b = ixor b a := by unfold ixor; rw [Nat.xor_comm]
theorem ixor_assoc (a b c : Int) : ixor (ixor a b) c = ixor a (ixor b c) := by unfold ixor; rw [Int.toNat_natCast, Int.toNat_natCast, Nat.xor_assoc]
theorem ixor_self (a : Int) : ixor a a = 0 := by unfold ixor; rw [Nat.xor_self]; rfl
theorem ixor_zero_right {a : Int} (h : isB a = true) : ixor a 0 = a := by rw [ixor_comm]; exact ixor_zero h
theorem ixor_four (a b c d : Int) : ixor (ixor a b) (ixor c d) = ixor (ixor a c) (ixor b d) := by
  rw [ixor_assoc, ixor_assoc, ← ixor_assoc b c d, ixor_comm b c, ixor_assoc c b d]
theorem ixor_eq_zero {a b : Int} (ha : isB a = true) (hb : isB b = true) (h : ixor a b = 0) : a = b := by
  have : ixor (ixor a b) b = b := by rw [h, ixor_zero hb]
  rw [ixor_assoc, ixor_self, ixor_zero_right ha] at this
  exact this
theorem imul_zero_right (a : Int) : imul a 0 = 0 := by unfold imul; rw [Int.toNat_zero, QGF.mul_zero]; rfl
theorem imul_zero_left {a : Int} (h : isB a = true) : imul 0 a = 0 := by
  obtain ⟨m, rfl, hm⟩ := isB_ex h
  unfold imul; rw [Int.toNat_zero, Int.toNat_natCast, QGF.zero_mul hm]; rfl
theorem imul_one_left {a : Int} (h : isB a = true) : imul 1 a = a := by
  obtain ⟨m, rfl, hm⟩ := isB_ex h
  show ((QGF.mulN 1 m : Nat) : Int) = _
  rw [QGF.one_mul hm]
theorem imul_comm {a b : Int} (ha : isB a = true) (hb : isB b = true) : imul a b = imul b a := by
  obtain ⟨m, rfl, hm⟩ := isB_ex ha
  obtain ⟨n, rfl, hn⟩ := isB_ex hb
  show ((QGF.mulN m n : Nat) : Int) = ((QGF.mulN n m : Nat) : Int)
  rw [QGF.mul_comm hm hn]
theorem imul_assoc {a b c : Int} (ha : isB a = true) (hb : isB b = true) (hc : isB c = true) : imul (imul a b) c = imul a (imul b c) := by
  obtain ⟨m, rfl, hm⟩ := isB_ex ha
  obtain ⟨n, rfl, hn⟩ := isB_ex hb
  obtain ⟨o, rfl, ho⟩ := isB_ex hc
  show ((QGF.mulN (QGF.mulN m n) o : Nat) : Int) = ((QGF.mulN m (QGF.mulN n o) : Nat) : Int)
  rw [QGF.mul_assoc hm hn ho]
theorem imul_xor (a b c : Int) : imul a (ixor b c) = ixor (imul a b) (imul a c) := by
  show ((QGF.mulN a.toNat (b.toNat ^^^ c.toNat) : Nat) : Int) = ((QGF.mulN a.toNat b.toNat ^^^ QGF.mulN a.toNat c.toNat : Nat) : Int)
  rw [QGF.mul_xor]
theorem xor_imul {a b c : Int} (ha : isB a = true) (hb : isB b = true) (hc : isB c = true) : imul (ixor a b) c = ixor (imul a c) (imul b c) := by
  rw [imul_comm (isB_xor ha hb) hc, imul_xor, imul_comm hc ha, imul_comm hc hb]
theorem imul_eq_zero {a b : Int} (ha : isB a = true) (hb : isB b = true) (h : imul a b = 0) : a = 0 ∨ b = 0 := by
  obtain ⟨m, rfl, hm⟩ := isB_ex ha
  obtain ⟨n, rfl, hn⟩ := isB_ex hb
  have h : ((QGF.mulN m n : Nat) : Int) = 0 := h
  rcases QGF.mul_eq_zero hm hn (by omega) with e | e
  · exact .inl (by omega)
  · exact .inr (by omega)
theorem imul_inv {a : Int} (ha : isB a = true) (h0 : a ≠ 0) : imul (iinv a) a = 1 := by
  obtain ⟨m, rfl, hm⟩ := isB_ex ha
  show ((QGF.mulN (QGF.invN m) m : Nat) : Int) = 1
  rw [QGF.mul_comm QGF.inv_lt hm, QGF.mul_inv hm (by omega)]
  rfl
/-! rows and vectors -/
abbrev Vec := Nat → Int
def IsV (x : Vec) : Prop := ∀ i, isB (x i) = true
def dotU (r : List Int) (x : Vec) : Nat → Int
  | 0 => 0
  | i + 1 => ixor (dotU r x i) (imul (rd r (i : Int)) (x i))
def RowB (w : Nat) (r : List Int) : Prop := r.all isB = true ∧ r.length = w
theorem RowB.at {w : Nat} {r : List Int} (h : RowB w r) {i : Nat} (hi : i < w) : isB (rd r (i : Int)) = true := isB_rd h.1 i (by rw [h.2]; exact hi)
theorem dotU_isB {w : Nat} {r : List Int} {x : Vec} (hr : RowB w r) : ∀ i, i ≤ w → isB (dotU r x i) = true
  | 0, _ => rfl
  | i + 1, h => isB_xor (dotU_isB hr i (by omega)) (isB_mul _ (hr.at (by omega)))
theorem gcomb_dot (coef : List Int) (parts : List ByteArray) (k : Nat) : ∀ i, gcomb coef parts k i = dotU coef (fun j => bt (rdOf ByteArray.empty parts (j : Int)) (k : Int)) i
  | 0 => rfl
  | i + 1 => by show ixor (gcomb coef parts k i) _ = _; rw [gcomb_dot coef parts k i]; rfl
theorem dotU_congr {r : List Int} {x y : Vec} : ∀ i, (∀ j, j < i → x j = y j) → dotU r x i = dotU r y i
  | 0, _ => rfl
  | i + 1, h => by
    show ixor (dotU r x i) _ = ixor (dotU r y i) _
    rw [dotU_congr i (fun j hj => h j (by omega)), h i (Nat.lt_succ_self i)]
theorem dotU_sub {w : Nat} {f : Int} {x r : List Int} {v : Vec} (hf : isB f = true) (hr : RowB w r) (hx : RowB w x) (hv : IsV v) : ∀ i, i ≤ w → dotU (subRow f x r) v i = ixor (dotU r v i) (imul f (dotU x v i))
  | 0, _ => by show (0 : Int) = ixor 0 (imul f 0); rw [imul_zero_right]; rfl
  | i + 1, h => by
    have e : rd (subRow f x r) (i : Int) = ixor (rd r (i : Int)) (imul f (rd x (i : Int))) := by
      have hl : i < (subRow f x r).length := by rw [subRow_length, hr.2]; omega
      rw [rdi hl]
      simp [subRow]
    show ixor (dotU (subRow f x r) v i) (imul (rd (subRow f x r) (i : Int)) (v i)) = ixor (ixor (dotU r v i) (imul (rd r (i : Int)) (v i))) (imul f (ixor (dotU x v i) (imul (rd x (i : Int)) (v i))))
    rw [dotU_sub hf hr hx hv i (by omega), e, xor_imul (hr.at (by omega)) (isB_mul _ hf) (hv i), imul_xor, imul_assoc hf (hx.at (by omega)) (hv i), ixor_four]
theorem dotU_mul {w : Nat} {c : Int} {r : List Int} {v : Vec} (hc : isB c = true) (hr : RowB w r) (hv : IsV v) : ∀ i, i ≤ w → dotU (mulRow c r) v i = imul c (dotU r v i)
  | 0, _ => by show (0 : Int) = imul c 0; rw [imul_zero_right]
  | i + 1, h => by
    have e : rd (mulRow c r) (i : Int) = imul c (rd r (i : Int)) := by
      have hl : i < (mulRow c r).length := by rw [mulRow_length, hr.2]; omega
      rw [rdi hl]
      simp [mulRow]
    show ixor (dotU (mulRow c r) v i) (imul (rd (mulRow c r) (i : Int)) (v i)) = imul c (ixor (dotU r v i) (imul (rd r (i : Int)) (v i)))
    rw [dotU_mul hc hr hv i (by omega), e, imul_xor, imul_assoc hc (hr.at (by omega)) (hv i)]
theorem dotU_add {w : Nat} {r : List Int} {u v : Vec} (hr : RowB w r) : ∀ i, i ≤ w → dotU r (fun j => ixor (u j) (v j)) i = ixor (dotU r u i) (dotU r v i)
  | 0, _ => (by show (0 : Int) = ixor 0 0; rfl)
  | i + 1, h => by
    show ixor (dotU r _ i) (imul (rd r (i : Int)) (ixor (u i) (v i))) = ixor (ixor (dotU r u i) (imul (rd r (i : Int)) (u i))) (ixor (dotU r v i) (imul (rd r (i : Int)) (v i)))
    rw [dotU_add hr i (by omega), imul_xor, ixor_four]
/-- What leads: all before it is 0. -/
theorem fst_zero (r : List Int) {i : Nat} (h : i < fstIdx r) : rd r (i : Int) = 0 := by
  have hl : i < r.length := Nat.lt_of_lt_of_le h (fstIdx_le r)
  rw [rdi hl]
  have := List.not_of_lt_findIdx h
  simpa using this
theorem fst_ne (r : List Int) (h : fstIdx r < r.length) : rd r ((fstIdx r : Nat) : Int) ≠ 0 := by
  rw [rdi h]
  have := List.findIdx_getElem (w := h) (p := fun x => x != 0) (xs := r)
  intro e
  have h2 : (r[fstIdx r] != 0) = true := this
  rw [e] at h2
  cases h2
theorem fst_of {r : List Int} {p : Nat} (hp : p < r.length) (h0 : ∀ i, i < p → rd r (i : Int) = 0) (h1 : rd r (p : Int) ≠ 0) : fstIdx r = p := by
  rcases Nat.lt_trichotomy (fstIdx r) p with h | h | h
  · exact absurd (h0 _ h) (fst_ne r (by omega))
  · exact h
  · exact absurd (fst_zero r h) h1
theorem dotU_below {w : Nat} {r : List Int} {v : Vec} (hr : RowB w r) (hv : IsV v) {p : Nat} (h0 : ∀ i, i < p → rd r (i : Int) = 0) : ∀ i, i ≤ p → dotU r v i = 0
  | 0, _ => rfl
  | i + 1, h => by
    show ixor (dotU r v i) _ = 0
    rw [dotU_below hr hv h0 i (by omega), h0 i (by omega), imul_zero_left (hv i)]
    rfl
theorem dotU_zeros {r : List Int} {v : Vec} {p : Nat} : ∀ i, p ≤ i → (∀ j, p ≤ j → j < i → v j = 0) → isB (dotU r v p) = true → dotU r v i = dotU r v p
  | 0, h, _, _ => by obtain rfl : p = 0 := by omega
                     rfl
  | i + 1, h, hz, hb => by
    by_cases e : p = i + 1
    · rw [e]
    · have ih := dotU_zeros i (by omega) (fun j h1 h2 => hz j h1 (by omega)) hb
      show ixor (dotU r v i) (imul _ (v i)) = _
      rw [ih, hz i (by omega) (by omega), imul_zero_right, ixor_zero_right hb]
/-- Rows that lead at different places. -/
structure Leads (w : Nat) (S : List (List Int)) : Prop where
  rows : ∀ r ∈ S, RowB w r ∧ fstIdx r < w
  apart : (S.map fstIdx).Nodup
def Ker (w : Nat) (S : List (List Int)) (v : Vec) : Prop := ∀ r ∈ S, dotU r v w = 0
/-- Only 0 is sent to 0 by all rows. -/
def Full (w : Nat) (S : List (List Int)) : Prop := ∀ v, IsV v → Ker w S v → ∀ i, i < w → v i = 0
theorem nodup_sub {α : Type} [DecidableEq α] : ∀ (a l : List α), a.Nodup → (∀ x ∈ a, x ∈ l) → a.length ≤ l.length
  | [], _, _, _ => Nat.zero_le _
  | x :: a, l, hn, hs => by
    have hn := List.nodup_cons.1 hn
    have hx := hs x List.mem_cons_self
    have := nodup_sub a (l.erase x) hn.2 (fun y hy => (List.mem_erase_of_ne (fun (e : y = x) => hn.1 (e ▸ hy))).2 (hs y (List.mem_cons_of_mem _ hy)))
    rw [List.length_erase_of_mem hx] at this
    have hp := List.length_pos_of_mem hx
    simp only [List.length_cons]
    omega
theorem nodup_inj {α β : Type} {f : α → β} : ∀ {S : List α}, (S.map f).Nodup → ∀ a ∈ S, ∀ b ∈ S, f a = f b → a = b
  | [], _, a, ha, _, _, _ => by cases ha
  | x :: S, hn, a, ha, b, hb, e => by
    rw [List.map_cons] at hn
    have hn := List.nodup_cons.1 hn
    rcases List.mem_cons.1 ha with h1 | h1
    · rcases List.mem_cons.1 hb with h2 | h2
      · rw [h1, h2]
      · exact absurd (h1 ▸ e ▸ List.mem_map_of_mem h2) hn.1
    · rcases List.mem_cons.1 hb with h2 | h2
      · exact absurd (h2 ▸ e ▸ List.mem_map_of_mem h1) hn.1
      · exact nodup_inj hn.2 a h1 b h2 e
theorem Leads.all {w : Nat} {S : List (List Int)} (h : Leads w S) (hl : S.length = w) {p : Nat} (hp : p < w) : ∃ r ∈ S, fstIdx r = p := by
  by_cases hm : p ∈ S.map fstIdx
  · obtain ⟨r, hr, e⟩ := List.mem_map.1 hm
    exact ⟨r, hr, e⟩
  · have := nodup_sub (p :: S.map fstIdx) (List.range w) (List.nodup_cons.2 ⟨hm, h.apart⟩) (fun q hq => by
      rcases List.mem_cons.1 hq with rfl | hq
      · exact List.mem_range.2 hp
      · obtain ⟨r, hr, rfl⟩ := List.mem_map.1 hq
        exact List.mem_range.2 (h.rows r hr).2)
    simp [hl] at this
    omega
theorem Leads.missing {w : Nat} {S : List (List Int)} (h : Leads w S) (hl : S.length < w) : ∃ p, p < w ∧ ∀ r ∈ S, fstIdx r ≠ p := by
  by_cases hc : ∃ p, p < w ∧ p ∉ S.map fstIdx
  · obtain ⟨p, hp, hn⟩ := hc
    exact ⟨p, hp, fun r hr e => hn (List.mem_map.2 ⟨r, hr, e⟩)⟩
  · have := nodup_sub (List.range w) (S.map fstIdx) List.nodup_range (fun p hp => by
      by_cases h3 : p ∈ S.map fstIdx
      · exact h3
      · exact absurd ⟨p, List.mem_range.1 hp, h3⟩ hc)
    simp at this
    omega
theorem Leads.full {w : Nat} {S : List (List Int)} (h : Leads w S) (hl : S.length = w) : Full w S := by
  intro v hv hk
  have key : ∀ n, n ≤ w → ∀ i, w - n ≤ i → i < w → v i = 0 := by
    intro n
    induction n with
    | zero => intro _ i h1 h2; omega
    | succ n ih =>
      intro hn i h1 h2
      by_cases e : i = w - (n + 1)
      · obtain ⟨r, hr, he⟩ := h.all hl h2
        obtain ⟨hb, hf⟩ := h.rows r hr
        have h3 := hk r hr
        have h4 := dotU_zeros (r := r) (v := v) (p := i + 1) w (by omega) (fun j h5 h6 => ih (by omega) j (by omega) h6) (dotU_isB hb (i + 1) (by omega))
        rw [h3] at h4
        have h5 : dotU r v (i + 1) = ixor (dotU r v i) (imul (rd r (i : Int)) (v i)) := rfl
        rw [dotU_below hb hv (p := i) (fun j hj => fst_zero r (by omega)) i (Nat.le_refl _), ixor_zero (isB_mul _ (hb.at h2)), ← h4] at h5
        rcases imul_eq_zero (hb.at h2) (hv i) h5.symm with h6 | h6
        · exact absurd h6 (by have := fst_ne r (by rw [hb.2]; omega); rw [he] at this; exact this)
        · exact h6
      · exact ih (by omega) i (by omega) h2
  exact fun i hi => key w (Nat.le_refl _) i (by omega) hi
/-- What is sent to 0 by rows that leave a place free. -/
theorem Leads.free {w : Nat} {S : List (List Int)} (h : Leads w S) {p : Nat} (hp : p < w) (hfree : ∀ r ∈ S, fstIdx r ≠ p) : ∃ v, IsV v ∧ Ker w S v ∧ v p = 1 := by
  -- from the last place down: the places from w - n on are told so that all rows that lead there are met
  have key : ∀ n, n ≤ w → ∃ v : Vec, IsV v ∧ (∀ r ∈ S, w - n ≤ fstIdx r → dotU r v w = 0) ∧ (w - n ≤ p → v p = 1) ∧ (∀ i, i < w - n → v i = 0) := by
    intro n
    induction n with
    | zero => exact fun _ => ⟨fun _ => 0, fun _ => rfl, fun r hr h1 => by have := (h.rows r hr).2; omega, fun h1 => by omega, fun _ _ => rfl⟩
    | succ n ih =>
      intro hn
      obtain ⟨v, hv, hk, h1, h0⟩ := ih (by omega)
      obtain ⟨q, hq⟩ : ∃ q, q = w - (n + 1) := ⟨_, rfl⟩
      have hqw : q < w := by omega
      -- the value at q
      have main : ∃ c : Int, isB c = true ∧ (q = p → c = 1) ∧ ∀ r ∈ S, fstIdx r = q → ixor (dotU r v w) (imul (rd r (q : Int)) c) = 0 := by
        by_cases e : q = p
        · exact ⟨1, rfl, fun _ => rfl, fun r hr he => absurd (he.trans e) (hfree r hr)⟩
        · by_cases hx : ∃ r ∈ S, fstIdx r = q
          · obtain ⟨r, hr, he⟩ := hx
            obtain ⟨hb, hf⟩ := h.rows r hr
            have hbq := hb.at hqw
            have hne : rd r (q : Int) ≠ 0 := by have := fst_ne r (by rw [hb.2]; omega); rwa [he] at this
            have hd := dotU_isB (x := v) hb w (Nat.le_refl _)
            refine ⟨imul (iinv (rd r (q : Int))) (dotU r v w), isB_mul _ (isB_inv _), fun h => absurd h e, fun r' hr' he' => ?_⟩
            have : r' = r := nodup_inj h.apart r' hr' r hr (he'.trans he.symm)
            subst this
            rw [← imul_assoc hbq (isB_inv _) hd, imul_comm hbq (isB_inv _), imul_inv hbq hne, imul_one_left hd, ixor_self]
          · exact ⟨0, rfl, fun h => absurd h e, fun r hr he => absurd ⟨r, hr, he⟩ hx⟩
      obtain ⟨c, hc, hcp, hcr⟩ := main
      have hadd : ∀ r ∈ S, q ≤ fstIdx r ∨ True → dotU r (fun i => if i = q then c else v i) w = ixor (dotU r v w) (imul (rd r (q : Int)) c) := by
        intro r hr _
        obtain ⟨hb, _⟩ := h.rows r hr
        have he : dotU r (fun i => if i = q then c else v i) w = dotU r (fun i => ixor (v i) (if i = q then c else 0)) w := dotU_congr w (fun j hj => by
          by_cases e : j = q
          · subst e; rw [if_pos rfl, if_pos rfl, h0 j (by omega), ixor_zero hc]
          · rw [if_neg e, if_neg e, ixor_zero_right (hv j)])
        rw [he, dotU_add hb w (Nat.le_refl _)]
        congr 1
        have hone : ∀ i, i ≤ w → dotU r (fun i => if i = q then c else 0) i = if q < i then imul (rd r (q : Int)) c else 0 := by
          intro i
          induction i with
          | zero => intro _; rw [if_neg (by omega)]; rfl
          | succ i ih2 =>
            intro hi
            show ixor (dotU r _ i) (imul (rd r (i : Int)) (if i = q then c else 0)) = _
            rw [ih2 (by omega)]
            by_cases e : i = q
            · subst e
              rw [if_neg (by omega), if_pos rfl, if_pos (by omega), ixor_zero (isB_mul _ (hb.at (by omega)))]
            · rw [if_neg e, imul_zero_right]
              by_cases e2 : q < i
              · rw [if_pos e2, if_pos (by omega), ixor_zero_right (isB_mul _ (hb.at hqw))]
              · rw [if_neg e2, if_neg (by omega)]; rfl
        rw [hone w (Nat.le_refl _), if_pos hqw]
      refine ⟨fun i => if i = q then c else v i, fun i => ?_, fun r hr hle => ?_, fun hle => ?_, fun i hi => ?_⟩
      · by_cases e : i = q
        · simp only [e, if_true]; exact hc
        · simp only [e, if_false]; exact hv i
      · rw [hadd r hr (.inr trivial)]
        by_cases e : fstIdx r = q
        · exact hcr r hr e
        · have hz : rd r (q : Int) = 0 := fst_zero r (by omega)
          rw [hk r hr (by omega), hz, imul_zero_left hc]
          rfl
      · by_cases e : p = q
        · simp only [e, if_true]; exact hcp e.symm
        · simp only [e, if_false]; exact h1 (by omega)
      · have e : i ≠ q := by omega
        simp only [e, if_false]; exact h0 i (by omega)
  obtain ⟨v, hv, hk, h1, _⟩ := key w (Nat.le_refl _)
  exact ⟨v, hv, fun r hr => hk r hr (by omega), h1 (by omega)⟩
theorem Full.mono {w : Nat} {S T : List (List Int)} (h : Full w S) (hs : ∀ v, IsV v → Ker w T v → Ker w S v) : Full w T := fun v hv hk => h v hv (hs v hv hk)
end Go.Proofs.YtkadfidmfnpohaaDoor.XB

namespace Go.Proofs.YtkadfidmfnpohaaDoor.XB
open Go.RowKit Go.Proofs.YtkadfidmfnpohaaDoorW.PrintWords Go.Proofs.YtkadfidmfnpohaaDoorW.PrintLast Go.Proofs.YtkadfidmfnpohaaDoorW.PrintMore
set_option linter.unusedVariables false
set_option linter.unusedSimpArgs false
def Lead1 (st : St) : Prop := ∀ x ∈ st, rd x.1 ((fstIdx x.1 : Nat) : Int) = 1
def Cleared (st : St) : Prop := st.Pairwise fun a b => rd b.1 ((fstIdx a.1 : Nat) : Int) = 0
theorem redStep_row {w : Nat} {a x : List Int × ByteArray} (ha : RowB w a.1) (hx : RowB w x.1) (hf : fstIdx x.1 < w) : RowB w (redStep a x).1 := by
 unfold redStep
 split
 ·exact ha
 ·exact ⟨all_isB_sub ha.1 (ha.at hf), by rw [subRow_length]; exact ha.2⟩
theorem redStep_dot {w : Nat} {a x : List Int × ByteArray} {v : Vec} (ha : RowB w a.1) (hx : RowB w x.1) (hf : fstIdx x.1 < w) (hv : IsV v) (h0 : dotU x.1 v w = 0) : dotU (redStep a x).1 v w = dotU a.1 v w := by
 unfold redStep
 split
 ·rfl
 ·show dotU (subRow _ x.1 a.1) v w = _
  rw [dotU_sub (ha.at hf) ha hx hv w (Nat.le_refl _), h0, imul_zero_right, ixor_zero_right (dotU_isB ha w (Nat.le_refl _))]
theorem redStep_at {w : Nat} {a x : List Int × ByteArray} (ha : RowB w a.1) (hx : RowB w x.1) (hf : fstIdx x.1 < w) (h1 : rd x.1 ((fstIdx x.1 : Nat) : Int) = 1) :
  rd (redStep a x).1 ((fstIdx x.1 : Nat) : Int) = 0 ∧ ∀ z, z < w → rd x.1 (z : Int) = 0 → rd a.1 (z : Int) = 0 → rd (redStep a x).1 (z : Int) = 0 := by
 unfold redStep
 split
 ·rename_i h; exact ⟨h, fun z _ _ h => h⟩
 ·have key : ∀ z, z < w → rd (subRow (rd a.1 ((fstIdx x.1 : Nat) : Int)) x.1 a.1) (z : Int) = ixor (rd a.1 (z : Int)) (imul (rd a.1 ((fstIdx x.1 : Nat) : Int)) (rd x.1 (z : Int))) := by
   intro z hz
   rw [rdi (by rw [subRow_length, ha.2]; exact hz)]
   simp [subRow]
  refine ⟨?_, fun z hz h2 h3 => ?_⟩
  ·show rd (subRow _ x.1 a.1) _ = 0
   rw [key _ hf, h1, imul_comm (ha.at hf) rfl, imul_one_left (ha.at hf), ixor_self]
  ·show rd (subRow _ x.1 a.1) _ = 0
   rw [key z hz, h2, h3, imul_zero_right]
   rfl
theorem redRow_row {w : Nat} : ∀ {st : St} {a}, (∀ x ∈ st, RowB w x.1 ∧ fstIdx x.1 < w) → RowB w a.1 → RowB w (redRow st a).1
 | [], _, _, ha => ha
 | x :: st, a, h, ha => redRow_row (st := st) (fun y hy => h y (List.mem_cons_of_mem _ hy)) (redStep_row ha (h x List.mem_cons_self).1 (h x List.mem_cons_self).2)
theorem redRow_dot {w : Nat} {v : Vec} (hv : IsV v) : ∀ {st : St} {a}, (∀ x ∈ st, RowB w x.1 ∧ fstIdx x.1 < w) → RowB w a.1 → (∀ x ∈ st, dotU x.1 v w = 0) → dotU (redRow st a).1 v w = dotU a.1 v w
 | [], _, _, _, _ => rfl
 | x :: st, a, h, ha, h0 => by
  have hx := h x List.mem_cons_self
  have e := redRow_dot hv (st := st) (a := redStep a x) (fun y hy => h y (List.mem_cons_of_mem _ hy)) (redStep_row ha hx.1 hx.2) (fun y hy => h0 y (List.mem_cons_of_mem _ hy))
  exact e.trans (redStep_dot ha hx.1 hx.2 hv (h0 x List.mem_cons_self))
theorem redRow_at {w : Nat} : ∀ {st : St} {a} (Z : Nat → Prop), (∀ x ∈ st, RowB w x.1 ∧ fstIdx x.1 < w) → Lead1 st → Cleared st → RowB w a.1 → (∀ z, Z z → z < w ∧ rd a.1 (z : Int) = 0 ∧ ∀ x ∈ st, rd x.1 (z : Int) = 0) →
  (∀ z, Z z → rd (redRow st a).1 (z : Int) = 0) ∧ ∀ x ∈ st, rd (redRow st a).1 ((fstIdx x.1 : Nat) : Int) = 0
 | [], _, _, _, _, _, _, hZ => ⟨fun z hz => (hZ z hz).2.1, fun x hx => by cases hx⟩
 | x :: st, a, Z, h, h1, hc, ha, hZ => by
  have hx := h x List.mem_cons_self
  have hcl := List.pairwise_cons.1 hc
  have hs := redStep_at ha hx.1 hx.2 (h1 x List.mem_cons_self)
  obtain ⟨e1, e2⟩ := redRow_at (st := st) (a := redStep a x) (fun z => Z z ∨ z = fstIdx x.1) (fun y hy => h y (List.mem_cons_of_mem _ hy)) (fun y hy => h1 y (List.mem_cons_of_mem _ hy)) hcl.2 (redStep_row ha hx.1 hx.2) (fun z hz => by
   rcases hz with hz | rfl
   ·obtain ⟨h2, h3, h4⟩ := hZ z hz
    exact ⟨h2, hs.2 z h2 (h4 x List.mem_cons_self) h3, fun y hy => h4 y (List.mem_cons_of_mem _ hy)⟩
   ·exact ⟨hx.2, hs.1, fun y hy => hcl.1 y hy⟩)
  refine ⟨fun z hz => e1 z (.inl hz), fun y hy => ?_⟩
  rcases List.mem_cons.1 hy with rfl | hy
  ·exact e1 _ (.inr rfl)
  ·exact e2 y hy
structure Stairs (w : Nat) (st : St) : Prop where
 rows : ∀ x ∈ st, RowB w x.1 ∧ fstIdx x.1 < w
 apart : (st.map fun x => fstIdx x.1).Nodup
 one : Lead1 st
 clear : Cleared st
theorem Stairs.leads {w : Nat} {st : St} (h : Stairs w st) : Leads w (st.map Prod.fst) :=
 ⟨fun r hr => by obtain ⟨x, hx, rfl⟩ := List.mem_map.1 hr; exact h.rows x hx, by rw [List.map_map]; exact h.apart⟩
theorem Stairs.nil (w : Nat) : Stairs w [] := ⟨fun x hx => (by cases hx), List.nodup_nil, fun x hx => (by cases hx), List.Pairwise.nil⟩
/-- A row more. -/
theorem addSt_some {w : Nat} {st : St} (h : Stairs w st) {row : List Int} {part : ByteArray} (hr : RowB w row) {x} (he : addSt st row part = some x) :
  Stairs w (st ++ [x]) ∧ ∀ v, IsV v → (∀ y ∈ st, dotU y.1 v w = 0) → (dotU x.1 v w = 0 ↔ dotU row v w = 0) := by
 have hB := redRow_row (a := (row, part)) h.rows hr
 have hat := (redRow_at (a := (row, part)) (fun _ => False) h.rows h.one h.clear hr (fun z hz => hz.elim)).2
 have hdot := fun v hv h0 => redRow_dot (v := v) hv (a := (row, part)) h.rows hr h0
 unfold addSt at he
 generalize redRow st (row, part) = rr at *
 obtain ⟨r, q⟩ := rr
 dsimp only at *
 by_cases e : fstIdx r = r.length
 ·rw [if_pos e] at he; cases he
 ·rw [if_neg e] at he
  obtain rfl := (Option.some.inj he).symm
  have hfl : fstIdx r < r.length := by have := fstIdx_le r; omega
  have hfw : fstIdx r < w := by rw [← hB.2]; exact hfl
  have hne := fst_ne r hfl
  have hrf := hB.at hfw
  have hcB : isB (iinv (rd r ((fstIdx r : Nat) : Int))) = true := isB_inv _
  have hget : ∀ z, z < w → rd (mulRow (iinv (rd r ((fstIdx r : Nat) : Int))) r) (z : Int) = imul (iinv (rd r ((fstIdx r : Nat) : Int))) (rd r (z : Int)) := by
   intro z hz
   rw [rdi (by rw [mulRow_length, hB.2]; exact hz)]
   simp [mulRow]
  have hone : rd (mulRow (iinv (rd r ((fstIdx r : Nat) : Int))) r) ((fstIdx r : Nat) : Int) = 1 := by rw [hget _ hfw, imul_inv hrf hne]
  have hfst : fstIdx (mulRow (iinv (rd r ((fstIdx r : Nat) : Int))) r) = fstIdx r := by
   refine fst_of (by rw [mulRow_length]; exact hfl) (fun i hi => ?_) (by rw [hone]; decide)
   rw [hget i (by omega), fst_zero r hi, imul_zero_right]
  have hnew : RowB w (mulRow (iinv (rd r ((fstIdx r : Nat) : Int))) r) := ⟨all_isB_mul hcB, by rw [mulRow_length]; exact hB.2⟩
  refine ⟨⟨fun y hy => ?_, ?_, fun y hy => ?_, ?_⟩, fun v hv h0 => ?_⟩
  ·rcases List.mem_append.1 hy with hy | hy
   ·exact h.rows y hy
   ·obtain rfl := List.mem_singleton.1 hy
    exact ⟨hnew, by dsimp only; rw [hfst]; exact hfw⟩
  ·rw [List.map_append, List.nodup_append]
   refine ⟨h.apart, by simp, fun p hp p' hp' => ?_⟩
   obtain ⟨y, hy, rfl⟩ := List.mem_map.1 hp
   simp only [List.map_cons, List.map_nil, List.mem_singleton] at hp'
   rw [hp', hfst]
   intro hc
   have := hat y hy
   rw [hc] at this
   exact hne this
  ·rcases List.mem_append.1 hy with hy | hy
   ·exact h.one y hy
   ·obtain rfl := List.mem_singleton.1 hy
    dsimp only
    rw [hfst]; exact hone
  ·refine List.pairwise_append.2 ⟨h.clear, List.pairwise_singleton _ _, fun a ha b hb => ?_⟩
   obtain rfl := List.mem_singleton.1 hb
   dsimp only
   rw [hget _ (h.rows a ha).2, hat a ha, imul_zero_right]
  ·dsimp only
   rw [dotU_mul hcB hB hv w (Nat.le_refl _), ← hdot v hv h0]
   constructor
   ·intro hz
    rcases imul_eq_zero hcB (dotU_isB hB w (Nat.le_refl _)) hz with e2 | e2
    ·have := imul_inv hrf hne
     rw [e2, imul_zero_left hrf] at this
     cases this
    ·exact e2
   ·intro hz
    rw [hz, imul_zero_right]
theorem addSt_none {w : Nat} {st : St} (h : Stairs w st) {row : List Int} {part : ByteArray} (hr : RowB w row) (he : addSt st row part = none) :
  ∀ v, IsV v → (∀ y ∈ st, dotU y.1 v w = 0) → dotU row v w = 0 := by
 intro v hv h0
 have hB := redRow_row (a := (row, part)) h.rows hr
 rw [← redRow_dot hv (a := (row, part)) h.rows hr h0]
 unfold addSt at he
 generalize redRow st (row, part) = rr at *
 obtain ⟨r, q⟩ := rr
 dsimp only at *
 by_cases e : fstIdx r = r.length
 ·exact dotU_below hB hv (p := w) (fun i hi => fst_zero r (by rw [e, hB.2]; exact hi)) w (Nat.le_refl _)
 ·rw [if_neg e] at he; cases he
/-! rows of a set of pieces -/
def selRows (rows : List (List Int)) (mask : Nat) : Nat → List (List Int)
 | 0 => []
 | n + 1 => if (mask >>> n) % 2 = 1 then selRows rows mask n ++ [rd_L4 rows (n : Int)] else selRows rows mask n
theorem ker_append {w : Nat} {S T : List (List Int)} {v : Vec} : Ker w (S ++ T) v ↔ Ker w S v ∧ Ker w T v := by
 unfold Ker
 constructor
 ·exact fun h => ⟨fun r hr => h r (List.mem_append_left _ hr), fun r hr => h r (List.mem_append_right _ hr)⟩
 ·rintro ⟨h1, h2⟩ r hr
  rcases List.mem_append.1 hr with hr | hr
  ·exact h1 r hr
  ·exact h2 r hr
theorem ker_map {w : Nat} {st : St} {v : Vec} : Ker w (st.map Prod.fst) v ↔ ∀ y ∈ st, dotU y.1 v w = 0 := by
 unfold Ker
 constructor
 ·exact fun h y hy => h _ (List.mem_map_of_mem hy)
 ·intro h r hr
  obtain ⟨y, hy, rfl⟩ := List.mem_map.1 hr
  exact h y hy
theorem collect_inv {w mask : Nat} {rows : List (List Int)} {pieces : List ByteArray} (hrows : ∀ k : Nat, k < rows.length → RowB w (rd_L4 rows (k : Int))) :
  ∀ n, n ≤ rows.length → Stairs w (collectUpto w mask rows pieces n) ∧ (∀ v, IsV v → Ker w (selRows rows mask n) v → Ker w ((collectUpto w mask rows pieces n).map Prod.fst) v) ∧
   ((collectUpto w mask rows pieces n).length < w → ∀ v, IsV v → Ker w ((collectUpto w mask rows pieces n).map Prod.fst) v → Ker w (selRows rows mask n) v) := by
 intro n
 induction n with
 | zero => intro _; exact ⟨Stairs.nil w, fun v _ h r hr => (by cases hr), fun _ v _ h r hr => (by cases hr)⟩
 | succ n ih =>
  intro hn
  obtain ⟨h1, h2, h3⟩ := ih (by omega)
  have hr := hrows n (by omega)
  simp only [collectUpto, selRows]
  by_cases hb : (mask >>> n) % 2 = 1
  ·rw [if_pos hb]
   by_cases hl : (collectUpto w mask rows pieces n).length < w
   ·rw [if_pos ⟨hb, hl⟩]
    cases he : addSt (collectUpto w mask rows pieces n) (rd_L4 rows (n : Int)) (rdOf ByteArray.empty pieces (n : Int)) with
    | none =>
     have hz := addSt_none h1 hr he
     simp only [Option.toList_none, List.append_nil]
     refine ⟨h1, fun v hv hk => h2 v hv (ker_append.1 hk).1, fun _ v hv hk => ker_append.2 ⟨h3 hl v hv hk, fun r hr2 => ?_⟩⟩
     obtain rfl := List.mem_singleton.1 hr2
     exact hz v hv (ker_map.1 hk)
    | some x =>
     obtain ⟨h4, h5⟩ := addSt_some h1 hr he
     simp only [Option.toList_some]
     refine ⟨h4, fun v hv hk => ?_, fun _ v hv hk => ?_⟩
     ·obtain ⟨k1, k2⟩ := ker_append.1 hk
      have k3 := h2 v hv k1
      rw [List.map_append]
      refine ker_append.2 ⟨k3, fun r hr2 => ?_⟩
      obtain rfl := List.mem_singleton.1 hr2
      exact (h5 v hv (ker_map.1 k3)).2 (k2 _ (List.mem_singleton.2 rfl))
     ·rw [List.map_append] at hk
      obtain ⟨k1, k2⟩ := ker_append.1 hk
      refine ker_append.2 ⟨h3 hl v hv k1, fun r hr2 => ?_⟩
      obtain rfl := List.mem_singleton.1 hr2
      exact (h5 v hv (ker_map.1 k1)).1 (k2 _ (List.mem_singleton.2 rfl))
   ·rw [if_neg (fun h => hl h.2)]
    exact ⟨h1, fun v hv hk => h2 v hv (ker_append.1 hk).1, fun h => absurd h hl⟩
  ·rw [if_neg hb, if_neg (fun h => hb h.1)]
   exact ⟨h1, h2, h3⟩
/-- A set of pieces suffices if only 0 is sent to 0 by its rows. -/
theorem collect_iff {w mask : Nat} {rows : List (List Int)} {pieces : List ByteArray} (hrows : ∀ k : Nat, k < rows.length → RowB w (rd_L4 rows (k : Int))) :
  (collectUpto w mask rows pieces rows.length).length = w ↔ Full w (selRows rows mask rows.length) := by
 obtain ⟨h1, h2, h3⟩ := collect_inv (mask := mask) (pieces := pieces) hrows rows.length (Nat.le_refl _)
 have hle := collectUpto_length w mask rows pieces rows.length
 constructor
 ·intro h
  exact (h1.leads.full (by rw [List.length_map]; exact h)).mono h2
 ·intro hf
  by_cases e : (collectUpto w mask rows pieces rows.length).length = w
  ·exact e
  ·have hlt : (collectUpto w mask rows pieces rows.length).length < w := by omega
   obtain ⟨p, hp, hm⟩ := h1.leads.missing (by rw [List.length_map]; exact hlt)
   obtain ⟨v, hv, hk, hv1⟩ := h1.leads.free hp hm
   have := hf v hv (h3 hlt v hv hk) p hp
   rw [hv1] at this
   cases this
/-! pieces that fit -/
/-- A piece that is the row's combination of what X has at each byte. -/
def Fits (w n : Nat) (X : Nat → Vec) (a : List Int × ByteArray) : Prop := a.2.size = n ∧ ∀ b, b < n → bt a.2 (b : Int) = dotU a.1 (X b) w
theorem sum_bt {p s : ByteArray} {n : Nat} (hp : p.size = n) (hs : s.size = n) : (sumP p s).size = n ∧ ∀ b, b < n → bt (sumP p s) (b : Int) = ixor (bt p (b : Int)) (bt s (b : Int)) := by
 unfold sumP
 rw [if_neg (by omega)]
 refine ⟨by rw [sumBytes_size, hp], fun b hb => ?_⟩
 unfold sumBytes
 rw [hp, bt_map (f := gsum p s) (fun i hi => ?_) b hb]
 ·unfold gsum; rw [if_pos (by omega)]
 ·unfold gsum
  split
  ·exact isB_xor (isB_bt _ _) (isB_bt _ _)
  ·exact isB_bt _ _
theorem scale_bt {c : Int} {s : ByteArray} {n : Nat} (hc : isB c = true) (hs : s.size = n) : (scaleBytes c s).size = n ∧ ∀ b, b < n → bt (scaleBytes c s) (b : Int) = imul c (bt s (b : Int)) := by
 refine ⟨by rw [scaleBytes_size, hs], fun b hb => ?_⟩
 unfold scaleBytes
 rw [hs, bt_map (f := gscale c s) (fun i _ => isB_mul _ hc) b hb]
 rfl
theorem redStep_fits {w n : Nat} {X : Nat → Vec} (hX : ∀ b, IsV (X b)) {a x : List Int × ByteArray} (ha : RowB w a.1) (hx : RowB w x.1) (hf : fstIdx x.1 < w) (fa : Fits w n X a) (fx : Fits w n X x) : Fits w n X (redStep a x) := by
 unfold redStep
 split
 ·exact fa
 ·have hfB := ha.at hf
  obtain ⟨s1, s2⟩ := scale_bt (c := rd a.1 ((fstIdx x.1 : Nat) : Int)) hfB fx.1
  obtain ⟨t1, t2⟩ := sum_bt fa.1 s1
  refine ⟨t1, fun b hb => ?_⟩
  show bt (sumP a.2 _) (b : Int) = dotU (subRow _ x.1 a.1) (X b) w
  rw [t2 b hb, s2 b hb, dotU_sub hfB ha hx (hX b) w (Nat.le_refl _), fa.2 b hb, fx.2 b hb]
theorem redRow_fits {w n : Nat} {X : Nat → Vec} (hX : ∀ b, IsV (X b)) : ∀ {st : St} {a}, (∀ x ∈ st, RowB w x.1 ∧ fstIdx x.1 < w) → RowB w a.1 → (∀ x ∈ st, Fits w n X x) → Fits w n X a → Fits w n X (redRow st a)
 | [], _, _, _, _, fa => fa
 | x :: st, a, h, ha, hs, fa => by
  have hx := h x List.mem_cons_self
  exact redRow_fits hX (st := st) (fun y hy => h y (List.mem_cons_of_mem _ hy)) (redStep_row ha hx.1 hx.2) (fun y hy => hs y (List.mem_cons_of_mem _ hy)) (redStep_fits hX ha hx.1 hx.2 fa (hs x List.mem_cons_self))
theorem addSt_fits {w n : Nat} {X : Nat → Vec} (hX : ∀ b, IsV (X b)) {st : St} (h : Stairs w st) {row : List Int} {part : ByteArray} (hr : RowB w row) (hs : ∀ x ∈ st, Fits w n X x) (fa : Fits w n X (row, part)) {x} (he : addSt st row part = some x) : Fits w n X x := by
 have hB := redRow_row (a := (row, part)) h.rows hr
 have hF := redRow_fits hX (a := (row, part)) h.rows hr hs fa
 unfold addSt at he
 generalize redRow st (row, part) = rr at *
 obtain ⟨r, q⟩ := rr
 dsimp only at *
 by_cases e : fstIdx r = r.length
 ·rw [if_pos e] at he; cases he
 ·rw [if_neg e] at he
  obtain rfl := (Option.some.inj he).symm
  obtain ⟨s1, s2⟩ := scale_bt (c := iinv (rd r ((fstIdx r : Nat) : Int))) (isB_inv _) hF.1
  refine ⟨s1, fun b hb => ?_⟩
  rw [s2 b hb, hF.2 b hb, dotU_mul (isB_inv _) hB (hX b) w (Nat.le_refl _)]
theorem collect_fits {w n mask : Nat} {X : Nat → Vec} (hX : ∀ b, IsV (X b)) {rows : List (List Int)} {pieces : List ByteArray} (hrows : ∀ k : Nat, k < rows.length → RowB w (rd_L4 rows (k : Int)))
  (hp : ∀ k : Nat, k < rows.length → (mask >>> k) % 2 = 1 → Fits w n X (rd_L4 rows (k : Int), rdOf ByteArray.empty pieces (k : Int))) : ∀ j, j ≤ rows.length → ∀ x ∈ collectUpto w mask rows pieces j, Fits w n X x := by
 intro j
 induction j with
 | zero => intro _ x hx; cases hx
 | succ j ih =>
  intro hj x hx
  simp only [collectUpto] at hx
  by_cases hc : (mask >>> j) % 2 = 1 ∧ (collectUpto w mask rows pieces j).length < w
  ·rw [if_pos hc] at hx
   rcases List.mem_append.1 hx with hx | hx
   ·exact ih (by omega) x hx
   ·have he : addSt (collectUpto w mask rows pieces j) (rd_L4 rows (j : Int)) (rdOf ByteArray.empty pieces (j : Int)) = some x := by simpa using hx
    exact addSt_fits hX (collect_inv hrows j (by omega)).1 (hrows j (by omega)) (ih (by omega)) (hp j (by omega) hc.1) he
  ·rw [if_neg hc] at hx
   exact ih (by omega) x hx
/-! solving -/
theorem only_dot {w : Nat} {r : List Int} {q : Nat} {c : Int} (hr : RowB w r) (hc : isB c = true) (hq : q < w) : ∀ i, i ≤ w → dotU r (fun i => if i = q then c else 0) i = if q < i then imul (rd r (q : Int)) c else 0 := by
 intro i
 induction i with
 | zero => intro _; rw [if_neg (by omega)]; rfl
 | succ i ih =>
  intro hi
  show ixor (dotU r _ i) (imul (rd r (i : Int)) (if i = q then c else 0)) = _
  rw [ih (by omega)]
  by_cases e : i = q
  ·subst e
   rw [if_neg (by omega), if_pos rfl, if_pos (by omega), ixor_zero (isB_mul _ (hr.at (by omega)))]
  ·rw [if_neg e, imul_zero_right]
   by_cases e2 : q < i
   ·rw [if_pos e2, if_pos (by omega), ixor_zero_right (isB_mul _ (hr.at hq))]
   ·rw [if_neg e2, if_neg (by omega)]; rfl
theorem solvePart_bt {w n : Nat} {X : Nat → Vec} (hX : ∀ b, IsV (X b)) {x : List Int} (hx : RowB w x) {q : Nat} (hlow : ∀ i, i < q → rd x (i : Int) = 0) {out : List ByteArray} {p : ByteArray} (hp : p.size = n)
  (ho : ∀ i, q < i → i < w → (rdOf ByteArray.empty out (i : Int)).size = n ∧ ∀ b, b < n → bt (rdOf ByteArray.empty out (i : Int)) (b : Int) = X b i) :
  ∀ m, m ≤ w → (solvePart out x q p m).size = n ∧ ∀ b, b < n → bt (solvePart out x q p m) (b : Int) = ixor (bt p (b : Int)) (dotU x (fun i => if i = q then 0 else X b i) m) := by
 intro m
 induction m with
 | zero => exact fun _ => ⟨hp, fun b hb => (ixor_zero_right (isB_bt _ _)).symm⟩
 | succ m ih =>
  intro hm
  obtain ⟨h1, h2⟩ := ih (by omega)
  simp only [solvePart]
  by_cases hc : m ≠ q ∧ rd x (m : Int) ≠ 0
  ·rw [if_pos hc]
   have hqm : q < m := by
    rcases Nat.lt_trichotomy m q with h | h | h
    ·exact absurd (hlow m h) hc.2
    ·exact absurd h hc.1
    ·exact h
   obtain ⟨o1, o2⟩ := ho m hqm (by omega)
   obtain ⟨s1, s2⟩ := scale_bt (c := rd x (m : Int)) (hx.at (by omega)) o1
   obtain ⟨t1, t2⟩ := sum_bt h1 s1
   refine ⟨t1, fun b hb => ?_⟩
   rw [t2 b hb, h2 b hb, s2 b hb, o2 b hb, ixor_assoc]
   congr 1
   show _ = ixor _ (imul (rd x (m : Int)) (if m = q then 0 else X b m))
   rw [if_neg hc.1]
  ·rw [if_neg hc]
   refine ⟨h1, fun b hb => ?_⟩
   rw [h2 b hb]
   congr 1
   show _ = ixor _ (imul (rd x (m : Int)) (if m = q then 0 else X b m))
   have hz : imul (rd x (m : Int)) (if m = q then 0 else X b m) = 0 := by
    by_cases e : m = q
    ·rw [if_pos e, imul_zero_right]
    ·rw [if_neg e]
     have : rd x (m : Int) = 0 := by
      by_cases e2 : rd x (m : Int) = 0
      ·exact e2
      ·exact absurd ⟨e, e2⟩ hc
     rw [this, imul_zero_left (hX b m)]
   rw [hz, ixor_zero_right (dotU_isB hx m (by omega))]
/-- The rows sorted: each place is led by one. -/
theorem sorted_at {w : Nat} {st : St} (h : Stairs w st) (hl : st.length = w) : ∀ a, a ≤ w → (sortUpto st a).length = a ∧ ∀ i (hi : i < (sortUpto st a).length), (sortUpto st a)[i] ∈ st ∧ fstIdx (sortUpto st a)[i].1 = i := by
 intro a
 induction a with
 | zero => exact fun _ => ⟨rfl, fun i hi => absurd hi (Nat.not_lt_zero i)⟩
 | succ a ih =>
  intro ha
  obtain ⟨h1, h2⟩ := ih (by omega)
  obtain ⟨r, hr, he⟩ := h.leads.all (by rw [List.length_map]; exact hl) (show a < w by omega)
  obtain ⟨x, hx, rfl⟩ := List.mem_map.1 hr
  have hone : st.filter (atPlace a) = [x] := by
   have hn : ((st.filter (atPlace a)).map fun x => fstIdx x.1).Nodup := (h.apart.sublist ((List.filter_sublist).map _))
   have hk : ∀ y ∈ st.filter (atPlace a), fstIdx y.1 = a := fun y hy => by
    have := (List.mem_filter.1 hy).2
    simpa [atPlace] using this
   have hm : x ∈ st.filter (atPlace a) := List.mem_filter.2 ⟨hx, by simpa [atPlace] using he⟩
   generalize st.filter (atPlace a) = F at hn hk hm
   match F, hn, hk, hm with
   | [y], _, _, hm => rw [List.mem_singleton.1 hm]
   | y :: z :: F, hn, hk, _ =>
    have h0 := (List.nodup_cons.1 hn).1
    exact absurd (List.mem_cons.2 (.inl ((hk y List.mem_cons_self).trans (hk z (List.mem_cons_of_mem _ List.mem_cons_self)).symm))) h0
  have e : sortUpto st (a + 1) = sortUpto st a ++ [x] := by rw [sortUpto_succ, hone]
  rw [e]
  refine ⟨by simp [h1], fun i hi => ?_⟩
  by_cases hia : i < (sortUpto st a).length
  ·rw [List.getElem_append_left hia]
   exact h2 i hia
  ·have : i = (sortUpto st a).length := by simp at hi; omega
   subst this
   rw [List.getElem_append_right (Nat.le_refl _)]
   simp only [Nat.sub_self, List.getElem_cons_zero]
   exact ⟨hx, by rw [he, h1]⟩
theorem rdOf_set_eq {l : List ByteArray} {i : Nat} (h : i < l.length) (x : ByteArray) : rdOf ByteArray.empty (l.set i x) (i : Int) = x := by
 simp [rdOf, List.getD_eq_getElem?_getD, h]
theorem rdOf_set_ne {l : List ByteArray} {i j : Nat} (h : i ≠ j) (x : ByteArray) : rdOf ByteArray.empty (l.set i x) (j : Int) = rdOf ByteArray.empty l (j : Int) := by
 simp [rdOf, List.getD_eq_getElem?_getD, List.getElem?_set_ne h]
theorem solve_bt {w n : Nat} {X : Nat → Vec} (hX : ∀ b, IsV (X b)) (T : St) (hl : T.length = w) (hr : ∀ i (hi : i < T.length), RowB w T[i].1 ∧ fstIdx T[i].1 = i ∧ rd T[i].1 (i : Int) = 1 ∧ Fits w n X T[i]) :
  ∀ j, j ≤ w → ∀ i, w - j ≤ i → i < w → (rdOf ByteArray.empty (solveRev w (T.drop (w - j))) (i : Int)).size = n ∧ ∀ b, b < n → bt (rdOf ByteArray.empty (solveRev w (T.drop (w - j))) (i : Int)) (b : Int) = X b i := by
 intro j
 induction j with
 | zero => intro _ i h1 h2; omega
 | succ j ih =>
  intro hj i h1 h2
  obtain ⟨q, hq⟩ : ∃ q, q = w - (j + 1) := ⟨_, rfl⟩
  rw [← hq] at h1 ⊢
  have hqw : q < T.length := by omega
  have ih := ih (by omega)
  rw [show w - j = q + 1 by omega] at ih
  have hd : T.drop q = T[q] :: T.drop (q + 1) := List.drop_eq_getElem_cons hqw
  obtain ⟨hb, hf, h1q, hfit⟩ := hr q hqw
  have hsol : solveRev w (T.drop q) = (solveRev w (T.drop (q + 1))).set q (solvePart (solveRev w (T.drop (q + 1))) T[q].1 q T[q].2 w) := by
   rw [hd]
   show solveStep w T[q] (solveRev w (T.drop (q + 1))) = _
   unfold solveStep
   rw [hf]
  rw [hsol]
  by_cases e : i = q
  ·subst e
   rw [rdOf_set_eq (by rw [solveRev_length]; omega)]
   obtain ⟨s1, s2⟩ := solvePart_bt hX hb (q := i) (fun z hz => fst_zero _ (by omega)) (out := solveRev w (T.drop (i + 1))) hfit.1 (fun z hz1 hz2 => ih z (by omega) hz2) w (Nat.le_refl _)
   refine ⟨s1, fun b hbn => ?_⟩
   rw [s2 b hbn, hfit.2 b hbn, ← dotU_add hb w (Nat.le_refl _)]
   have hc : dotU T[i].1 (fun z => ixor (X b z) (if z = i then 0 else X b z)) w = dotU T[i].1 (fun z => if z = i then X b i else 0) w := dotU_congr w (fun z hz => by
    by_cases e2 : z = i
    ·subst e2; rw [if_pos rfl, if_pos rfl, ixor_zero_right (hX b z)]
    ·rw [if_neg e2, if_neg e2, ixor_self])
   rw [hc, only_dot hb (hX b i) h2 w (Nat.le_refl _), if_pos h2, h1q, imul_one_left (hX b i)]
  ·rw [rdOf_set_ne (fun h => e h.symm)]
   exact ih i (by omega) h2
/-- What is solved is what the pieces are made of. -/
theorem solved_bt {w n mask : Nat} {X : Nat → Vec} (hX : ∀ b, IsV (X b)) {rows : List (List Int)} {pieces : List ByteArray} (hrows : ∀ k : Nat, k < rows.length → RowB w (rd_L4 rows (k : Int)))
  (hp : ∀ k : Nat, k < rows.length → (mask >>> k) % 2 = 1 → Fits w n X (rd_L4 rows (k : Int), rdOf ByteArray.empty pieces (k : Int)))
  (hl : (collectUpto w mask rows pieces rows.length).length = w) : ∀ i, i < w → (rdOf ByteArray.empty (solveRev w (sortSt w (collectUpto w mask rows pieces rows.length))) (i : Int)).size = n ∧ ∀ b, b < n → bt (rdOf ByteArray.empty (solveRev w (sortSt w (collectUpto w mask rows pieces rows.length))) (i : Int)) (b : Int) = X b i := by
 have hst := (collect_inv (mask := mask) (pieces := pieces) hrows rows.length (Nat.le_refl _)).1
 have hfit := collect_fits hX hrows hp rows.length (Nat.le_refl _)
 obtain ⟨s1, s2⟩ := sorted_at hst hl w (Nat.le_refl _)
 intro i hi
 have := solve_bt hX (sortSt w (collectUpto w mask rows pieces rows.length)) s1 (fun j hj => by
  obtain ⟨hm, hf⟩ := s2 j hj
  have h1 := hst.one _ hm
  rw [hf] at h1
  exact ⟨(hst.rows _ hm).1, hf, h1, hfit _ hm⟩) w (Nat.le_refl _) i (by omega) hi
 rwa [show w - w = 0 by omega, List.drop_zero] at this
end Go.Proofs.YtkadfidmfnpohaaDoor.XB

namespace Go.Proofs.YtkadfidmfnpohaaDoor.XB
open Go.RowKit Go.Proofs.YtkadfidmfnpohaaDoorW.PrintWords Go.Proofs.YtkadfidmfnpohaaDoorW.PrintLast Go.Proofs.YtkadfidmfnpohaaDoorW.PrintMore
set_option linter.unusedVariables false
set_option linter.unusedSimpArgs false
theorem bit_test (x i : Nat) : (x >>> i) % 2 = 1 ↔ x.testBit i = true := by
 rw [Nat.testBit_eq_decide_div_mod_eq, Nat.shiftRight_eq_div_pow, decide_eq_true_eq]
/-! can it be recovered -/
def canB (d : Int) (l : List (List Int)) (m mask : Int) : Bool := (collectOk (rowsFor d l m) mask []).isSome
theorem rowsOf_rd {D M : Nat} {l : List (List Int)} {t : Nat} (h : t < D + l.length + M) : rd_L4 (rowsOf D l M) (t : Int) = rowAt D l t := by
 rw [rowsOf_eq]
 simp [rd_L4, List.getD_eq_getElem?_getD, h]
theorem rowsOf_length (D M : Nat) (l : List (List Int)) : (rowsOf D l M).length = D + l.length + M := by rw [rowsOf_eq]; simp
theorem rowAt_row (D : Nat) (l : List (List Int)) (t : Nat) : RowB D (rowAt D l t) := ⟨rowAt_isB D l t, rowAt_length D l t⟩
theorem rowWidth_rows {D M : Nat} {l : List (List Int)} (h : 0 < D) : rowWidth (rowsOf D l M) = D := by
 unfold rowWidth
 rw [rowsOf_rd (by omega), rowAt_length]
theorem rowsOf_rowB {D M : Nat} {l : List (List Int)} (k : Nat) (hk : k < (rowsOf D l M).length) : RowB D (rd_L4 (rowsOf D l M) (k : Int)) := by
 rw [rowsOf_length] at hk
 rw [rowsOf_rd hk]
 exact rowAt_row D l k
theorem okRows_rows {D M : Nat} {l : List (List Int)} (h1 : 1 ≤ D) (h2 : D ≤ 16) (h3 : D + l.length + M ≤ 24) : okRows (rowsOf D l M) = true := by
 unfold okRows
 rw [rowWidth_rows (by omega), rowsOf_length]
 simp only [Bool.and_eq_true, Bool.or_eq_true, decide_eq_true_eq, List.all_eq_true]
 refine ⟨⟨⟨h3, .inl h1⟩, h2⟩, fun r hr => ?_⟩
 rw [rowsOf_eq] at hr
 obtain ⟨t, _, rfl⟩ := List.mem_map.1 hr
 exact ⟨fun x hx => List.all_eq_true.1 (rowAt_isB D l t) x hx, rowAt_length D l t⟩
theorem CodeOk.bounds {D M : Nat} {l : List (List Int)} (h : CodeOk (D : Int) l (M : Int)) : 1 ≤ D ∧ D ≤ 16 ∧ M ≤ 4 ∧ D + l.length + M ≤ 24 := by
 have h1 := h.d1; have h2 := h.d2; have h3 := h.m2; have h4 := h.sum
 omega
theorem canB_iff {D M : Nat} {l : List (List Int)} (hc : chk (D : Int) l (M : Int) = 0) (mask : Int) :
  canB (D : Int) l (M : Int) mask = true ↔ 0 ≤ mask ∧ mask < ((2 ^ (D + l.length + M) : Nat) : Int) ∧ Full D (selRows (rowsOf D l M) mask.toNat (D + l.length + M)) := by
 obtain ⟨h1, h2, h3, h4⟩ := (chk_ok hc).bounds
 have hrf : rowsFor (D : Int) l (M : Int) = rowsOf D l M := by unfold rowsFor; rw [if_pos hc]; rfl
 have hci := collect_iff (w := D) (mask := mask.toNat) (pieces := []) (rows := rowsOf D l M) rowsOf_rowB
 have hle := collectUpto_length D mask.toNat (rowsOf D l M) [] (rowsOf D l M).length
 unfold canB collectOk collectSt
 rw [hrf, rowWidth_rows (by omega)]
 rw [rowsOf_length] at hci hle ⊢
 have hp : ((2 : Int) ^ (D + l.length + M)) = ((2 ^ (D + l.length + M) : Nat) : Int) := by simp
 rw [hp]
 by_cases c1 : D + l.length + M = 0 ∨ mask < 0 ∨ ((2 ^ (D + l.length + M) : Nat) : Int) ≤ mask
 ·rw [if_pos c1]
  constructor
  ·intro h; cases h
  ·rintro ⟨h5, h6, _⟩; omega
 ·rw [if_neg c1]
  by_cases c2 : (collectUpto D mask.toNat (rowsOf D l M) [] (D + l.length + M)).length < D
  ·rw [if_pos c2]
   constructor
   ·intro h; cases h
   ·rintro ⟨_, _, h7⟩
    have := hci.2 h7; omega
  ·rw [if_neg c2]
   constructor
   ·intro _
    exact ⟨by omega, by omega, hci.1 (by omega)⟩
   ·intro _; rfl
theorem crec_ev (d : Int) (l : List (List Int)) (m mask : Int) (hs : Small l) : Ev (fun k => code_Recoverable.f k d l m mask) (canB d l m mask) := by
 refine Ev.congr (f := fun k => (code_Rows.f k d l m).bind fun r => if okRows r.1 = true then some (collectOk r.1 mask []).isSome else none) (fun k => rfl) (Ev.bind (crows_ev d l m hs) ?_)
 have hok : okRows (rowsFor d l m) = true := by
  unfold rowsFor
  by_cases e : chk d l m = 0
  ·have hok := chk_ok e
   obtain ⟨D, M, rfl, rfl⟩ := hok.nats
   obtain ⟨h1, h2, h3, h4⟩ := hok.bounds
   rw [if_pos e]
   exact okRows_rows h1 h2 h4
  ·rw [if_neg e]; rfl
 simp only [hok, if_true]
 exact Ev.now _
end Go.Proofs.YtkadfidmfnpohaaDoor.XB

namespace Go.Proofs.YtkadfidmfnpohaaDoor.XB
open Go.RowKit Go.Proofs.YtkadfidmfnpohaaDoorW.PrintWords Go.Proofs.YtkadfidmfnpohaaDoorW.PrintLast Go.Proofs.YtkadfidmfnpohaaDoorW.PrintMore
set_option linter.unusedVariables false
set_option linter.unusedSimpArgs false
def canN (D : Nat) (l : List (List Int)) (M : Nat) (x : Nat) : Bool := canB (D : Int) l (M : Int) (x : Int)
/-! the reference's Distance -/
/-! what the law asks -/
end Go.Proofs.YtkadfidmfnpohaaDoor.XB

namespace Go.Proofs.YtkadfidmfnpohaaDoor.XB
open Go.RowKit Go.Proofs.YtkadfidmfnpohaaDoorW.PrintWords Go.Proofs.YtkadfidmfnpohaaDoorW.PrintLast Go.Proofs.YtkadfidmfnpohaaDoorW.PrintMore
set_option linter.unusedVariables false
set_option linter.unusedSimpArgs false
theorem redStep_sz {n : Nat} {a x : List Int × ByteArray} (fa : a.2.size = n) (fx : x.2.size = n) : (redStep a x).2.size = n := by
  unfold redStep
  split
  · exact fa
  · exact (sum_bt fa (by rw [scaleBytes_size]; exact fx)).1
theorem redRow_sz {n : Nat} : ∀ {st : St} {a}, (∀ x ∈ st, x.2.size = n) → a.2.size = n → (redRow st a).2.size = n
  | [], _, _, fa => fa
  | x :: st, a, h, fa => redRow_sz (st := st) (fun y hy => h y (List.mem_cons_of_mem _ hy)) (redStep_sz fa (h x List.mem_cons_self))
theorem addSt_sz {n : Nat} {st : St} {row : List Int} {part : ByteArray} (hs : ∀ x ∈ st, x.2.size = n) (fa : part.size = n) {x} (he : addSt st row part = some x) : x.2.size = n := by
  have hF := redRow_sz (a := (row, part)) hs fa
  unfold addSt at he
  generalize redRow st (row, part) = rr at *
  obtain ⟨r, q⟩ := rr
  dsimp only at *
  by_cases e : fstIdx r = r.length
  · rw [if_pos e] at he; cases he
  · rw [if_neg e] at he
    obtain rfl := (Option.some.inj he).symm
    show (scaleBytes _ q).size = n
    rw [scaleBytes_size]; exact hF
theorem collect_sz {w n mask : Nat} {rows : List (List Int)} {pieces : List ByteArray} (hp : ∀ k : Nat, k < rows.length → (mask >>> k) % 2 = 1 → (rdOf ByteArray.empty pieces (k : Int)).size = n) :
    ∀ j, j ≤ rows.length → ∀ x ∈ collectUpto w mask rows pieces j, x.2.size = n := by
  intro j
  induction j with
  | zero => intro _ x hx; cases hx
  | succ j ih =>
    intro hj x hx
    simp only [collectUpto] at hx
    by_cases hc : (mask >>> j) % 2 = 1 ∧ (collectUpto w mask rows pieces j).length < w
    · rw [if_pos hc] at hx
      rcases List.mem_append.1 hx with hx | hx
      · exact ih (by omega) x hx
      · have he : addSt (collectUpto w mask rows pieces j) (rd_L4 rows (j : Int)) (rdOf ByteArray.empty pieces (j : Int)) = some x := by simpa using hx
        exact addSt_sz (ih (by omega)) (hp j (by omega) hc.1) he
    · rw [if_neg hc] at hx
      exact ih (by omega) x hx
theorem solvePart_sz {w n : Nat} {x : List Int} {q : Nat} (hlow : ∀ i, i < q → rd x (i : Int) = 0) {out : List ByteArray} {p : ByteArray} (hp : p.size = n)
    (ho : ∀ i, q < i → i < w → (rdOf ByteArray.empty out (i : Int)).size = n) : ∀ m, m ≤ w → (solvePart out x q p m).size = n := by
  intro m
  induction m with
  | zero => exact fun _ => hp
  | succ m ih =>
    intro hm
    have h1 := ih (by omega)
    simp only [solvePart]
    by_cases hc : m ≠ q ∧ rd x (m : Int) ≠ 0
    · rw [if_pos hc]
      have hqm : q < m := by
        rcases Nat.lt_trichotomy m q with h | h | h
        · exact absurd (hlow m h) hc.2
        · exact absurd h hc.1
        · exact h
      exact (sum_bt h1 (by rw [scaleBytes_size]; exact ho m hqm (by omega))).1
    · rw [if_neg hc]; exact h1
theorem solve_sz {w n : Nat} (T : St) (hl : T.length = w) (hr : ∀ i (hi : i < T.length), fstIdx T[i].1 = i ∧ T[i].2.size = n) :
    ∀ j, j ≤ w → ∀ i, w - j ≤ i → i < w → (rdOf ByteArray.empty (solveRev w (T.drop (w - j))) (i : Int)).size = n := by
  intro j
  induction j with
  | zero => intro _ i h1 h2; omega
  | succ j ih =>
    intro hj i h1 h2
    obtain ⟨q, hq⟩ : ∃ q, q = w - (j + 1) := ⟨_, rfl⟩
    rw [← hq] at h1 ⊢
    have hqw : q < T.length := by omega
    have ih := ih (by omega)
    rw [show w - j = q + 1 by omega] at ih
    have hd : T.drop q = T[q] :: T.drop (q + 1) := List.drop_eq_getElem_cons hqw
    obtain ⟨hf, hfit⟩ := hr q hqw
    have hsol : solveRev w (T.drop q) = (solveRev w (T.drop (q + 1))).set q (solvePart (solveRev w (T.drop (q + 1))) T[q].1 q T[q].2 w) := by
      rw [hd]
      show solveStep w T[q] (solveRev w (T.drop (q + 1))) = _
      unfold solveStep
      rw [hf]
    rw [hsol]
    by_cases e : i = q
    · subst e
      rw [rdOf_set_eq (by rw [solveRev_length]; omega)]
      exact solvePart_sz (fun z hz => fst_zero _ (by omega)) hfit (fun z hz1 hz2 => ih z (by omega) hz2) w (Nat.le_refl _)
    · rw [rdOf_set_ne (fun h => e h.symm)]
      exact ih i (by omega) h2
theorem solved_sz {w n mask : Nat} {rows : List (List Int)} {pieces : List ByteArray} (hrows : ∀ k : Nat, k < rows.length → RowB w (rd_L4 rows (k : Int)))
    (hp : ∀ k : Nat, k < rows.length → (mask >>> k) % 2 = 1 → (rdOf ByteArray.empty pieces (k : Int)).size = n)
    (hl : (collectUpto w mask rows pieces rows.length).length = w) : ∀ i, i < w → (rdOf ByteArray.empty (solveRev w (sortSt w (collectUpto w mask rows pieces rows.length))) (i : Int)).size = n := by
  have hst := (collect_inv (mask := mask) (pieces := pieces) hrows rows.length (Nat.le_refl _)).1
  have hsz := collect_sz (w := w) hp rows.length (Nat.le_refl _)
  obtain ⟨s1, s2⟩ := sorted_at hst hl w (Nat.le_refl _)
  intro i hi
  have := solve_sz (sortSt w (collectUpto w mask rows pieces rows.length)) s1 (fun j hj => by
    obtain ⟨hm, hf⟩ := s2 j hj
    exact ⟨hf, hsz _ hm⟩) w (Nat.le_refl _) i (by omega) hi
  rwa [show w - w = 0 by omega, List.drop_zero] at this
/-! the data, byte by byte -/
def partN (D : Nat) (s : ByteArray) : Nat := (((s.size : Int) + D - 1) / D).toNat
def dataV (D : Nat) (s : ByteArray) (b : Nat) : Vec := fun i => bt (partOf s (partN D s) i) (b : Int)
theorem dataV_isV (D : Nat) (s : ByteArray) (b : Nat) : IsV (dataV D s b) := fun i => isB_bt _ _
theorem dataV_at {D : Nat} {s : ByteArray} {b : Nat} (i : Nat) (hb : b < partN D s) : dataV D s b i = bt s ((i * partN D s + b : Nat) : Int) := by
  unfold dataV partOf
  rw [bt_map (f := fun j => if i * partN D s + j < s.size then bt s ((i * partN D s + j : Nat) : Int) else 0) (fun j _ => by split; exact isB_bt _ _; rfl) b hb]
  by_cases h : i * partN D s + b < s.size
  · rw [if_pos h]
  · rw [if_neg h, bt_out _ _ (by omega)]
theorem bytes_range (s : ByteArray) : bytesOf s = (List.range s.size).map fun (j : Nat) => bt s (j : Int) := by
  apply List.ext_getElem
  · rw [bytesOf_length]; simp
  · intro i h1 h2
    have h : rd (bytesOf s) (i : Int) = bt s (i : Int) := rd_bytesOf s i
    rw [rdi h1] at h
    rw [h, List.getElem_map, List.getElem_range]
theorem strOf_bytesOf (s : ByteArray) : strOfNums (bytesOf s) = s := by
  apply ByteArray.ext
  simp [strOfNums, bytesOf, Function.comp_def]
theorem range_add_map (f : Nat → Int) (a b : Nat) : (List.range (a + b)).map f = (List.range a).map f ++ (List.range b).map fun j => f (a + j) := by
  rw [List.range_add, List.map_append, List.map_map]; rfl
theorem rdOf_at {L : List ByteArray} {j : Nat} (h : j < L.length) : rdOf ByteArray.empty L (j : Int) = L[j] := by simp [rdOf, List.getD_eq_getElem?_getD, List.getElem?_eq_getElem h]
theorem joined_take (n : Nat) (g : Nat → Int) (L : List ByteArray) (h : ∀ i : Nat, i < L.length → (rdOf ByteArray.empty L (i : Int)).size = n ∧ ∀ b : Nat, b < n → bt (rdOf ByteArray.empty L (i : Int)) (b : Int) = g (i * n + b)) :
    ∀ j, j ≤ L.length → joined (L.take j) = (List.range (j * n)).map g
  | 0, _ => by simp [joined]
  | j + 1, hj => by
    have hlt : j < L.length := hj
    rw [List.take_succ_eq_append_getElem hlt, joined_snoc, joined_take n g L h j (by omega), show (j + 1) * n = j * n + n by rw [Nat.succ_mul], range_add_map]
    congr 1
    obtain ⟨h1, h2⟩ := h j hlt
    rw [rdOf_at hlt] at h1 h2
    rw [bytes_range, h1]
    exact List.map_congr_left fun b hb => h2 b (List.mem_range.1 hb)
theorem joined_sz (n : Nat) : ∀ L : List ByteArray, (∀ s ∈ L, s.size = n) → (joined L).length = L.length * n
  | [], _ => by simp [joined]
  | s :: L, h => by
    show (bytesOf s ++ joined L).length = _
    rw [List.length_append, bytesOf_length, h s List.mem_cons_self, joined_sz n L (fun t ht => h t (List.mem_cons_of_mem _ ht)), List.length_cons, Nat.succ_mul, Nat.add_comm]
theorem piece_fits {D M : Nat} {l : List (List Int)} (s : ByteArray) {t : Nat} (ht : t < D + l.length + M) : Fits D (partN D s) (dataV D s) (rowAt D l t, rdOf ByteArray.empty (piecesFor D l M s) (t : Int)) := by
  have e : rdOf ByteArray.empty (piecesFor D l M s) (t : Int) = combBytes (rowAt D l t) (partsOf s (partN D s) D) (partN D s) := by
    unfold piecesFor
    rw [rowsOf_eq]
    simp [rdOf, List.getD_eq_getElem?_getD, ht, partN]
  rw [e]
  refine ⟨by show (combBytes _ _ _).size = _; unfold combBytes; rw [strOfNums_size]; simp, fun b hb => ?_⟩
  show bt (combBytes _ _ _) _ = _
  unfold combBytes
  rw [bt_map (fun j _ => isB_comb _ _ _ (rowAt_isB D l t) _ (Nat.le_refl _)) b hb, rowAt_length, gcomb_dot]
  exact dotU_congr D fun j hj => by rw [partsOf_get _ _ _ _ hj]; rfl
theorem piecesFor_length (D : Nat) (l : List (List Int)) (M : Nat) (s : ByteArray) : (piecesFor D l M s).length = D + l.length + M := by unfold piecesFor; rw [List.length_map, rowsOf_length]
/-- The data of one size that are alike are the same. -/
theorem data_inj {D : Nat} (hD : 1 ≤ D) {s t : ByteArray} (hst : s.size = t.size) (h4 : s.size ≤ 4096) (h : ∀ b, b < partN D s → ∀ i, i < D → dataV D s b i = dataV D t b i) : s = t := by
  have hn : partN D t = partN D s := by unfold partN; rw [hst]
  have key : ∀ j, j < s.size → bt s (j : Int) = bt t (j : Int) := by
    intro j hj
    have hle := (size_le (D := D) hD h4).2.1
    have hle : s.size ≤ D * partN D s := hle
    have hp : 0 < partN D s := by
      rcases Nat.eq_zero_or_pos (partN D s) with e | e
      · rw [e] at hle; omega
      · exact e
    have hi : j / partN D s < D := Nat.div_lt_of_lt_mul (by rw [Nat.mul_comm]; omega)
    have hb : j % partN D s < partN D s := Nat.mod_lt _ hp
    have := h _ hb _ hi
    rw [dataV_at _ hb, dataV_at (D := D) (s := t) _ (by rw [hn]; exact hb), hn, show j / partN D s * partN D s + j % partN D s = j by rw [Nat.mul_comm]; exact Nat.div_add_mod j _] at this
    exact this
  rw [← strOf_bytesOf s, ← strOf_bytesOf t, bytes_range s, bytes_range t, ← hst]
  congr 1
  exact List.map_congr_left fun j hj => key j (List.mem_range.1 hj)
/-- What is solved, cut to its length, is the data. -/
theorem full_data {D : Nat} (hD : 1 ≤ D) {s : ByteArray} (h4 : s.size ≤ 4096) (L : List ByteArray) (hl : L.length = D) (h : ∀ i, i < D → (rdOf ByteArray.empty L (i : Int)).size = partN D s ∧ ∀ b, b < partN D s → bt (rdOf ByteArray.empty L (i : Int)) (b : Int) = dataV D s b i) :
    strOfNums ((joined L).take s.size) = s := by
  have hj := joined_take (partN D s) (fun j => bt s (j : Int)) L (fun i hi => ⟨(h i (by omega)).1, fun b hb => by rw [(h i (by omega)).2 b hb, dataV_at i hb]⟩) L.length (Nat.le_refl _)
  rw [List.take_length] at hj
  have hle : s.size ≤ D * partN D s := (size_le (D := D) hD h4).2.1
  rw [hj, ← List.map_take, List.take_range, hl, Nat.min_eq_left hle, ← bytes_range, strOf_bytesOf]
/-! Decode -/
/-- What Decode answers, where its arguments fit. -/
def decFor (D : Nat) (l : List (List Int)) (M n x : Nat) (pieces : List ByteArray) : ByteArray × Int :=
  match collectOk (rowsOf D l M) (x : Int) pieces with
  | none => (⟨#[]⟩, 17)
  | some st => if agree x (piecesFor D l M (strOfNums ((fullOf (rowsOf D l M) st).take n))) pieces = true then (strOfNums ((fullOf (rowsOf D l M) st).take n), 0) else (⟨#[]⟩, 14)
theorem collectOk_rows {D M : Nat} {l : List (List Int)} (h1 : 1 ≤ D) (h3 : D + l.length + M ≤ 24) {x : Nat} (hx : x < 2 ^ (D + l.length + M)) (pieces : List ByteArray) :
    collectOk (rowsOf D l M) (x : Int) pieces = if (collectUpto D x (rowsOf D l M) pieces (D + l.length + M)).length = D then some (collectUpto D x (rowsOf D l M) pieces (D + l.length + M)) else none := by
  unfold collectOk collectSt
  rw [rowWidth_rows h1, rowsOf_length, Int.toNat_natCast]
  have hp : ((2 : Int) ^ (D + l.length + M)) = ((2 ^ (D + l.length + M) : Nat) : Int) := by simp
  have hle := collectUpto_length D x (rowsOf D l M) pieces (D + l.length + M)
  rw [hp, if_neg (by omega)]
  by_cases e : (collectUpto D x (rowsOf D l M) pieces (D + l.length + M)).length = D
  · rw [if_neg (by omega), if_pos e]
  · rw [if_pos (by omega), if_neg e]
theorem collect_can {D M : Nat} {l : List (List Int)} (hc : chk (D : Int) l (M : Int) = 0) {x : Nat} (hx : x < 2 ^ (D + l.length + M)) (pieces : List ByteArray) :
    (collectUpto D x (rowsOf D l M) pieces (D + l.length + M)).length = D ↔ canN D l M x = true := by
  have hci := collect_iff (w := D) (mask := x) (pieces := pieces) (rows := rowsOf D l M) rowsOf_rowB
  rw [rowsOf_length] at hci
  unfold canN
  rw [hci, canB_iff hc, Int.toNat_natCast]
  exact ⟨fun h => ⟨by omega, by omega, h⟩, fun h => h.2.2⟩
def zOf (D n : Nat) : Nat := (((n : Int) + D - 1) / D).toNat
theorem full_len {D M : Nat} {l : List (List Int)} (h1 : 1 ≤ D) {x n : Nat} {pieces : List ByteArray} (hp : ∀ k : Nat, k < D + l.length + M → (x >>> k) % 2 = 1 → (rdOf ByteArray.empty pieces (k : Int)).size = n)
    (hl : (collectUpto D x (rowsOf D l M) pieces (D + l.length + M)).length = D) : (fullOf (rowsOf D l M) (collectUpto D x (rowsOf D l M) pieces (D + l.length + M))).length = D * n := by
  have := solved_sz (w := D) (n := n) (mask := x) (pieces := pieces) (rows := rowsOf D l M) rowsOf_rowB (by rw [rowsOf_length]; exact hp) (by rw [rowsOf_length]; exact hl)
  rw [rowsOf_length] at this
  unfold fullOf
  rw [rowWidth_rows h1, joined_sz n, solveRev_length]
  intro s hs
  obtain ⟨i, hi, rfl⟩ := List.getElem_of_mem hs
  rw [← rdOf_at hi]
  exact this i (by rw [solveRev_length] at hi; exact hi)
theorem cdec_ev {D M : Nat} {l : List (List Int)} (hs : Small l) (hc : chk (D : Int) l (M : Int) = 0) {n x : Nat} (hn : n ≤ 4096) (hx : x < 2 ^ (D + l.length + M)) {pieces : List ByteArray} (hl : pieces.length = D + l.length + M)
    (hb : ∀ p ∈ pieces, p.size ≤ 100000) (hz : ∀ k : Nat, k < D + l.length + M → (x >>> k) % 2 = 1 → (rdOf ByteArray.empty pieces (k : Int)).size = zOf D n) :
    Ev (fun k => code_Decode.f k (D : Int) l (M : Int) (n : Int) (x : Int) pieces) (decFor D l M n x pieces) := by
  have hok := chk_ok hc
  obtain ⟨h1, h2, h3, h4⟩ := hok.bounds
  refine Ev.congr (f := fun k => (code_Rows.f k (D : Int) l (M : Int)).bind fun r => if r.2 = 0 then
    (if okRows r.1 = true ∧ 0 < r.1.length then if (n : Int) < 0 ∨ 4096 < (n : Int) ∨ (x : Int) < 0 ∨ (2 : Int) ^ r.1.length ≤ (x : Int) ∨ pieces.length ≠ r.1.length then some (⟨#[]⟩, 1)
     else if bounded pieces = true then
       (code_Size.f k (D : Int) l (M : Int) (n : Int)).bind fun size => if 0 ≤ size ∧ size ≤ 4096 then (if sizesOk (x : Int).toNat size.toNat pieces = true then decodeWith k (D : Int) l (M : Int) r.1 (n : Int).toNat (x : Int).toNat pieces (collectOk r.1 (x : Int) pieces) else some (⟨#[]⟩, 1)) else none
     else none else none)
  else some (⟨#[]⟩, r.2)) (fun k => rfl) (Ev.bind (crows_ev (D : Int) l (M : Int) hs) ?_)
  have hp : ((2 : Int) ^ (D + l.length + M)) = ((2 ^ (D + l.length + M) : Nat) : Int) := by simp
  have hrf : rowsFor (D : Int) l (M : Int) = rowsOf D l M := by unfold rowsFor; rw [if_pos hc]; rfl
  have hbd : bounded pieces = true := List.all_eq_true.2 fun p hp => decide_eq_true (hb p hp)
  dsimp only
  rw [hrf, hc]
  simp only [if_true, okRows_rows h1 h2 h4, rowsOf_length, hl, hp, hbd, true_and, ne_eq, not_true, or_false, show 0 < D + l.length + M by omega, show ¬ ((n : Int) < 0 ∨ 4096 < (n : Int) ∨ (x : Int) < 0 ∨ ((2 ^ (D + l.length + M) : Nat) : Int) ≤ (x : Int)) by omega, if_false]
  refine Ev.bind (csize_ev (D : Int) l (M : Int) (n : Int) hs) ?_
  rw [sizeOf_in hc (by omega) (by omega)]
  obtain ⟨z1, z2, z3⟩ := size_le (D := D) (n := n) (by omega) hn
  have hzk : sizesOk x (zOf D n) pieces = true := sizesOk_iff.2 (by rw [hl]; exact hz)
  simp only [show (0 : Int) ≤ ((n : Int) + D - 1) / D ∧ ((n : Int) + D - 1) / D ≤ 4096 from ⟨z3, by omega⟩, if_true, Int.toNat_natCast]
  rw [show (((n : Int) + D - 1) / D).toNat = zOf D n from rfl]
  simp only [and_self, if_true, hzk]
  unfold decFor
  rw [collectOk_rows h1 h4 hx]
  by_cases e : (collectUpto D x (rowsOf D l M) pieces (D + l.length + M)).length = D
  · rw [if_pos e]
    have hfl := full_len h1 hz e
    generalize collectUpto D x (rowsOf D l M) pieces (D + l.length + M) = st at hfl ⊢
    generalize ht : strOfNums ((fullOf (rowsOf D l M) st).take n) = t
    have htz : t.size ≤ 4096 := by rw [← ht, strOfNums_size, List.length_take]; omega
    dsimp only [decodeWith]
    simp only [show n ≤ (fullOf (rowsOf D l M) st).length by rw [hfl]; exact z2, if_true, ht]
    refine Ev.bind (cenc_ev (D : Int) l (M : Int) t hs (by omega)) ?_
    have he : encFor (D : Int) l (M : Int) t = (piecesFor D l M t, 0) := by unfold encFor; rw [if_pos hc, if_pos htz]; rfl
    rw [he]
    simp only [piecesFor_length, hl, if_true]
    by_cases ea : agree x (piecesFor D l M t) pieces = true
    · simp only [ea, if_true]; exact Ev.now _
    · simp only [ea, if_false]; exact Ev.now _
  · rw [if_neg e]
    exact Ev.now _

set_option linter.unusedSimpArgs false
theorem mem_sel {rows : List (List Int)} {x : Nat} {r : List Int} : ∀ n, r ∈ selRows rows x n → ∃ i : Nat, i < n ∧ (x >>> i) % 2 = 1 ∧ r = rd_L4 rows (i : Int)
 | 0, h => by cases h
 | n + 1, h => by
  unfold selRows at h
  split at h
  ·rename_i hb
   rcases List.mem_append.1 h with h | h
   ·obtain ⟨i, h1, h2⟩ := mem_sel n h; exact ⟨i, by omega, h2⟩
   ·exact ⟨n, by omega, hb, List.mem_singleton.1 h⟩
  ·obtain ⟨i, h1, h2⟩ := mem_sel n h; exact ⟨i, by omega, h2⟩
/-- All pieces of a chunk, or enough of them, give it back. -/
theorem dec_back {D M : Nat} {l : List (List Int)} (hc : chk (D : Int) l (M : Int) = 0) {s : ByteArray} (h4 : s.size ≤ 4096) {x : Nat} (hx : x < 2 ^ (D + l.length + M)) :
  decFor D l M s.size x (piecesFor D l M s) = if canN D l M x = true then (s, 0) else (⟨#[]⟩, 17) := by
 obtain ⟨b1, b2, b3, b4⟩ := (chk_ok hc).bounds
 unfold decFor
 rw [collectOk_rows b1 b4 hx]
 by_cases e : canN D l M x = true
 ·have e2 := (collect_can hc hx (piecesFor D l M s)).2 e
  rw [if_pos e2, if_pos e]
  have hsol := solved_bt (w := D) (n := partN D s) (mask := x) (X := dataV D s) (dataV_isV D s) (rows := rowsOf D l M) (pieces := piecesFor D l M s) rowsOf_rowB
   (fun k hk _ => by rw [rowsOf_length] at hk; rw [rowsOf_rd hk]; exact piece_fits s hk) (by rw [rowsOf_length]; exact e2)
  rw [rowsOf_length] at hsol
  have hf : strOfNums ((fullOf (rowsOf D l M) (collectUpto D x (rowsOf D l M) (piecesFor D l M s) (D + l.length + M))).take s.size) = s := by
   unfold fullOf
   rw [rowWidth_rows b1]
   exact full_data b1 h4 _ (solveRev_length _ _) hsol
  dsimp only
  rw [hf, if_pos (agree_iff.2 fun k _ _ => rfl)]
 ·have e2 : ¬ (collectUpto D x (rowsOf D l M) (piecesFor D l M s) (D + l.length + M)).length = D := fun h => e ((collect_can hc hx _).1 h)
  rw [if_neg e2, if_neg e]
theorem sub_bit {x k : Nat} (h : (x >>> k) % 2 = 1) : 2 ^ k ≤ x ∧ ((x - 2 ^ k) >>> k) % 2 = 0 ∧ ∀ i, ((x - 2 ^ k) >>> i) % 2 = 1 → (x >>> i) % 2 = 1 := by
 obtain ⟨b, hb⟩ : ∃ b, b = x % 2 ^ k := ⟨_, rfl⟩
 obtain ⟨q, hq⟩ : ∃ q, q = x / 2 ^ k := ⟨_, rfl⟩
 have hk : 0 < 2 ^ k := Nat.two_pow_pos k
 have hbl : b < 2 ^ k := by rw [hb]; exact Nat.mod_lt _ hk
 have hx : x = 2 ^ k * q + b := by rw [hb, hq]; exact (Nat.div_add_mod x (2 ^ k)).symm
 rw [Nat.shiftRight_eq_div_pow, ← hq] at h
 obtain ⟨a, rfl⟩ : ∃ a, q = 2 * a + 1 := ⟨q / 2, by omega⟩
 have hy : x - 2 ^ k = 2 ^ k * (2 * a) + b := by rw [hx, Nat.mul_add, Nat.mul_one]; omega
 have t1 : ∀ i, (x >>> i) % 2 = 1 ↔ (if i < k then b.testBit i else (2 * a + 1).testBit (i - k)) = true := by
  intro i; rw [bit_test, hx, Nat.testBit_two_pow_mul_add _ hbl]
 have t2 : ∀ i, ((x - 2 ^ k) >>> i) % 2 = 1 ↔ (if i < k then b.testBit i else (2 * a).testBit (i - k)) = true := by
  intro i; rw [bit_test, hy, Nat.testBit_two_pow_mul_add _ hbl]
 refine ⟨by rw [hx, Nat.mul_add, Nat.mul_one]; omega, ?_, fun i hi => ?_⟩
 ·have h0 := t2 k
  rw [if_neg (Nat.lt_irrefl k), Nat.sub_self] at h0
  have : (2 * a).testBit 0 = false := by simp [Nat.testBit_zero]
  rw [this] at h0
  have h1 : ¬ ((x - 2 ^ k) >>> k) % 2 = 1 := fun h => by cases h0.1 h
  omega
 ·rw [t1]
  rw [t2] at hi
  by_cases c : i < k
  ·rw [if_pos c] at hi ⊢; exact hi
  ·rw [if_neg c] at hi ⊢
   cases hj : i - k with
   | zero => simp [Nat.testBit_zero]
   | succ j =>
    rw [hj, Nat.testBit_succ] at hi
    rw [Nat.testBit_succ, show (2 * a + 1) / 2 = 2 * a / 2 by omega]
    exact hi
/-- Chunks of one size with the same pieces of a set that suffices are the same. -/
theorem same_pieces {D M : Nat} {l : List (List Int)} (hc : chk (D : Int) l (M : Int) = 0) {s t : ByteArray} (hst : s.size = t.size) (h4 : s.size ≤ 4096) {y : Nat} (hcan : canN D l M y = true)
  (h : ∀ i : Nat, i < D + l.length + M → (y >>> i) % 2 = 1 → rdOf ByteArray.empty (piecesFor D l M s) (i : Int) = rdOf ByteArray.empty (piecesFor D l M t) (i : Int)) : s = t := by
 obtain ⟨b1, b2, b3, b4⟩ := (chk_ok hc).bounds
 have hn : partN D t = partN D s := by unfold partN; rw [hst]
 unfold canN at hcan
 obtain ⟨_, _, hfull⟩ := (canB_iff hc _).1 hcan
 rw [Int.toNat_natCast] at hfull
 refine data_inj b1 hst h4 fun b hb i hi => ?_
 have hv : IsV (fun j => ixor (dataV D s b j) (dataV D t b j)) := fun j => isB_xor (dataV_isV D s b j) (dataV_isV D t b j)
 refine ixor_eq_zero (dataV_isV D s b i) (dataV_isV D t b i) (hfull (fun j => ixor (dataV D s b j) (dataV D t b j)) hv (fun r hr => ?_) i hi)
 obtain ⟨j, hj, hjb, rfl⟩ := mem_sel _ hr
 rw [rowsOf_rd hj, dotU_add (rowAt_row D l j) D (Nat.le_refl _)]
 have f1 := (piece_fits s hj).2 b hb
 have f2 := (piece_fits t hj).2 b (by rw [hn]; exact hb)
 dsimp only at f1 f2
 rw [← f1, ← f2, h j hj hjb, ixor_self]
theorem rdOf_set {L : List ByteArray} {k i : Nat} (hk : k < L.length) (p : ByteArray) : rdOf ByteArray.empty (L.set k p) (i : Int) = if i = k then p else rdOf ByteArray.empty L (i : Int) := by
 by_cases e : i = k
 ·subst e; rw [if_pos rfl, rdOf_set_eq hk]
 ·rw [if_neg e, rdOf_set_ne (fun h => e h.symm)]
/-- One piece is another one. -/
theorem dec_bad {D M : Nat} {l : List (List Int)} (hc : chk (D : Int) l (M : Int) = 0) {s : ByteArray} (h4 : s.size ≤ 4096) {x k : Nat} (hx : x < 2 ^ (D + l.length + M)) (hk : k < D + l.length + M) (hxk : (x >>> k) % 2 = 1) (hcan : canN D l M x = true)
  {p : ByteArray} (hp : p.size = partN D s) (hne : p ≠ rdOf ByteArray.empty (piecesFor D l M s) (k : Int)) :
  ((decFor D l M s.size x ((piecesFor D l M s).set k p)).2 = 14 ∨ ((decFor D l M s.size x ((piecesFor D l M s).set k p)).2 = 0 ∧ (decFor D l M s.size x ((piecesFor D l M s).set k p)).1 ≠ s)) ∧
  (canN D l M (x - 2 ^ k) = true → (decFor D l M s.size x ((piecesFor D l M s).set k p)).2 = 14) := by
 obtain ⟨b1, b2, b3, b4⟩ := (chk_ok hc).bounds
 have hkl : k < (piecesFor D l M s).length := by rw [piecesFor_length]; exact hk
 unfold decFor
 rw [collectOk_rows b1 b4 hx]
 have e2 := (collect_can hc hx ((piecesFor D l M s).set k p)).2 hcan
 rw [if_pos e2]
 have hfl := full_len (n := partN D s) b1 (fun i hi _ => by
  rw [rdOf_set hkl]
  by_cases e : i = k
  ·rw [if_pos e]; exact hp
  ·rw [if_neg e]; exact (piece_fits s hi).1) e2
 dsimp only
 generalize ht : strOfNums ((fullOf (rowsOf D l M) (collectUpto D x (rowsOf D l M) ((piecesFor D l M s).set k p) (D + l.length + M))).take s.size) = t
 have hts : s.size = t.size := by
  have := (size_le (D := D) b1 h4).2.1
  rw [← ht, strOfNums_size, List.length_take, hfl]
  exact (Nat.min_eq_left this).symm
 by_cases ea : agree x (piecesFor D l M t) ((piecesFor D l M s).set k p) = true
 ·have ha := agree_iff.1 ea
  rw [List.length_set, piecesFor_length] at ha
  have hne2 : t ≠ s := by
   intro e
   have := ha k hk hxk
   rw [rdOf_set hkl, if_pos rfl, e] at this
   exact hne this.symm
  rw [if_pos ea]
  refine ⟨.inr ⟨rfl, hne2⟩, fun hcan2 => absurd ?_ hne2⟩
  obtain ⟨u1, u2, u3⟩ := sub_bit hxk
  refine (same_pieces hc hts h4 hcan2 fun i hi hb => ?_).symm
  have hik : i ≠ k := by rintro rfl; omega
  have := ha i hi (u3 i hb)
  rw [rdOf_set hkl, if_neg hik] at this
  exact this.symm
 ·rw [if_neg ea]
  exact ⟨.inl rfl, fun _ => rfl⟩

set_option linter.unusedSimpArgs false
theorem any_small {l : List (List Int)} (hl : l.length ≤ 20) (hw : ∀ g ∈ l, g.length ≤ maxLen) : Small l := by
 refine ⟨by omega, fun i => ?_⟩
 by_cases h : i < l.length
 ·have e : rd_L1 l (i : Int) = l[i] := by simp [rd_L1, List.getD_eq_getElem?_getD, List.getElem?_eq_getElem h]
  rw [e]
  have := hw _ (List.getElem_mem h)
  unfold maxLen at this
  omega
 ·have e : rd_L1 l (i : Int) = [] := by simp [rd_L1, List.getD_eq_getElem?_getD, List.getElem?_eq_none (show l.length ≤ i by omega)]
  rw [e]; simp
theorem xor_byte {v x : Int} (hv : isB v = true) (hx : isB x = true) (h0 : x ≠ 0) : isB (Go.bits .xor .u8 v x) = true ∧ Go.bits .xor .u8 v x ≠ v := by
 rw [bits_xor_u8 hv hx]
 refine ⟨isB_xor hv hx, fun h => h0 ?_⟩
 have : ixor v (ixor v x) = x := by rw [← ixor_assoc, ixor_self, ixor_zero hx]
 rw [h, ixor_self] at this
 exact this.symm
/-- A string of which a byte is another one. -/
theorem set_other {p : ByteArray} {i : Nat} {x : Int} (hi : i < p.size) (hx : isB x = true) (h0 : x ≠ 0) :
  (strOfNums ((bytesOf p).set i (Go.bits .xor .u8 (rd (bytesOf p) (i : Int)) x))).size = p.size ∧ strOfNums ((bytesOf p).set i (Go.bits .xor .u8 (rd (bytesOf p) (i : Int)) x)) ≠ p := by
 have hr : rd (bytesOf p) (i : Int) = bt p (i : Int) := rd_bytesOf p i
 obtain ⟨h1, h2⟩ := xor_byte (isB_bt p (i : Int)) hx h0
 rw [hr]
 refine ⟨by rw [strOfNums_size, List.length_set, bytesOf_length], fun e => h2 ?_⟩
 have hall : ∀ y ∈ (bytesOf p).set i (Go.bits .xor .u8 (bt p (i : Int)) x), isB y = true := by
  intro y hy
  rcases List.mem_or_eq_of_mem_set hy with hy | rfl
  ·obtain ⟨t, ht, rfl⟩ := List.mem_iff_getElem.1 hy
   have : rd (bytesOf p) (t : Int) = bt p (t : Int) := rd_bytesOf p t
   rw [rdi ht] at this
   rw [this]; exact isB_bt p _
  ·exact h1
 have hb := bt_get _ hall i (by rw [List.length_set, bytesOf_length]; exact hi)
 rw [e, List.getElem_set_self] at hb
 exact hb.symm
theorem piece_size {D M : Nat} {l : List (List Int)} (s : ByteArray) {t : Nat} (ht : t < D + l.length + M) : (rdOf ByteArray.empty (piecesFor D l M s) (t : Int)).size = zOf D s.size := (piece_fits s ht).1
theorem zOf_bounds {D n : Nat} (h1 : 1 ≤ D) (h0 : n ≠ 0) (hn : n ≤ 4096) : zOf D n ≠ 0 ∧ zOf D n ≤ 4096 := by
 obtain ⟨z1, z2, _⟩ := size_le (D := D) h1 hn
 refine ⟨fun e => ?_, z1⟩
 have : n ≤ D * zOf D n := z2
 rw [e] at this; omega
set_option maxRecDepth 100000 in
theorem trips_walk (d : Int) (A : Option Addr) (c : Nat) (l : List (List Int)) (m : Int) (s : ByteArray) (a0 a1 a2 a3 : Int) (w : World) (hG : HG w) (hC : Kd.C (Kd.slice 3 (Kd.int .i64)) w A l.length l) (hc : l.length ≤ c)
  (hlen : ∀ g ∈ l, g.length ≤ maxLen) (ha0 : 0 ≤ a0) (ha1 : a0 < 4294967296) (ha2 : 0 ≤ a1) (ha3 : a1 < 4294967296) (ha4 : 0 ≤ a2) (ha5 : a2 < 4294967296) (ha6 : 0 ≤ a3) (ha7 : a3 < 4294967296) :
  Calls Tryd.prog 6 #[.agg #[.int .i64 d, .slice A l.length c, .int .i64 m], .string s, .agg #[.int .u32 a0, .int .u32 a1, .int .u32 a2, .int .u32 a3]] w fun e w' => e = .returned (.bool true) ∧ Below w.heap.size w w' := by
 by_cases g1 : 20 < l.length
 ·exact law07_trips.aside 0 d A c l m s a0 a1 a2 a3 0 w hG hC hc (.inl g1)
 by_cases g2 : s.size = 0
 ·exact law07_trips.aside 0 d A c l m s a0 a1 a2 a3 0 w hG hC hc (.inr (.inl g2))
 by_cases g3 : 200 < s.size
 ·exact law07_trips.aside 0 d A c l m s a0 a1 a2 a3 0 w hG hC hc (.inr (.inr (.inl g3)))
 have hs : Small l := any_small (by omega) hlen
 obtain ⟨K1, h1⟩ := cchk_ev d l m hs
 by_cases he : chk d l m = 0
 ·rw [he] at h1
  have hok := chk_ok he
  obtain ⟨D, M, rfl, rfl⟩ := hok.nats
  obtain ⟨b1, b2, b3, b4⟩ := hok.bounds
  have hpp : piecesOf (D : Int) l (M : Int) = ((D + l.length + M : Nat) : Int) := by unfold piecesOf; rw [if_pos he]; omega
  have h4 : s.size ≤ 4096 := by omega
  obtain ⟨K2, h2⟩ := cenc_ev (D : Int) l (M : Int) s hs (by omega)
  have hef : encFor (D : Int) l (M : Int) s = (piecesFor D l M s, 0) := by unfold encFor; rw [if_pos he, if_pos h4]; rfl
  rw [hef] at h2
  obtain ⟨K3, h3⟩ := cpieces_ev (D : Int) l (M : Int) hs
  rw [hpp] at h3
  obtain ⟨x, hx⟩ : ∃ x, x = a0.toNat % 2 ^ (D + l.length + M) := ⟨_, rfl⟩
  have hxlt : x < 2 ^ (D + l.length + M) := by rw [hx]; exact Nat.mod_lt _ (Nat.two_pow_pos _)
  obtain ⟨kk, hkk⟩ : ∃ kk, kk = a1.toNat % (D + l.length + M) := ⟨_, rfl⟩
  have hkl : kk < D + l.length + M := by rw [hkk]; exact Nat.mod_lt _ (by omega)
  obtain ⟨K4, h4r⟩ := crec_ev (D : Int) l (M : Int) (x : Int) hs
  have hz := zOf_bounds b1 g2 h4
  have hbp : ∀ p ∈ piecesFor D l M s, p.size ≤ 100000 := by
   intro p hp
   obtain ⟨t, ht, rfl⟩ := List.mem_iff_getElem.1 hp
   have := piece_size (D := D) (M := M) (l := l) s (t := t) (by rw [piecesFor_length] at ht; exact ht)
   rw [rdOf_at ht] at this
   omega
  obtain ⟨K5, h5⟩ := cdec_ev hs he h4 hxlt (pieces := piecesFor D l M s) (piecesFor_length _ _ _ _) hbp (fun k hk _ => piece_size s hk)
  rw [dec_back he h4 hxlt] at h5
  obtain ⟨p, hp⟩ : ∃ p, p = rdOf ByteArray.empty (piecesFor D l M s) (kk : Int) := ⟨_, rfl⟩
  have hpz : p.size = zOf D s.size := by rw [hp]; exact piece_size s hkl
  obtain ⟨p2, hp2⟩ : ∃ p2, p2 = strOfNums ((bytesOf p).set (a2 % (p.size : Int)).toNat (Go.bits .xor .u8 (rd (bytesOf p) (((a2 % (p.size : Int)).toNat : Nat) : Int)) (a3 % 256))) := ⟨_, rfl⟩
  have hq : (a2 % (p.size : Int)).toNat < p.size := by have := Int.emod_lt_of_pos a2 (show (0 : Int) < (p.size : Int) by omega); omega
  have hp2z : p2.size = p.size := by rw [hp2, strOfNums_size, List.length_set, bytesOf_length]
  have hkl2 : kk < (piecesFor D l M s).length := by rw [piecesFor_length]; exact hkl
  obtain ⟨K6, h6⟩ := cdec_ev hs he h4 hxlt (pieces := (piecesFor D l M s).set kk p2) (by rw [List.length_set, piecesFor_length])
   (fun q hq => by
    rcases List.mem_or_eq_of_mem_set hq with hq | rfl
    ·exact hbp q hq
    ·omega)
   (fun k hk _ => by
    rw [rdOf_set hkl2]
    split
    ·rw [hp2z, hpz]
    ·exact piece_size s hk)
  obtain ⟨K7, h7⟩ := crec_ev (D : Int) l (M : Int) (IntKind.i64.wrap ((x : Int) - IntKind.i64.wrap ((2 : Int) ^ kk))) hs
  obtain ⟨k, hk⟩ : ∃ k, k = K1 + K2 + K3 + K4 + K5 + K6 + K7 := ⟨_, rfl⟩
  by_cases hgo : (x >>> kk) % 2 = 1 ∧ a3 % 256 ≠ 0 ∧ canN D l M x = true
  ·obtain ⟨hbit, hne0, hcan⟩ := hgo
   have hother := set_other (p := p) hq (isB_iff.2 ⟨Int.emod_nonneg a3 (by decide), Int.emod_lt_of_pos a3 (by decide)⟩) hne0
   have hbad := dec_bad he h4 hxlt hkl hbit hcan (p := p2) (by rw [hp2z, hpz]; rfl) (by rw [← hp, hp2]; exact hother.2)
   have hle := (sub_bit hbit).1
   have hwz : IntKind.i64.wrap ((x : Int) - IntKind.i64.wrap ((2 : Int) ^ kk)) = ((x - 2 ^ kk : Nat) : Int) := by
    have q1 : 2 ^ kk < 2 ^ 24 := Nat.pow_lt_pow_right (by decide) (by omega)
    have q2 : x < 2 ^ 24 := Nat.lt_of_lt_of_le hxlt (Nat.pow_le_pow_right (n := 2) (by decide) b4)
    rw [show (2 : Int) ^ kk = ((2 ^ kk : Nat) : Int) by simp]
    clear hkk h7 hbad h6 h5 h4r
    generalize 2 ^ kk = z at q1 hle ⊢
    rw [wraps_i64 (z : Int) (by omega) (by omega), wraps_i64 _ (by omega) (by omega)]
    omega
   refine law07_trips.main k (D : Int) A c l (M : Int) s a0 a1 a2 a3 (D + l.length + M) x (piecesFor D l M s) w hG hC hc (by omega) g2 (by omega) (by omega) b4 (piecesFor_length _ _ _ _) (h1 k (by omega)) (h2 k (by omega)) (h3 k (by omega)) hx ha0 ha1 ha2 ha3 ha4 ha5 ha6 ha7
    (canN D l M x) kk hkk (h4r k (by omega)) (h5 k (by omega)) _ _ rfl rfl p hp p2 hp2 _ _ (h6 k (by omega)) _ (h7 k (by omega)) (fun _ _ _ hc2 => ?_) (fun _ _ _ => hbad.1) (by omega) (by omega)
   refine hbad.2 ?_
   rw [hwz] at hc2
   exact hc2
  ·have hbits : (((x >>> kk % 2 : Nat) : Int) == 0) = false → (a3 % 256 == 0) = false → canN D l M x = true → (x >>> kk) % 2 = 1 ∧ a3 % 256 ≠ 0 ∧ canN D l M x = true := fun q2 q3 q1 => ⟨by have := beq_eq_false_iff_ne.1 q2; omega, beq_eq_false_iff_ne.1 q3, q1⟩
   refine law07_trips.main k (D : Int) A c l (M : Int) s a0 a1 a2 a3 (D + l.length + M) x (piecesFor D l M s) w hG hC hc (by omega) g2 (by omega) (by omega) b4 (piecesFor_length _ _ _ _) (h1 k (by omega)) (h2 k (by omega)) (h3 k (by omega)) hx ha0 ha1 ha2 ha3 ha4 ha5 ha6 ha7
    (canN D l M x) kk hkk (h4r k (by omega)) (h5 k (by omega)) _ _ rfl rfl p hp p2 hp2 _ _ (h6 k (by omega)) _ (h7 k (by omega)) (fun q1 q2 q3 => absurd (hbits q2 q3 q1) hgo) (fun q1 q2 q3 => absurd (hbits q2 q3 q1) hgo) (by omega) (by omega)
 ·exact law07_trips.aside K1 d A c l m s a0 a1 a2 a3 _ w hG hC hc (.inr (.inr (.inr ⟨h1 K1 (Nat.le_refl _), he⟩)))
end Go.Proofs.YtkadfidmfnpohaaDoor.XB
