/- Lemmas for the claim Spec: functions of the program as plain Lean functions, each with its contract, and what is proved of them. -/
import Derived.Test.YtkadfidmfnpohaaDoorQSpec1
import Derived.RangeFuncNested
import Derived.RangeFuncBound
import Derived.RangeFuncCalls
import Derived.RangeFuncLeaves
import Derived.RangeFuncFrom
import Derived.Shelf.Abstract
import Derived.Shelf.RegionOpen
import Derived.OwnWalkIn
import Derived.TacticsInMore
import Derived.LoopNIn
import Derived.LoopIn
import Derived.TacticsIn
import Derived.RegionIn
import Derived.Maps.OwnOps
import Derived.Maps.OwnSet
import Derived.Maps.Views
import Derived.Maps.AppendAt
namespace Go.Proofs.YtkadfidmfnpohaaDoor.XB
open Go.RowKit Go.Proofs.YtkadfidmfnpohaaDoorW.PrintWords Go.Proofs.YtkadfidmfnpohaaDoorW.PrintLast Go.Proofs.YtkadfidmfnpohaaDoorW.PrintMore
set_option linter.unusedVariables false
set_option linter.unusedSimpArgs false

/-! ### bits_OnesCount64: function 100 -/
def bits_OnesCount64.f (a0 : Int) : Option (Int) := some (Go.bits .and .i64 (wrap64 (IntKind.u64.wrap ((IntKind.u64.wrap ((IntKind.u64.wrap ((Go.bits .and .u64 (IntKind.u64.wrap (((IntKind.u64.wrap ((Go.bits .and .u64 ((IntKind.u64.wrap ((Go.bits .and .u64 (a0 / 2) 6148914691236517205) + (Go.bits .and .u64 a0 6148914691236517205))) / 4) 3689348814741910323) + (Go.bits .and .u64 (IntKind.u64.wrap ((Go.bits .and .u64 (a0 / 2) 6148914691236517205) + (Go.bits .and .u64 a0 6148914691236517205))) 3689348814741910323))) / 16) + (IntKind.u64.wrap ((Go.bits .and .u64 ((IntKind.u64.wrap ((Go.bits .and .u64 (a0 / 2) 6148914691236517205) + (Go.bits .and .u64 a0 6148914691236517205))) / 4) 3689348814741910323) + (Go.bits .and .u64 (IntKind.u64.wrap ((Go.bits .and .u64 (a0 / 2) 6148914691236517205) + (Go.bits .and .u64 a0 6148914691236517205))) 3689348814741910323))))) 1085102592571150095) + ((Go.bits .and .u64 (IntKind.u64.wrap (((IntKind.u64.wrap ((Go.bits .and .u64 ((IntKind.u64.wrap ((Go.bits .and .u64 (a0 / 2) 6148914691236517205) + (Go.bits .and .u64 a0 6148914691236517205))) / 4) 3689348814741910323) + (Go.bits .and .u64 (IntKind.u64.wrap ((Go.bits .and .u64 (a0 / 2) 6148914691236517205) + (Go.bits .and .u64 a0 6148914691236517205))) 3689348814741910323))) / 16) + (IntKind.u64.wrap ((Go.bits .and .u64 ((IntKind.u64.wrap ((Go.bits .and .u64 (a0 / 2) 6148914691236517205) + (Go.bits .and .u64 a0 6148914691236517205))) / 4) 3689348814741910323) + (Go.bits .and .u64 (IntKind.u64.wrap ((Go.bits .and .u64 (a0 / 2) 6148914691236517205) + (Go.bits .and .u64 a0 6148914691236517205))) 3689348814741910323))))) 1085102592571150095) / 256))) + ((IntKind.u64.wrap ((Go.bits .and .u64 (IntKind.u64.wrap (((IntKind.u64.wrap ((Go.bits .and .u64 ((IntKind.u64.wrap ((Go.bits .and .u64 (a0 / 2) 6148914691236517205) + (Go.bits .and .u64 a0 6148914691236517205))) / 4) 3689348814741910323) + (Go.bits .and .u64 (IntKind.u64.wrap ((Go.bits .and .u64 (a0 / 2) 6148914691236517205) + (Go.bits .and .u64 a0 6148914691236517205))) 3689348814741910323))) / 16) + (IntKind.u64.wrap ((Go.bits .and .u64 ((IntKind.u64.wrap ((Go.bits .and .u64 (a0 / 2) 6148914691236517205) + (Go.bits .and .u64 a0 6148914691236517205))) / 4) 3689348814741910323) + (Go.bits .and .u64 (IntKind.u64.wrap ((Go.bits .and .u64 (a0 / 2) 6148914691236517205) + (Go.bits .and .u64 a0 6148914691236517205))) 3689348814741910323))))) 1085102592571150095) + ((Go.bits .and .u64 (IntKind.u64.wrap (((IntKind.u64.wrap ((Go.bits .and .u64 ((IntKind.u64.wrap ((Go.bits .and .u64 (a0 / 2) 6148914691236517205) + (Go.bits .and .u64 a0 6148914691236517205))) / 4) 3689348814741910323) + (Go.bits .and .u64 (IntKind.u64.wrap ((Go.bits .and .u64 (a0 / 2) 6148914691236517205) + (Go.bits .and .u64 a0 6148914691236517205))) 3689348814741910323))) / 16) + (IntKind.u64.wrap ((Go.bits .and .u64 ((IntKind.u64.wrap ((Go.bits .and .u64 (a0 / 2) 6148914691236517205) + (Go.bits .and .u64 a0 6148914691236517205))) / 4) 3689348814741910323) + (Go.bits .and .u64 (IntKind.u64.wrap ((Go.bits .and .u64 (a0 / 2) 6148914691236517205) + (Go.bits .and .u64 a0 6148914691236517205))) 3689348814741910323))))) 1085102592571150095) / 256))) / 65536))) + ((IntKind.u64.wrap ((IntKind.u64.wrap ((Go.bits .and .u64 (IntKind.u64.wrap (((IntKind.u64.wrap ((Go.bits .and .u64 ((IntKind.u64.wrap ((Go.bits .and .u64 (a0 / 2) 6148914691236517205) + (Go.bits .and .u64 a0 6148914691236517205))) / 4) 3689348814741910323) + (Go.bits .and .u64 (IntKind.u64.wrap ((Go.bits .and .u64 (a0 / 2) 6148914691236517205) + (Go.bits .and .u64 a0 6148914691236517205))) 3689348814741910323))) / 16) + (IntKind.u64.wrap ((Go.bits .and .u64 ((IntKind.u64.wrap ((Go.bits .and .u64 (a0 / 2) 6148914691236517205) + (Go.bits .and .u64 a0 6148914691236517205))) / 4) 3689348814741910323) + (Go.bits .and .u64 (IntKind.u64.wrap ((Go.bits .and .u64 (a0 / 2) 6148914691236517205) + (Go.bits .and .u64 a0 6148914691236517205))) 3689348814741910323))))) 1085102592571150095) + ((Go.bits .and .u64 (IntKind.u64.wrap (((IntKind.u64.wrap ((Go.bits .and .u64 ((IntKind.u64.wrap ((Go.bits .and .u64 (a0 / 2) 6148914691236517205) + (Go.bits .and .u64 a0 6148914691236517205))) / 4) 3689348814741910323) + (Go.bits .and .u64 (IntKind.u64.wrap ((Go.bits .and .u64 (a0 / 2) 6148914691236517205) + (Go.bits .and .u64 a0 6148914691236517205))) 3689348814741910323))) / 16) + (IntKind.u64.wrap ((Go.bits .and .u64 ((IntKind.u64.wrap ((Go.bits .and .u64 (a0 / 2) 6148914691236517205) + (Go.bits .and .u64 a0 6148914691236517205))) / 4) 3689348814741910323) + (Go.bits .and .u64 (IntKind.u64.wrap ((Go.bits .and .u64 (a0 / 2) 6148914691236517205) + (Go.bits .and .u64 a0 6148914691236517205))) 3689348814741910323))))) 1085102592571150095) / 256))) + ((IntKind.u64.wrap ((Go.bits .and .u64 (IntKind.u64.wrap (((IntKind.u64.wrap ((Go.bits .and .u64 ((IntKind.u64.wrap ((Go.bits .and .u64 (a0 / 2) 6148914691236517205) + (Go.bits .and .u64 a0 6148914691236517205))) / 4) 3689348814741910323) + (Go.bits .and .u64 (IntKind.u64.wrap ((Go.bits .and .u64 (a0 / 2) 6148914691236517205) + (Go.bits .and .u64 a0 6148914691236517205))) 3689348814741910323))) / 16) + (IntKind.u64.wrap ((Go.bits .and .u64 ((IntKind.u64.wrap ((Go.bits .and .u64 (a0 / 2) 6148914691236517205) + (Go.bits .and .u64 a0 6148914691236517205))) / 4) 3689348814741910323) + (Go.bits .and .u64 (IntKind.u64.wrap ((Go.bits .and .u64 (a0 / 2) 6148914691236517205) + (Go.bits .and .u64 a0 6148914691236517205))) 3689348814741910323))))) 1085102592571150095) + ((Go.bits .and .u64 (IntKind.u64.wrap (((IntKind.u64.wrap ((Go.bits .and .u64 ((IntKind.u64.wrap ((Go.bits .and .u64 (a0 / 2) 6148914691236517205) + (Go.bits .and .u64 a0 6148914691236517205))) / 4) 3689348814741910323) + (Go.bits .and .u64 (IntKind.u64.wrap ((Go.bits .and .u64 (a0 / 2) 6148914691236517205) + (Go.bits .and .u64 a0 6148914691236517205))) 3689348814741910323))) / 16) + (IntKind.u64.wrap ((Go.bits .and .u64 ((IntKind.u64.wrap ((Go.bits .and .u64 (a0 / 2) 6148914691236517205) + (Go.bits .and .u64 a0 6148914691236517205))) / 4) 3689348814741910323) + (Go.bits .and .u64 (IntKind.u64.wrap ((Go.bits .and .u64 (a0 / 2) 6148914691236517205) + (Go.bits .and .u64 a0 6148914691236517205))) 3689348814741910323))))) 1085102592571150095) / 256))) / 65536))) / 4294967296)))) 127)
set_option maxHeartbeats 8000000 in
set_option maxRecDepth 100000 in
theorem bits_OnesCount64.calls (a0 : Int) (r : Int) (w : World) (hG : HG w) (h : bits_OnesCount64.f a0 = some r) :
  Calls Tryd.prog 100 #[.int .u64 a0] w fun e w' => e = .returned (.int .i64 r) ∧ Drawn0 w w' := by
 have HGw := Aside0.mk hG
 clear hG
 have H : (some (Go.bits .and .i64 (wrap64 (IntKind.u64.wrap ((IntKind.u64.wrap ((IntKind.u64.wrap ((Go.bits .and .u64 (IntKind.u64.wrap (((IntKind.u64.wrap ((Go.bits .and .u64 ((IntKind.u64.wrap ((Go.bits .and .u64 (a0 / 2) 6148914691236517205) + (Go.bits .and .u64 a0 6148914691236517205))) / 4) 3689348814741910323) + (Go.bits .and .u64 (IntKind.u64.wrap ((Go.bits .and .u64 (a0 / 2) 6148914691236517205) + (Go.bits .and .u64 a0 6148914691236517205))) 3689348814741910323))) / 16) + (IntKind.u64.wrap ((Go.bits .and .u64 ((IntKind.u64.wrap ((Go.bits .and .u64 (a0 / 2) 6148914691236517205) + (Go.bits .and .u64 a0 6148914691236517205))) / 4) 3689348814741910323) + (Go.bits .and .u64 (IntKind.u64.wrap ((Go.bits .and .u64 (a0 / 2) 6148914691236517205) + (Go.bits .and .u64 a0 6148914691236517205))) 3689348814741910323))))) 1085102592571150095) + ((Go.bits .and .u64 (IntKind.u64.wrap (((IntKind.u64.wrap ((Go.bits .and .u64 ((IntKind.u64.wrap ((Go.bits .and .u64 (a0 / 2) 6148914691236517205) + (Go.bits .and .u64 a0 6148914691236517205))) / 4) 3689348814741910323) + (Go.bits .and .u64 (IntKind.u64.wrap ((Go.bits .and .u64 (a0 / 2) 6148914691236517205) + (Go.bits .and .u64 a0 6148914691236517205))) 3689348814741910323))) / 16) + (IntKind.u64.wrap ((Go.bits .and .u64 ((IntKind.u64.wrap ((Go.bits .and .u64 (a0 / 2) 6148914691236517205) + (Go.bits .and .u64 a0 6148914691236517205))) / 4) 3689348814741910323) + (Go.bits .and .u64 (IntKind.u64.wrap ((Go.bits .and .u64 (a0 / 2) 6148914691236517205) + (Go.bits .and .u64 a0 6148914691236517205))) 3689348814741910323))))) 1085102592571150095) / 256))) + ((IntKind.u64.wrap ((Go.bits .and .u64 (IntKind.u64.wrap (((IntKind.u64.wrap ((Go.bits .and .u64 ((IntKind.u64.wrap ((Go.bits .and .u64 (a0 / 2) 6148914691236517205) + (Go.bits .and .u64 a0 6148914691236517205))) / 4) 3689348814741910323) + (Go.bits .and .u64 (IntKind.u64.wrap ((Go.bits .and .u64 (a0 / 2) 6148914691236517205) + (Go.bits .and .u64 a0 6148914691236517205))) 3689348814741910323))) / 16) + (IntKind.u64.wrap ((Go.bits .and .u64 ((IntKind.u64.wrap ((Go.bits .and .u64 (a0 / 2) 6148914691236517205) + (Go.bits .and .u64 a0 6148914691236517205))) / 4) 3689348814741910323) + (Go.bits .and .u64 (IntKind.u64.wrap ((Go.bits .and .u64 (a0 / 2) 6148914691236517205) + (Go.bits .and .u64 a0 6148914691236517205))) 3689348814741910323))))) 1085102592571150095) + ((Go.bits .and .u64 (IntKind.u64.wrap (((IntKind.u64.wrap ((Go.bits .and .u64 ((IntKind.u64.wrap ((Go.bits .and .u64 (a0 / 2) 6148914691236517205) + (Go.bits .and .u64 a0 6148914691236517205))) / 4) 3689348814741910323) + (Go.bits .and .u64 (IntKind.u64.wrap ((Go.bits .and .u64 (a0 / 2) 6148914691236517205) + (Go.bits .and .u64 a0 6148914691236517205))) 3689348814741910323))) / 16) + (IntKind.u64.wrap ((Go.bits .and .u64 ((IntKind.u64.wrap ((Go.bits .and .u64 (a0 / 2) 6148914691236517205) + (Go.bits .and .u64 a0 6148914691236517205))) / 4) 3689348814741910323) + (Go.bits .and .u64 (IntKind.u64.wrap ((Go.bits .and .u64 (a0 / 2) 6148914691236517205) + (Go.bits .and .u64 a0 6148914691236517205))) 3689348814741910323))))) 1085102592571150095) / 256))) / 65536))) + ((IntKind.u64.wrap ((IntKind.u64.wrap ((Go.bits .and .u64 (IntKind.u64.wrap (((IntKind.u64.wrap ((Go.bits .and .u64 ((IntKind.u64.wrap ((Go.bits .and .u64 (a0 / 2) 6148914691236517205) + (Go.bits .and .u64 a0 6148914691236517205))) / 4) 3689348814741910323) + (Go.bits .and .u64 (IntKind.u64.wrap ((Go.bits .and .u64 (a0 / 2) 6148914691236517205) + (Go.bits .and .u64 a0 6148914691236517205))) 3689348814741910323))) / 16) + (IntKind.u64.wrap ((Go.bits .and .u64 ((IntKind.u64.wrap ((Go.bits .and .u64 (a0 / 2) 6148914691236517205) + (Go.bits .and .u64 a0 6148914691236517205))) / 4) 3689348814741910323) + (Go.bits .and .u64 (IntKind.u64.wrap ((Go.bits .and .u64 (a0 / 2) 6148914691236517205) + (Go.bits .and .u64 a0 6148914691236517205))) 3689348814741910323))))) 1085102592571150095) + ((Go.bits .and .u64 (IntKind.u64.wrap (((IntKind.u64.wrap ((Go.bits .and .u64 ((IntKind.u64.wrap ((Go.bits .and .u64 (a0 / 2) 6148914691236517205) + (Go.bits .and .u64 a0 6148914691236517205))) / 4) 3689348814741910323) + (Go.bits .and .u64 (IntKind.u64.wrap ((Go.bits .and .u64 (a0 / 2) 6148914691236517205) + (Go.bits .and .u64 a0 6148914691236517205))) 3689348814741910323))) / 16) + (IntKind.u64.wrap ((Go.bits .and .u64 ((IntKind.u64.wrap ((Go.bits .and .u64 (a0 / 2) 6148914691236517205) + (Go.bits .and .u64 a0 6148914691236517205))) / 4) 3689348814741910323) + (Go.bits .and .u64 (IntKind.u64.wrap ((Go.bits .and .u64 (a0 / 2) 6148914691236517205) + (Go.bits .and .u64 a0 6148914691236517205))) 3689348814741910323))))) 1085102592571150095) / 256))) + ((IntKind.u64.wrap ((Go.bits .and .u64 (IntKind.u64.wrap (((IntKind.u64.wrap ((Go.bits .and .u64 ((IntKind.u64.wrap ((Go.bits .and .u64 (a0 / 2) 6148914691236517205) + (Go.bits .and .u64 a0 6148914691236517205))) / 4) 3689348814741910323) + (Go.bits .and .u64 (IntKind.u64.wrap ((Go.bits .and .u64 (a0 / 2) 6148914691236517205) + (Go.bits .and .u64 a0 6148914691236517205))) 3689348814741910323))) / 16) + (IntKind.u64.wrap ((Go.bits .and .u64 ((IntKind.u64.wrap ((Go.bits .and .u64 (a0 / 2) 6148914691236517205) + (Go.bits .and .u64 a0 6148914691236517205))) / 4) 3689348814741910323) + (Go.bits .and .u64 (IntKind.u64.wrap ((Go.bits .and .u64 (a0 / 2) 6148914691236517205) + (Go.bits .and .u64 a0 6148914691236517205))) 3689348814741910323))))) 1085102592571150095) + ((Go.bits .and .u64 (IntKind.u64.wrap (((IntKind.u64.wrap ((Go.bits .and .u64 ((IntKind.u64.wrap ((Go.bits .and .u64 (a0 / 2) 6148914691236517205) + (Go.bits .and .u64 a0 6148914691236517205))) / 4) 3689348814741910323) + (Go.bits .and .u64 (IntKind.u64.wrap ((Go.bits .and .u64 (a0 / 2) 6148914691236517205) + (Go.bits .and .u64 a0 6148914691236517205))) 3689348814741910323))) / 16) + (IntKind.u64.wrap ((Go.bits .and .u64 ((IntKind.u64.wrap ((Go.bits .and .u64 (a0 / 2) 6148914691236517205) + (Go.bits .and .u64 a0 6148914691236517205))) / 4) 3689348814741910323) + (Go.bits .and .u64 (IntKind.u64.wrap ((Go.bits .and .u64 (a0 / 2) 6148914691236517205) + (Go.bits .and .u64 a0 6148914691236517205))) 3689348814741910323))))) 1085102592571150095) / 256))) / 65536))) / 4294967296)))) 127)) = some r := h
 clear h
 obtain rfl := Option.some.inj H
 go_enter Tryd.func100, Tryd.ntmps100
 go_wp2
 go_ret
 exact ⟨by first | rfl | (simp; done) | (simp [*]; done), by repeat (first | exact Drawn0.refl _ | apply Drawn0.step)⟩


/-! ### bits_OnesCount: function 79 -/
def bits_OnesCount.f (a0 : Int) : Option (Int) := (bits_OnesCount64.f a0).bind fun t264 => (some t264)
set_option maxHeartbeats 8000000 in
set_option maxRecDepth 100000 in
theorem bits_OnesCount.calls (a0 : Int) (r : Int) (w : World) (hG : HG w) (h : bits_OnesCount.f a0 = some r) :
  Calls Tryd.prog 79 #[.int .u64 a0] w fun e w' => e = .returned (.int .i64 r) ∧ Drawn0 w w' := by
 have HGw := Aside0.mk hG
 clear hG
 have H : ((bits_OnesCount64.f a0).bind fun t264 => (some t264)) = some r := h
 clear h
 replace H := Option.bind_eq_some_iff.mp H
 obtain ⟨t264, A20, H⟩ := H
 replace H : (some t264) = some r := H
 have A2 := Aside0.mk A20
 clear A20
 obtain rfl := Option.some.inj H
 go_enter Tryd.func79, Tryd.ntmps79
 go_wp2_with (first | ((with_reducible refine gate_callee (f := 100) rfl ?_); refine goesL_ (some 7) rfl rfl Tryd.func100 (by kernel_rfl) rfl #[.int .u64 a0] rfl (by (try simp only [List.map_toArray, List.map_cons, List.map_nil]); first | done | rfl | (simp only [List.length_drop, List.length_take]; rfl)) ?_; (with_reducible refine (bits_OnesCount64.calls a0 t264 _ ?side1 A2.out).mono ?_); (case side1 => first | exact HGw.out | (repeat (first | exact HGw.out | apply HG.drewN | apply HG.drew))); rintro e w' ⟨rfl, ⟨nd, rfl⟩⟩; refine ⟨_, rfl, ?_⟩))
 go_ret
 exact ⟨by first | rfl | (simp; done) | (simp [*]; done), by repeat (first | exact Drawn0.refl _ | apply Drawn0.step)⟩


/-! ### code_sets: function 72 -/
section
open Go.Shelf
attribute [local go_sem] Oper.semAt_some
/-- How many ones a number has. -/
def onesOf (m : Nat) : Int := (bits_OnesCount.f (m : Int)).getD 0
theorem ones64_some (a : Int) : ∃ r, bits_OnesCount64.f a = some r := ⟨_, by unfold bits_OnesCount64.f; exact rfl⟩
theorem ones_some (m : Nat) : bits_OnesCount.f (m : Int) = some (onesOf m) := by
 unfold onesOf bits_OnesCount.f
 obtain ⟨r, hr⟩ := ones64_some (m : Int)
 rw [hr]
 rfl
theorem ones_calls (m : Nat) (w : World) (hG : HG w) : Calls Tryd.prog 79 #[.int .u64 (m : Int)] w fun e w' => e = .returned (.int .i64 (onesOf m)) ∧ Drawn0 w w' :=
 bits_OnesCount.calls (m : Int) _ w hG (ones_some m)
end


/-! ### code_Distance: function 32 -/
section
open Go.Shelf
attribute [local go_sem] Oper.semAt_some
theorem blk_keep_ {w : World} {g : Nat} {o : Obj} (h : w.heap[g]? = some o) (g2 : Nat) (hne : g ≠ g2) (j : Nat) (u : Value) : (w.setCell ⟨g2, j, none⟩ u).heap[g]? = some o := (Below.heap_setCell w ⟨g2, j, none⟩ u g hne).trans h
theorem blk_new1 (w : World) (o o' : Obj) : ((w.alloc o).alloc o').heap[w.heap.size + 1]? = some o' := by
 have := blk_new (w.alloc o) o'
 rwa [World.size_alloc] at this
/-- The marks of loops over functions that have run, as a function leaves. -/
def Marks (B : Nat) (Ds : List Nat) (W : World) : Prop := Ds.Nodup ∧ ∀ D, D ∈ Ds → B ≤ D ∧ W.heap[D]? = some (.deferred (some []))
theorem Marks.keep {B N : Nat} {Ds : List Nat} {W W' : World} (h : Marks B Ds W) (hb : Below N W W') (hl : ∀ D, D ∈ Ds → D < N) : Marks B Ds W' := ⟨h.1, fun D hd => ⟨(h.2 D hd).1, (hb.block D (hl D hd)).trans (h.2 D hd).2⟩⟩
theorem Marks.set {B : Nat} {Ds : List Nat} {W : World} (h : Marks B Ds W) (g : Nat) (hg : g < B) (j : Nat) (u : Value) : Marks B Ds (W.setCell ⟨g, j, none⟩ u) := ⟨h.1, fun D hd => ⟨(h.2 D hd).1, blk_keep_ (h.2 D hd).2 g (by have := (h.2 D hd).1; omega) j u⟩⟩
/-- What lies at the end: the two results. -/
def DistEnd (Bd Be : Nat) (x y : Int) (w W : World) : Prop := W.cell? ⟨Bd, 0, none⟩ = some (.int .i64 x) ∧ W.cell? ⟨Be, 0, none⟩ = some (.int .i64 y) ∧ Below w.heap.size w W
theorem DistEnd.put {Bd Be : Nat} {x y : Int} {w : World} (B : Nat) (hB : w.heap.size ≤ B) (W : World) (D : Nat) (h : DistEnd Bd Be x y w W) (hD : B ≤ D) (hd : W.heap[D]? = some (.deferred (some []))) : DistEnd Bd Be x y w (W.putObj D (.deferred none)) := by
 obtain ⟨h1, h2, h3⟩ := h
 exact ⟨cell_kept h1 (grownBy_putObj' W D _) (fun r e => by cases e; exact ⟨_, hd, rfl⟩), cell_kept h2 (grownBy_putObj' W D _) (fun r e => by cases e; exact ⟨_, hd, rfl⟩), h3.trans (belowK_b (w := w) (Nat.le_refl _) W D _ _ (Nat.le_trans hB hD) hd rfl rfl)⟩
end


/-! ### code_Pieces: function 21 -/
def code_Pieces.f (k : Nat) (a0_0 : Int) (l0_1 : List (List Int)) (a0_2 : Int) : Option (Int) := (code_Check.f k a0_0 l0_1 a0_2).bind fun t261 => (if t261 = 0 then (some (wrap64 ((wrap64 (a0_0 + (l0_1.length : Int))) + a0_2))) else (some 0))
set_option maxHeartbeats 8000000 in
set_option maxRecDepth 100000 in
theorem code_Pieces.calls (k : Nat) (a0_0 : Int) (A0_1 : Option Addr) (c0_1 : Nat) (l0_1 : List (List Int)) (a0_2 : Int) (r : Int) (w : World) (hG : HG w) (hr0_1 : Kd.C (Kd.slice 3 (Kd.int .i64)) w A0_1 l0_1.length l0_1) (hc0_1 : l0_1.length ≤ c0_1) (h : code_Pieces.f k a0_0 l0_1 a0_2 = some r) :
  Calls Tryd.prog 21 #[.agg #[.int .i64 a0_0, .slice A0_1 l0_1.length c0_1, .int .i64 a0_2]] w fun e w' => e = .returned (.int .i64 r) ∧ Below w.heap.size w w' := by
 have HGw := Aside0.mk hG
 clear hG
 have hu24 := Tryd.underlying24
 have HR0_1 := Aside0.mk hr0_1
 have HC0_1 := Aside0.mk hc0_1
 clear hr0_1 hc0_1
 have HB := Aside0.mk (Below.refl w.heap.size w)
 have H : ((code_Check.f k a0_0 l0_1 a0_2).bind fun t261 => (if t261 = 0 then (some (wrap64 ((wrap64 (a0_0 + (l0_1.length : Int))) + a0_2))) else (some 0))) = some r := h
 clear h
 replace H := Option.bind_eq_some_iff.mp H
 obtain ⟨t261, A20, H⟩ := H
 replace H : (if t261 = 0 then (some (wrap64 ((wrap64 (a0_0 + (l0_1.length : Int))) + a0_2))) else (some 0)) = some r := H
 have A2 := Aside0.mk A20
 clear A20
 by_cases c3 : t261 = 0
 ·rw [if_pos c3] at H
  have c3b0 : (t261 == 0) = true := beq_iff_eq.mpr c3
  have c3b1 : (t261 != 0) = false := bne_eq_false_iff_eq.mpr c3
  clear c3
  obtain rfl := Option.some.inj H
  go_enter Tryd.func21, Tryd.ntmps21
  go_wp2_with (first | ((with_reducible refine gate_dst (N := 1) rfl ?_); refine box_event ?hg (N := 1) ?hd (cs := #[.int .i64 a0_0, .slice A0_1 l0_1.length c0_1, .int .i64 a0_2]) (t := 24) ?hr ?_; (case hd => rfl); (case hg => rfl); (case hr => first | (go_simp; done) | (go_simp; rfl)); intro gb260 hg w4 hbox hb; have n0_ := Aside0.mk (below_step (by repeat (first | (with_reducible first | exact HB.out | apply below_alloc | apply pw_below_drewN | apply below_drew1) | exact HB.out)) hb); have n1_ := Aside0.mk (hbox); have n2_ := Aside0.mk ((by rw [hg]; exact (below_size (by repeat (first | (with_reducible first | exact HB.out | apply below_alloc | apply pw_below_drewN | apply below_drew1) | exact HB.out))) : w.heap.size ≤ gb260)); have n3_ := Aside0.mk ((by rw [hg]; exact (below_size (by repeat (first | (with_reducible first | exact HB.out | apply below_alloc | apply pw_below_drewN | apply below_drew1) | exact HB.out))) : w.heap.size ≤ gb260)); clear HB; have HB := n0_; have BK260 := n1_; have GW260 := n2_; have GE260 := n3_; clear n0_ n1_ n2_ n3_; clear hb hbox hg; have hcz5_0 : w4.cell? ⟨gb260, 0, none⟩ = some (.int .i64 a0_0) := (blk_cell BK260.out 0).trans rfl; have hcz5_1 : w4.cell? ⟨gb260, 1, none⟩ = some (.slice A0_1 l0_1.length c0_1) := (blk_cell BK260.out 1).trans rfl; have hcz5_2 : w4.cell? ⟨gb260, 2, none⟩ = some (.int .i64 a0_2) := (blk_cell BK260.out 2).trans rfl; have hfz5_0 := blk_frozen BK260.out 0; have hfz5_1 := blk_frozen BK260.out 1; have hfz5_2 := blk_frozen BK260.out 2) | ((with_reducible refine gate_callee (f := 20) rfl ?_); refine goesL_ (some 4) rfl rfl Tryd.func20 (by kernel_rfl) rfl #[.agg #[.int .i64 a0_0, .slice A0_1 l0_1.length c0_1, .int .i64 a0_2]] rfl (by (try simp only [List.map_toArray, List.map_cons, List.map_nil]); first | done | rfl | (simp only [List.length_drop, List.length_take]; rfl)) ?_; (with_reducible refine (code_Check.calls k a0_0 _ _ l0_1 a0_2 t261 _ ?side1 ?side2 ?side3 A2.out).mono ?_); (case side1 => exact HG.below HGw.out (by repeat (first | (with_reducible first | exact HB.out | apply below_alloc | apply pw_below_drewN | apply below_drew1 | refine below_set ?_ GE260.out) | exact HB.out))); (case side2 => repeat (first | exact (Kd.C_below HR0_1.out HB.out) | (with_reducible refine Kd.C_alloc ?_ _) | (with_reducible refine Kd.C_drewN ?_ _) | (with_reducible refine Kd.C_drew ?_))); (case side3 => exact HC0_1.out); rintro e w6 ⟨rfl, hb⟩; refine ⟨_, rfl, ?_⟩; have n0_ := Aside0.mk (blk_below (g := gb260) (o := .cells #[.int .i64 a0_0, .slice A0_1 l0_1.length c0_1, .int .i64 a0_2] 24 (0, 0)) (by (with_reducible repeat (first | refine blk_drewN ?_ _ | refine blk_drew ?_ | refine blk_alloc ?_ _)); exact BK260.out) hb); have n1_ := Aside0.mk (below_step (by repeat (first | (with_reducible first | exact HB.out | apply below_alloc | apply pw_below_drewN | apply below_drew1 | refine below_set ?_ GE260.out) | exact HB.out)) hb); clear BK260; clear HB; have BK260 := n0_; have HB := n1_; clear n0_ n1_; (try clear hb); (try clear hb2); (try clear hk); (try clear hi); have hcz7_0 : w6.cell? ⟨gb260, 0, none⟩ = some (.int .i64 a0_0) := (blk_cell BK260.out 0).trans rfl; have hcz7_1 : w6.cell? ⟨gb260, 1, none⟩ = some (.slice A0_1 l0_1.length c0_1) := (blk_cell BK260.out 1).trans rfl; have hcz7_2 : w6.cell? ⟨gb260, 2, none⟩ = some (.int .i64 a0_2) := (blk_cell BK260.out 2).trans rfl; have hfz7_0 := blk_frozen BK260.out 0; have hfz7_1 := blk_frozen BK260.out 1; have hfz7_2 := blk_frozen BK260.out 2))
  go_ret
  exact ⟨by first | rfl | (simp [errW_none, errW_some] <;> rfl) | (simp [*, errW_none, errW_some] <;> rfl), by repeat (first | (with_reducible first | exact HB.out | apply below_alloc | apply pw_below_drewN | apply below_drew1 | refine below_set ?_ GE260.out) | exact HB.out)⟩
 ·rw [if_neg c3] at H
  have c3b0 : (t261 == 0) = false := beq_eq_false_iff_ne.mpr c3
  have c3b1 : (t261 != 0) = true := bne_iff_ne.mpr c3
  obtain rfl := Option.some.inj H
  go_enter Tryd.func21, Tryd.ntmps21
  go_wp2_with (first | ((with_reducible refine gate_dst (N := 1) rfl ?_); refine box_event ?hg (N := 1) ?hd (cs := #[.int .i64 a0_0, .slice A0_1 l0_1.length c0_1, .int .i64 a0_2]) (t := 24) ?hr ?_; (case hd => rfl); (case hg => rfl); (case hr => first | (go_simp; done) | (go_simp; rfl)); intro gb260 hg w8 hbox hb; have n0_ := Aside0.mk (below_step (by repeat (first | (with_reducible first | exact HB.out | apply below_alloc | apply pw_below_drewN | apply below_drew1) | exact HB.out)) hb); have n1_ := Aside0.mk (hbox); have n2_ := Aside0.mk ((by rw [hg]; exact (below_size (by repeat (first | (with_reducible first | exact HB.out | apply below_alloc | apply pw_below_drewN | apply below_drew1) | exact HB.out))) : w.heap.size ≤ gb260)); have n3_ := Aside0.mk ((by rw [hg]; exact (below_size (by repeat (first | (with_reducible first | exact HB.out | apply below_alloc | apply pw_below_drewN | apply below_drew1) | exact HB.out))) : w.heap.size ≤ gb260)); clear HB; have HB := n0_; have BK260 := n1_; have GW260 := n2_; have GE260 := n3_; clear n0_ n1_ n2_ n3_; clear hb hbox hg; have hcz9_0 : w8.cell? ⟨gb260, 0, none⟩ = some (.int .i64 a0_0) := (blk_cell BK260.out 0).trans rfl; have hcz9_1 : w8.cell? ⟨gb260, 1, none⟩ = some (.slice A0_1 l0_1.length c0_1) := (blk_cell BK260.out 1).trans rfl; have hcz9_2 : w8.cell? ⟨gb260, 2, none⟩ = some (.int .i64 a0_2) := (blk_cell BK260.out 2).trans rfl; have hfz9_0 := blk_frozen BK260.out 0; have hfz9_1 := blk_frozen BK260.out 1; have hfz9_2 := blk_frozen BK260.out 2) | ((with_reducible refine gate_callee (f := 20) rfl ?_); refine goesL_ (some 4) rfl rfl Tryd.func20 (by kernel_rfl) rfl #[.agg #[.int .i64 a0_0, .slice A0_1 l0_1.length c0_1, .int .i64 a0_2]] rfl (by (try simp only [List.map_toArray, List.map_cons, List.map_nil]); first | done | rfl | (simp only [List.length_drop, List.length_take]; rfl)) ?_; (with_reducible refine (code_Check.calls k a0_0 _ _ l0_1 a0_2 t261 _ ?side1 ?side2 ?side3 A2.out).mono ?_); (case side1 => exact HG.below HGw.out (by repeat (first | (with_reducible first | exact HB.out | apply below_alloc | apply pw_below_drewN | apply below_drew1 | refine below_set ?_ GE260.out) | exact HB.out))); (case side2 => repeat (first | exact (Kd.C_below HR0_1.out HB.out) | (with_reducible refine Kd.C_alloc ?_ _) | (with_reducible refine Kd.C_drewN ?_ _) | (with_reducible refine Kd.C_drew ?_))); (case side3 => exact HC0_1.out); rintro e w10 ⟨rfl, hb⟩; refine ⟨_, rfl, ?_⟩; have n0_ := Aside0.mk (blk_below (g := gb260) (o := .cells #[.int .i64 a0_0, .slice A0_1 l0_1.length c0_1, .int .i64 a0_2] 24 (0, 0)) (by (with_reducible repeat (first | refine blk_drewN ?_ _ | refine blk_drew ?_ | refine blk_alloc ?_ _)); exact BK260.out) hb); have n1_ := Aside0.mk (below_step (by repeat (first | (with_reducible first | exact HB.out | apply below_alloc | apply pw_below_drewN | apply below_drew1 | refine below_set ?_ GE260.out) | exact HB.out)) hb); clear BK260; clear HB; have BK260 := n0_; have HB := n1_; clear n0_ n1_; (try clear hb); (try clear hb2); (try clear hk); (try clear hi)))
  go_ret
  exact ⟨by first | rfl | (simp [errW_none, errW_some] <;> rfl) | (simp [*, errW_none, errW_some] <;> rfl), by repeat (first | (with_reducible first | exact HB.out | apply below_alloc | apply pw_below_drewN | apply below_drew1 | refine below_set ?_ GE260.out) | exact HB.out)⟩


/-! ### risk_Check: function 50 -/
mutual
def risk_Check.l0 : Nat → Int → List Int → Int → Int → Int → List (List Int) → Int → List Int → List Int → Option (Int)
 | 0, _, _, _, _, _, _, _, _, _ => none
 | k + 1, x4, x28, x29, x30, x266000, x266001, x266002, x266003, x266004 => if x30 < x29 then (if 0 ≤ x30 then (if x30 < (x28.length : Int) then (if (rd x28 x30) < (-1) then (some 1) else (if (rd x28 x30) ≥ x4 then (some 1) else (risk_Check.l0 k x4 x28 x29 (wrap64 (x30 + 1)) x266000 x266001 x266002 x266003 x266004))) else (none)) else (none)) else (risk_Check.l1 k x266004 (x266004.length : Int) 0)
def risk_Check.l1 : Nat → List Int → Int → Int → Option (Int)
 | 0, _, _, _ => none
 | k + 1, x43, x44, x45 => if x45 < x44 then (if 0 ≤ x45 then (if x45 < (x43.length : Int) then (if (rd x43 x45) < 0 then (some 3) else (if (rd x43 x45) > 16 then (some 3) else (risk_Check.l1 k x43 x44 (wrap64 (x45 + 1))))) else (none)) else (none)) else (some 0)
end
def risk_Check.f (k : Nat) (a0_0 : Int) (l0_1 : List (List Int)) (a0_2 : Int) (l0_3 : List Int) (l0_4 : List Int) : Option (Int) := (code_Check.f k a0_0 l0_1 a0_2).bind fun t266 => (if t266 = 0 then (if (l0_4.length : Int) > 12 then (some 2) else ((code_Pieces.f k a0_0 l0_1 a0_2).bind fun t267 => (if (l0_3.length : Int) = t267 then (risk_Check.l0 k (l0_4.length : Int) l0_3 (l0_3.length : Int) 0 a0_0 l0_1 a0_2 l0_3 l0_4) else (some 1)))) else (some t266))
set_option maxHeartbeats 8000000 in
set_option maxRecDepth 100000 in
theorem risk_Check.calls (k : Nat) (a0_0 : Int) (A0_1 : Option Addr) (c0_1 : Nat) (l0_1 : List (List Int)) (a0_2 : Int) (A0_3 : Option Addr) (c0_3 : Nat) (l0_3 : List Int) (A0_4 : Option Addr) (c0_4 : Nat) (l0_4 : List Int) (r : Int) (w : World) (hG : HG w) (hr0_1 : Kd.C (Kd.slice 3 (Kd.int .i64)) w A0_1 l0_1.length l0_1) (hc0_1 : l0_1.length ≤ c0_1) (hr0_3 : Kd.C (Kd.int .i64) w A0_3 l0_3.length l0_3) (hc0_3 : l0_3.length ≤ c0_3) (hr0_4 : Kd.C (Kd.int .i64) w A0_4 l0_4.length l0_4) (hc0_4 : l0_4.length ≤ c0_4) (h : risk_Check.f k a0_0 l0_1 a0_2 l0_3 l0_4 = some r) :
  Calls Tryd.prog 50 #[.agg #[.int .i64 a0_0, .slice A0_1 l0_1.length c0_1, .int .i64 a0_2, .slice A0_3 l0_3.length c0_3, .slice A0_4 l0_4.length c0_4]] w fun e w' => e = .returned (.int .i64 r) ∧ Below w.heap.size w w' := by
 have HGw := Aside0.mk hG
 clear hG
 have hu64 := Tryd.underlying64
 have hu24 := Tryd.underlying24
 have HR0_1 := Aside0.mk hr0_1
 have HC0_1 := Aside0.mk hc0_1
 clear hr0_1 hc0_1
 have HR0_3 := Aside0.mk hr0_3
 have HC0_3 := Aside0.mk hc0_3
 clear hr0_3 hc0_3
 have HR0_4 := Aside0.mk hr0_4
 have HC0_4 := Aside0.mk hc0_4
 clear hr0_4 hc0_4
 have HB := Aside0.mk (Below.refl w.heap.size w)
 have H : ((code_Check.f k a0_0 l0_1 a0_2).bind fun t266 => (if t266 = 0 then (if (l0_4.length : Int) > 12 then (some 2) else ((code_Pieces.f k a0_0 l0_1 a0_2).bind fun t267 => (if (l0_3.length : Int) = t267 then (risk_Check.l0 k (l0_4.length : Int) l0_3 (l0_3.length : Int) 0 a0_0 l0_1 a0_2 l0_3 l0_4) else (some 1)))) else (some t266))) = some r := h
 clear h
 replace H := Option.bind_eq_some_iff.mp H
 obtain ⟨t266, A20, H⟩ := H
 replace H : (if t266 = 0 then (if (l0_4.length : Int) > 12 then (some 2) else ((code_Pieces.f k a0_0 l0_1 a0_2).bind fun t267 => (if (l0_3.length : Int) = t267 then (risk_Check.l0 k (l0_4.length : Int) l0_3 (l0_3.length : Int) 0 a0_0 l0_1 a0_2 l0_3 l0_4) else (some 1)))) else (some t266)) = some r := H
 have A2 := Aside0.mk A20
 clear A20
 by_cases c3 : t266 = 0
 ·rw [if_pos c3] at H
  have c3b0 : (t266 == 0) = true := beq_iff_eq.mpr c3
  have c3b1 : (t266 != 0) = false := bne_eq_false_iff_eq.mpr c3
  clear c3
  by_cases c4 : (l0_4.length : Int) > 12
  ·rw [if_pos c4] at H
   have c4b0 : decide (12 < (l0_4.length : Int)) = true := decide_eq_true c4
   have c4b1 : decide (12 < l0_4.length) = true := decide_eq_true (by omega)
   clear c4
   obtain rfl := Option.some.inj H
   go_enter Tryd.func50, Tryd.ntmps50
   go_wp2_with (first | ((with_reducible refine gate_dst (N := 1) rfl ?_); refine box_event ?hg (N := 1) ?hd (cs := #[.int .i64 a0_0, .slice A0_1 l0_1.length c0_1, .int .i64 a0_2, .slice A0_3 l0_3.length c0_3, .slice A0_4 l0_4.length c0_4]) (t := 64) ?hr ?_; (case hd => rfl); (case hg => rfl); (case hr => first | (go_simp; done) | (go_simp; rfl)); intro gb265 hg w5 hbox hb; have n0_ := Aside0.mk (below_step (by repeat (first | (with_reducible first | exact HB.out | apply below_alloc | apply pw_below_drewN | apply below_drew1) | exact HB.out)) hb); have n1_ := Aside0.mk (hbox); have n2_ := Aside0.mk ((by rw [hg]; exact (below_size (by repeat (first | (with_reducible first | exact HB.out | apply below_alloc | apply pw_below_drewN | apply below_drew1) | exact HB.out))) : w.heap.size ≤ gb265)); have n3_ := Aside0.mk ((by rw [hg]; exact (below_size (by repeat (first | (with_reducible first | exact HB.out | apply below_alloc | apply pw_below_drewN | apply below_drew1) | exact HB.out))) : w.heap.size ≤ gb265)); clear HB; have HB := n0_; have BK265 := n1_; have GW265 := n2_; have GE265 := n3_; clear n0_ n1_ n2_ n3_; clear hb hbox hg; have hcz6_0 : w5.cell? ⟨gb265, 0, none⟩ = some (.int .i64 a0_0) := (blk_cell BK265.out 0).trans rfl; have hcz6_1 : w5.cell? ⟨gb265, 1, none⟩ = some (.slice A0_1 l0_1.length c0_1) := (blk_cell BK265.out 1).trans rfl; have hcz6_2 : w5.cell? ⟨gb265, 2, none⟩ = some (.int .i64 a0_2) := (blk_cell BK265.out 2).trans rfl; have hcz6_3 : w5.cell? ⟨gb265, 3, none⟩ = some (.slice A0_3 l0_3.length c0_3) := (blk_cell BK265.out 3).trans rfl; have hcz6_4 : w5.cell? ⟨gb265, 4, none⟩ = some (.slice A0_4 l0_4.length c0_4) := (blk_cell BK265.out 4).trans rfl; have hfz6_0 := blk_frozen BK265.out 0; have hfz6_1 := blk_frozen BK265.out 1; have hfz6_2 := blk_frozen BK265.out 2; have hfz6_3 := blk_frozen BK265.out 3; have hfz6_4 := blk_frozen BK265.out 4) | ((with_reducible refine gate_callee (f := 20) rfl ?_); refine goesL_ (some 11) rfl rfl Tryd.func20 (by kernel_rfl) rfl #[.agg #[.int .i64 a0_0, .slice A0_1 l0_1.length c0_1, .int .i64 a0_2]] rfl (by (try simp only [List.map_toArray, List.map_cons, List.map_nil]); first | done | rfl | (simp only [List.length_drop, List.length_take]; rfl)) ?_; (with_reducible refine (code_Check.calls k a0_0 _ _ l0_1 a0_2 t266 _ ?side1 ?side2 ?side3 A2.out).mono ?_); (case side1 => exact HG.below HGw.out (by repeat (first | (with_reducible first | exact HB.out | apply below_alloc | apply pw_below_drewN | apply below_drew1 | refine below_set ?_ GE265.out) | exact HB.out))); (case side2 => repeat (first | exact (Kd.C_below HR0_1.out HB.out) | (with_reducible refine Kd.C_alloc ?_ _) | (with_reducible refine Kd.C_drewN ?_ _) | (with_reducible refine Kd.C_drew ?_))); (case side3 => exact HC0_1.out); rintro e w7 ⟨rfl, hb⟩; refine ⟨_, rfl, ?_⟩; have n0_ := Aside0.mk (blk_below (g := gb265) (o := .cells #[.int .i64 a0_0, .slice A0_1 l0_1.length c0_1, .int .i64 a0_2, .slice A0_3 l0_3.length c0_3, .slice A0_4 l0_4.length c0_4] 64 (0, 0)) (by (with_reducible repeat (first | refine blk_drewN ?_ _ | refine blk_drew ?_ | refine blk_alloc ?_ _)); exact BK265.out) hb); have n1_ := Aside0.mk (below_step (by repeat (first | (with_reducible first | exact HB.out | apply below_alloc | apply pw_below_drewN | apply below_drew1 | refine below_set ?_ GE265.out) | exact HB.out)) hb); clear BK265; clear HB; have BK265 := n0_; have HB := n1_; clear n0_ n1_; (try clear hb); (try clear hb2); (try clear hk); (try clear hi); have hcz8_0 : w7.cell? ⟨gb265, 0, none⟩ = some (.int .i64 a0_0) := (blk_cell BK265.out 0).trans rfl; have hcz8_1 : w7.cell? ⟨gb265, 1, none⟩ = some (.slice A0_1 l0_1.length c0_1) := (blk_cell BK265.out 1).trans rfl; have hcz8_2 : w7.cell? ⟨gb265, 2, none⟩ = some (.int .i64 a0_2) := (blk_cell BK265.out 2).trans rfl; have hcz8_3 : w7.cell? ⟨gb265, 3, none⟩ = some (.slice A0_3 l0_3.length c0_3) := (blk_cell BK265.out 3).trans rfl; have hcz8_4 : w7.cell? ⟨gb265, 4, none⟩ = some (.slice A0_4 l0_4.length c0_4) := (blk_cell BK265.out 4).trans rfl; have hfz8_0 := blk_frozen BK265.out 0; have hfz8_1 := blk_frozen BK265.out 1; have hfz8_2 := blk_frozen BK265.out 2; have hfz8_3 := blk_frozen BK265.out 3; have hfz8_4 := blk_frozen BK265.out 4))
   go_ret
   exact ⟨by first | rfl | (simp [errW_none, errW_some] <;> rfl) | (simp [*, errW_none, errW_some] <;> rfl), by repeat (first | (with_reducible first | exact HB.out | apply below_alloc | apply pw_below_drewN | apply below_drew1 | refine below_set ?_ GE265.out) | exact HB.out)⟩
  ·rw [if_neg c4] at H
   have c4b0 : decide (12 < (l0_4.length : Int)) = false := decide_eq_false c4
   have c4b1 : decide (12 < l0_4.length) = false := decide_eq_false (by omega)
   clear c4
   replace H := Option.bind_eq_some_iff.mp H
   obtain ⟨t267, A90, H⟩ := H
   replace H : (if (l0_3.length : Int) = t267 then (risk_Check.l0 k (l0_4.length : Int) l0_3 (l0_3.length : Int) 0 a0_0 l0_1 a0_2 l0_3 l0_4) else (some 1)) = some r := H
   have A9 := Aside0.mk A90
   clear A90
   by_cases c10 : (l0_3.length : Int) = t267
   ·rw [if_pos c10] at H
    have c10b0 : ((l0_3.length : Int) == t267) = true := beq_iff_eq.mpr c10
    have c10b1 : ((l0_3.length : Int) != t267) = false := bne_eq_false_iff_eq.mpr c10
    clear c10
    have H' := Aside0.mk H
    clear H
    go_enter Tryd.func50, Tryd.ntmps50
    try go_wp2_with (first | ((with_reducible refine gate_dst (N := 1) rfl ?_); refine box_event ?hg (N := 1) ?hd (cs := #[.int .i64 a0_0, .slice A0_1 l0_1.length c0_1, .int .i64 a0_2, .slice A0_3 l0_3.length c0_3, .slice A0_4 l0_4.length c0_4]) (t := 64) ?hr ?_; (case hd => rfl); (case hg => rfl); (case hr => first | (go_simp; done) | (go_simp; rfl)); intro gb265 hg w11 hbox hb; have n0_ := Aside0.mk (below_step (by repeat (first | (with_reducible first | exact HB.out | apply below_alloc | apply pw_below_drewN | apply below_drew1) | exact HB.out)) hb); have n1_ := Aside0.mk (hbox); have n2_ := Aside0.mk ((by rw [hg]; exact (below_size (by repeat (first | (with_reducible first | exact HB.out | apply below_alloc | apply pw_below_drewN | apply below_drew1) | exact HB.out))) : w.heap.size ≤ gb265)); have n3_ := Aside0.mk ((by rw [hg]; exact (below_size (by repeat (first | (with_reducible first | exact HB.out | apply below_alloc | apply pw_below_drewN | apply below_drew1) | exact HB.out))) : w.heap.size ≤ gb265)); clear HB; have HB := n0_; have BK265 := n1_; have GW265 := n2_; have GE265 := n3_; clear n0_ n1_ n2_ n3_; clear hb hbox hg; have hcz12_0 : w11.cell? ⟨gb265, 0, none⟩ = some (.int .i64 a0_0) := (blk_cell BK265.out 0).trans rfl; have hcz12_1 : w11.cell? ⟨gb265, 1, none⟩ = some (.slice A0_1 l0_1.length c0_1) := (blk_cell BK265.out 1).trans rfl; have hcz12_2 : w11.cell? ⟨gb265, 2, none⟩ = some (.int .i64 a0_2) := (blk_cell BK265.out 2).trans rfl; have hcz12_3 : w11.cell? ⟨gb265, 3, none⟩ = some (.slice A0_3 l0_3.length c0_3) := (blk_cell BK265.out 3).trans rfl; have hcz12_4 : w11.cell? ⟨gb265, 4, none⟩ = some (.slice A0_4 l0_4.length c0_4) := (blk_cell BK265.out 4).trans rfl; have hfz12_0 := blk_frozen BK265.out 0; have hfz12_1 := blk_frozen BK265.out 1; have hfz12_2 := blk_frozen BK265.out 2; have hfz12_3 := blk_frozen BK265.out 3; have hfz12_4 := blk_frozen BK265.out 4) | ((with_reducible refine gate_callee (f := 20) rfl ?_); refine goesL_ (some 11) rfl rfl Tryd.func20 (by kernel_rfl) rfl #[.agg #[.int .i64 a0_0, .slice A0_1 l0_1.length c0_1, .int .i64 a0_2]] rfl (by (try simp only [List.map_toArray, List.map_cons, List.map_nil]); first | done | rfl | (simp only [List.length_drop, List.length_take]; rfl)) ?_; (with_reducible refine (code_Check.calls k a0_0 _ _ l0_1 a0_2 t266 _ ?side1 ?side2 ?side3 A2.out).mono ?_); (case side1 => exact HG.below HGw.out (by repeat (first | (with_reducible first | exact HB.out | apply below_alloc | apply pw_below_drewN | apply below_drew1 | refine below_set ?_ GE265.out) | exact HB.out))); (case side2 => repeat (first | exact (Kd.C_below HR0_1.out HB.out) | (with_reducible refine Kd.C_alloc ?_ _) | (with_reducible refine Kd.C_drewN ?_ _) | (with_reducible refine Kd.C_drew ?_))); (case side3 => exact HC0_1.out); rintro e w13 ⟨rfl, hb⟩; refine ⟨_, rfl, ?_⟩; have n0_ := Aside0.mk (blk_below (g := gb265) (o := .cells #[.int .i64 a0_0, .slice A0_1 l0_1.length c0_1, .int .i64 a0_2, .slice A0_3 l0_3.length c0_3, .slice A0_4 l0_4.length c0_4] 64 (0, 0)) (by (with_reducible repeat (first | refine blk_drewN ?_ _ | refine blk_drew ?_ | refine blk_alloc ?_ _)); exact BK265.out) hb); have n1_ := Aside0.mk (below_step (by repeat (first | (with_reducible first | exact HB.out | apply below_alloc | apply pw_below_drewN | apply below_drew1 | refine below_set ?_ GE265.out) | exact HB.out)) hb); clear BK265; clear HB; have BK265 := n0_; have HB := n1_; clear n0_ n1_; (try clear hb); (try clear hb2); (try clear hk); (try clear hi); have hcz14_0 : w13.cell? ⟨gb265, 0, none⟩ = some (.int .i64 a0_0) := (blk_cell BK265.out 0).trans rfl; have hcz14_1 : w13.cell? ⟨gb265, 1, none⟩ = some (.slice A0_1 l0_1.length c0_1) := (blk_cell BK265.out 1).trans rfl; have hcz14_2 : w13.cell? ⟨gb265, 2, none⟩ = some (.int .i64 a0_2) := (blk_cell BK265.out 2).trans rfl; have hcz14_3 : w13.cell? ⟨gb265, 3, none⟩ = some (.slice A0_3 l0_3.length c0_3) := (blk_cell BK265.out 3).trans rfl; have hcz14_4 : w13.cell? ⟨gb265, 4, none⟩ = some (.slice A0_4 l0_4.length c0_4) := (blk_cell BK265.out 4).trans rfl; have hfz14_0 := blk_frozen BK265.out 0; have hfz14_1 := blk_frozen BK265.out 1; have hfz14_2 := blk_frozen BK265.out 2; have hfz14_3 := blk_frozen BK265.out 3; have hfz14_4 := blk_frozen BK265.out 4))
    have n0_ := Aside0.mk (blk_drew BK265.out)
    have n1_ := Aside0.mk (below_drew1 HB.out)
    clear BK265
    clear HB
    have BK265 := n0_
    have HB := n1_
    clear n0_ n1_
    refine start_ (n := 7) (S := fun w' => w'.cell? ⟨gb265, 0, none⟩ = some (.int .i64 a0_0) ∧ w'.cell? ⟨gb265, 1, none⟩ = some (.slice A0_1 l0_1.length c0_1) ∧ w'.cell? ⟨gb265, 2, none⟩ = some (.int .i64 a0_2) ∧ w'.cell? ⟨gb265, 3, none⟩ = some (.slice A0_3 l0_3.length c0_3) ∧ w'.cell? ⟨gb265, 4, none⟩ = some (.slice A0_4 l0_4.length c0_4)) (ds := []) #[false, false, false, false, false, false, false] (by kernel_rfl) rfl rfl ⟨(blk_cell BK265.out 0).trans rfl, (blk_cell BK265.out 1).trans rfl, (blk_cell BK265.out 2).trans rfl, (blk_cell BK265.out 3).trans rfl, (blk_cell BK265.out 4).trans rfl⟩ (fun hHeld => ?_)
    generalize w13.drew = w15 at BK265 HB hHeld ⊢
    refine pure_ (i := 0) (N := some 20) (v := ?_) (a' := ?_) #[true, false, false, false, false, false, false] rfl rfl (by kernel_rfl) (fun _ _ _ h => h) (Or.inl ⟨by rfl, ?_⟩) ?_ ?_
    rotate_left
    ·intro w'
     go_simp
     with_reducible rfl
    rotate_left
    ·simp only [Act.put, List.setIfInBounds_toArray, List.set_cons_zero, List.set_cons_succ, i64_w, i32_w]
     rfl
    refine pure_ (i := 3) (N := some 23) (v := ?_) (a' := ?_) #[true, false, false, true, false, false, false] rfl rfl (by kernel_rfl) (fun _ _ _ h => h) (Or.inl ⟨by rfl, ?_⟩) ?_ ?_
    rotate_left
    ·intro w'
     go_simp
     with_reducible rfl
    rotate_left
    ·simp only [Act.put, List.setIfInBounds_toArray, List.set_cons_zero, List.set_cons_succ, i64_w, i32_w]
     rfl
    refine take_ (i := 1) (N := some 21) (v := ?_) (a' := ?_) #[true, true, false, true, false, false, false] rfl rfl (by kernel_rfl) (fun _ _ _ h => h) (Or.inl ⟨by rfl, ?_⟩) hHeld ?_ ?_
    rotate_left
    ·rintro w' ⟨s0, s1, s2, s3, s4⟩
     go_simp
     with_reducible rfl
    rotate_left
    ·simp only [Act.put, List.setIfInBounds_toArray, List.set_cons_zero, List.set_cons_succ, i64_w, i32_w]
     rfl
    refine pure_ (i := 2) (N := some 22) (v := ?_) (a' := ?_) #[true, true, true, true, false, false, false] rfl rfl (by kernel_rfl) (fun _ _ _ h => h) (Or.inl ⟨by rfl, ?_⟩) ?_ ?_
    rotate_left
    ·intro w'
     go_simp
     with_reducible rfl
    rotate_left
    ·simp only [Act.put, List.setIfInBounds_toArray, List.set_cons_zero, List.set_cons_succ, i64_w, i32_w]
     rfl
    refine take_ (i := 4) (N := some 24) (v := ?_) (a' := ?_) #[true, true, true, true, true, false, false] rfl rfl (by kernel_rfl) (fun _ _ _ h => h) (Or.inl ⟨by rfl, ?_⟩) hHeld ?_ ?_
    rotate_left
    ·rintro w' ⟨s0, s1, s2, s3, s4⟩
     go_simp
     with_reducible rfl
    rotate_left
    ·simp only [Act.put, List.setIfInBounds_toArray, List.set_cons_zero, List.set_cons_succ, i64_w, i32_w]
     rfl
    refine one_ (i := 5) (N := some 25) #[true, true, true, true, true, true, false] rfl rfl (by kernel_rfl) (by decide) (fun K hK => ?_)
    refine goes_ Tryd.func21 (by kernel_rfl) rfl #[.agg #[.int .i64 a0_0, .slice A0_1 l0_1.length c0_1, .int .i64 a0_2]] (by rfl) rfl rfl (by (try simp only [List.map_toArray, List.map_cons, List.map_nil]); first | done | rfl | (simp only [List.length_drop, List.length_take]; rfl)) ?_
    with_reducible refine (code_Pieces.calls k a0_0 _ _ l0_1 a0_2 t267 _ ?side1 ?side2 ?side3 A9.out).mono ?_
    (case side1 => exact HG.below HGw.out (by repeat (first | (with_reducible first | exact HB.out | apply below_alloc | apply pw_below_drewN | apply below_drew1 | refine below_set ?_ GE265.out) | exact HB.out)))
    (case side2 => repeat (first | exact (Kd.C_below HR0_1.out HB.out) | (with_reducible refine Kd.C_alloc ?_ _) | (with_reducible refine Kd.C_drewN ?_ _) | (with_reducible refine Kd.C_drew ?_)))
    (case side3 => exact HC0_1.out)
    rintro e w16 ⟨rfl, hb⟩
    refine ⟨_, rfl, ?_⟩
    have n0_ := Aside0.mk (blk_below (g := gb265) (o := .cells #[.int .i64 a0_0, .slice A0_1 l0_1.length c0_1, .int .i64 a0_2, .slice A0_3 l0_3.length c0_3, .slice A0_4 l0_4.length c0_4] 64 (0, 0)) (by (with_reducible repeat (first | refine blk_drewN ?_ _ | refine blk_drew ?_ | refine blk_alloc ?_ _)); exact BK265.out) hb)
    have n1_ := Aside0.mk (below_step (by repeat (first | (with_reducible first | exact HB.out | apply below_alloc | apply pw_below_drewN | apply below_drew1 | refine below_set ?_ GE265.out) | exact HB.out)) hb)
    clear BK265
    clear HB
    have BK265 := n0_
    have HB := n1_
    clear n0_ n1_
    (try clear hb)
    (try clear hb2)
    (try clear hk)
    (try clear hi)
    refine hK.out _ _ ⟨(blk_cell BK265.out 0).trans rfl, (blk_cell BK265.out 1).trans rfl, (blk_cell BK265.out 2).trans rfl, (blk_cell BK265.out 3).trans rfl, (blk_cell BK265.out 4).trans rfl⟩ (fun hHeld => ?_)
    clear hK K
    refine norm_ (a' := ?_) ?_ ?_
    rotate_left
    ·show Act.put _ (some 25) _ = _
     simp only [Act.put, List.setIfInBounds_toArray, List.set_cons_zero, List.set_cons_succ, i64_w, i32_w]
     rfl
    refine pure_ (i := 6) (N := some 26) (v := ?_) (a' := ?_) #[true, true, true, true, true, true, true] rfl rfl (by kernel_rfl) (fun _ _ _ h => h) (Or.inl ⟨by rfl, ?_⟩) ?_ ?_
    rotate_left
    ·intro w'
     go_simp
     with_reducible rfl
    rotate_left
    ·simp only [Act.put, List.setIfInBounds_toArray, List.set_cons_zero, List.set_cons_succ, i64_w, i32_w]
     rfl
    refine done_ (by kernel_rfl) ?_
    have hcz17_0 : w16.cell? ⟨gb265, 0, none⟩ = some (.int .i64 a0_0) := (blk_cell BK265.out 0).trans rfl
    have hcz17_1 : w16.cell? ⟨gb265, 1, none⟩ = some (.slice A0_1 l0_1.length c0_1) := (blk_cell BK265.out 1).trans rfl
    have hcz17_2 : w16.cell? ⟨gb265, 2, none⟩ = some (.int .i64 a0_2) := (blk_cell BK265.out 2).trans rfl
    have hcz17_3 : w16.cell? ⟨gb265, 3, none⟩ = some (.slice A0_3 l0_3.length c0_3) := (blk_cell BK265.out 3).trans rfl
    have hcz17_4 : w16.cell? ⟨gb265, 4, none⟩ = some (.slice A0_4 l0_4.length c0_4) := (blk_cell BK265.out 4).trans rfl
    have hfz17_0 := blk_frozen BK265.out 0
    have hfz17_1 := blk_frozen BK265.out 1
    have hfz17_2 := blk_frozen BK265.out 2
    have hfz17_3 := blk_frozen BK265.out 3
    have hfz17_4 := blk_frozen BK265.out 4
    try go_wp2
    go_loopg [30] k (fun kq v30 w' => ∃ (x30_1 : Int), v30 = .int .i64 x30_1 ∧ Aside0 (risk_Check.l0 kq (l0_4.length : Int) l0_3 (l0_3.length : Int) x30_1 a0_0 l0_1 a0_2 l0_3 l0_4 = some r) ∧ Aside0 (kq ≤ k) ∧ Aside0 (w'.heap[gb265]? = some (.cells #[.int .i64 a0_0, (.slice A0_1 l0_1.length c0_1), .int .i64 a0_2, (.slice A0_3 l0_3.length c0_3), (.slice A0_4 l0_4.length c0_4)] 64 (0, 0))) ∧ Aside0 (Below w.heap.size w w'))
    case atStart => exact ⟨(0), (by first | rfl | (simp; done) | (simp [*]; done)), H', ⟨Nat.le_refl _⟩, ⟨by (with_reducible repeat (first | refine blk_drewN ?_ _ | refine blk_drew ?_ | refine blk_alloc ?_ _)); exact BK265.out⟩, ⟨by repeat (first | (with_reducible first | exact HB.out | apply below_alloc | apply pw_below_drewN | apply below_drew1 | refine below_set ?_ GE265.out) | exact HB.out)⟩⟩
    case round =>
     clear H'
     try clear c1
     try clear c2
     try clear p2
     try clear c3
     try clear c3b0
     try clear c3b1
     try clear c4
     try clear c4b0
     try clear c4b1
     try clear c5
     try clear c10
     try clear c10b0
     try clear c10b1
     try clear hcz12_0
     try clear hcz12_1
     try clear hcz12_2
     try clear hcz12_3
     try clear hcz12_4
     try clear hcz14_0
     try clear hcz14_1
     try clear hcz14_2
     try clear hcz14_3
     try clear hcz14_4
     try clear hcz17_0
     try clear hcz17_1
     try clear hcz17_2
     try clear hcz17_3
     try clear hcz17_4
     try clear hcz6_0
     try clear hcz6_1
     try clear hcz6_2
     try clear hcz6_3
     try clear hcz6_4
     try clear hcz8_0
     try clear hcz8_1
     try clear hcz8_2
     try clear hcz8_3
     try clear hcz8_4
     try clear hfz12_0
     try clear hfz12_1
     try clear hfz12_2
     try clear hfz12_3
     try clear hfz12_4
     try clear hfz14_0
     try clear hfz14_1
     try clear hfz14_2
     try clear hfz14_3
     try clear hfz14_4
     try clear hfz17_0
     try clear hfz17_1
     try clear hfz17_2
     try clear hfz17_3
     try clear hfz17_4
     try clear hfz6_0
     try clear hfz6_1
     try clear hfz6_2
     try clear hfz6_3
     try clear hfz6_4
     try clear hfz8_0
     try clear hfz8_1
     try clear hfz8_2
     try clear hfz8_3
     try clear hfz8_4
     obtain ⟨x30_1, rfl, HA, HK1, BK265, HB⟩ := hrel
     cases gk with
     | zero => exact absurd HA.out (by simp [risk_Check.l0])
     | succ k1 =>
      have H := HA.out
      clear HA
      simp only [risk_Check.l0] at H
      by_cases c18 : x30_1 < (l0_3.length : Int)
      ·rw [if_pos c18] at H
       have c18b0 : decide (x30_1 < (l0_3.length : Int)) = true := decide_eq_true c18
       clear c18
       by_cases c19 : 0 ≤ x30_1
       ·rw [if_pos c19] at H
        have c19b0 : decide (0 ≤ x30_1) = true := decide_eq_true c19
        clear c19
        by_cases c20 : x30_1 < (l0_3.length : Int)
        ·rw [if_pos c20] at H
         have c20b0 : decide (x30_1 < (l0_3.length : Int)) = true := decide_eq_true c20
         clear c20
         by_cases c21 : (rd l0_3 x30_1) < (-1)
         ·rw [if_pos c21] at H
          have c21b0 : decide ((rd l0_3 x30_1) < (-1)) = true := decide_eq_true c21
          clear c21
          obtain rfl := Option.some.inj H
          have p268 : 0 ≤ (x30_1 : Int) := of_decide_eq_true (by first | (with_reducible assumption) | assumption)
          have q268 : x30_1 < (l0_3.length : Int) := of_decide_eq_true (by first | (with_reducible assumption) | assumption)
          obtain ⟨ad268, e268, hx268_0⟩ := Kd.at_int HR0_3.out x30_1 p268 q268
          cases e268
          replace hx268_0 := (HB.out.cell (World.block_lt_of_cell? w _ hx268_0)).trans hx268_0
          replace p268 := eq_true p268
          replace q268 := eq_true q268
          go_wp2
          go_ret
          exact ⟨by first | rfl | (simp [errW_none, errW_some] <;> rfl) | (simp [*, errW_none, errW_some] <;> rfl), by repeat (first | (with_reducible first | exact HB.out | apply below_alloc | apply pw_below_drewN | apply below_drew1 | refine below_set ?_ GE265.out) | exact HB.out)⟩
         ·rw [if_neg c21] at H
          have c21b0 : decide ((rd l0_3 x30_1) < (-1)) = false := decide_eq_false c21
          clear c21
          by_cases c22 : (rd l0_3 x30_1) ≥ (l0_4.length : Int)
          ·rw [if_pos c22] at H
           have c22b0 : decide ((l0_4.length : Int) ≤ (rd l0_3 x30_1)) = true := decide_eq_true c22
           clear c22
           obtain rfl := Option.some.inj H
           have p268 : 0 ≤ (x30_1 : Int) := of_decide_eq_true (by first | (with_reducible assumption) | assumption)
           have q268 : x30_1 < (l0_3.length : Int) := of_decide_eq_true (by first | (with_reducible assumption) | assumption)
           obtain ⟨ad268, e268, hx268_0⟩ := Kd.at_int HR0_3.out x30_1 p268 q268
           cases e268
           replace hx268_0 := (HB.out.cell (World.block_lt_of_cell? w _ hx268_0)).trans hx268_0
           replace p268 := eq_true p268
           replace q268 := eq_true q268
           go_wp2
           go_ret
           exact ⟨by first | rfl | (simp [errW_none, errW_some] <;> rfl) | (simp [*, errW_none, errW_some] <;> rfl), by repeat (first | (with_reducible first | exact HB.out | apply below_alloc | apply pw_below_drewN | apply below_drew1 | refine below_set ?_ GE265.out) | exact HB.out)⟩
          ·rw [if_neg c22] at H
           have c22b0 : decide ((l0_4.length : Int) ≤ (rd l0_3 x30_1)) = false := decide_eq_false c22
           clear c22
           have H' := Aside0.mk H
           clear H
           have p268 : 0 ≤ (x30_1 : Int) := of_decide_eq_true (by first | (with_reducible assumption) | assumption)
           have q268 : x30_1 < (l0_3.length : Int) := of_decide_eq_true (by first | (with_reducible assumption) | assumption)
           obtain ⟨ad268, e268, hx268_0⟩ := Kd.at_int HR0_3.out x30_1 p268 q268
           cases e268
           replace hx268_0 := (HB.out.cell (World.block_lt_of_cell? w _ hx268_0)).trans hx268_0
           replace p268 := eq_true p268
           replace q268 := eq_true q268
           go_wp2
           go_roundg k1
           case measure => have := HK1.out; omega
           case rel => exact ⟨(wrap64 (x30_1 + 1)), (by first | rfl | (simp; done) | (simp [*]; done)), H', ⟨by have := HK1.out; omega⟩, ⟨by (with_reducible repeat (first | refine blk_drewN ?_ _ | refine blk_drew ?_ | refine blk_alloc ?_ _)); exact BK265.out⟩, ⟨by repeat (first | (with_reducible first | exact HB.out | apply below_alloc | apply pw_below_drewN | apply below_drew1 | refine below_set ?_ GE265.out) | exact HB.out)⟩⟩
        ·rw [if_neg c20] at H
         exact absurd H (by simp)
       ·rw [if_neg c19] at H
        exact absurd H (by simp)
      ·rw [if_neg c18] at H
       have c18b0 : decide (x30_1 < (l0_3.length : Int)) = false := decide_eq_false c18
       clear c18
       have H' := Aside0.mk H
       clear H
       have hcz23_0 : wr.cell? ⟨gb265, 0, none⟩ = some (.int .i64 a0_0) := (blk_cell BK265.out 0).trans rfl
       have hcz23_1 : wr.cell? ⟨gb265, 1, none⟩ = some (.slice A0_1 l0_1.length c0_1) := (blk_cell BK265.out 1).trans rfl
       have hcz23_2 : wr.cell? ⟨gb265, 2, none⟩ = some (.int .i64 a0_2) := (blk_cell BK265.out 2).trans rfl
       have hcz23_3 : wr.cell? ⟨gb265, 3, none⟩ = some (.slice A0_3 l0_3.length c0_3) := (blk_cell BK265.out 3).trans rfl
       have hcz23_4 : wr.cell? ⟨gb265, 4, none⟩ = some (.slice A0_4 l0_4.length c0_4) := (blk_cell BK265.out 4).trans rfl
       have hfz23_0 := blk_frozen BK265.out 0
       have hfz23_1 := blk_frozen BK265.out 1
       have hfz23_2 := blk_frozen BK265.out 2
       have hfz23_3 := blk_frozen BK265.out 3
       have hfz23_4 := blk_frozen BK265.out 4
       go_wp2
       go_loopg [45] k1 (fun kq v45 w' => ∃ (x45_2 : Int), v45 = .int .i64 x45_2 ∧ Aside0 (risk_Check.l1 kq l0_4 (l0_4.length : Int) x45_2 = some r) ∧ Aside0 (kq ≤ k1) ∧ Aside0 (w'.heap[gb265]? = some (.cells #[.int .i64 a0_0, (.slice A0_1 l0_1.length c0_1), .int .i64 a0_2, (.slice A0_3 l0_3.length c0_3), (.slice A0_4 l0_4.length c0_4)] 64 (0, 0))) ∧ Aside0 (Below w.heap.size w w'))
       case atStart => exact ⟨(0), (by first | rfl | (simp; done) | (simp [*]; done)), H', ⟨Nat.le_refl _⟩, ⟨by (with_reducible repeat (first | refine blk_drewN ?_ _ | refine blk_drew ?_ | refine blk_alloc ?_ _)); exact BK265.out⟩, ⟨by repeat (first | (with_reducible first | exact HB.out | apply below_alloc | apply pw_below_drewN | apply below_drew1 | refine below_set ?_ GE265.out) | exact HB.out)⟩⟩
       case round =>
        clear H'
        try clear c1
        try clear c2
        try clear p2
        try clear q2
        try clear hx2
        try clear c3
        try clear c3b0
        try clear c3b1
        try clear c4
        try clear c4b0
        try clear c4b1
        try clear c5
        try clear p6
        try clear c10
        try clear c10b0
        try clear c10b1
        try clear c18
        try clear c18b0
        try clear c19
        try clear c19b0
        try clear c20
        try clear c20b0
        try clear c21
        try clear c21b0
        try clear c22
        try clear c22b0
        try clear hcz12_0
        try clear hcz12_1
        try clear hcz12_2
        try clear hcz12_3
        try clear hcz12_4
        try clear hcz14_0
        try clear hcz14_1
        try clear hcz14_2
        try clear hcz14_3
        try clear hcz14_4
        try clear hcz17_0
        try clear hcz17_1
        try clear hcz17_2
        try clear hcz17_3
        try clear hcz17_4
        try clear hcz23_0
        try clear hcz23_1
        try clear hcz23_2
        try clear hcz23_3
        try clear hcz23_4
        try clear hcz6_0
        try clear hcz6_1
        try clear hcz6_2
        try clear hcz6_3
        try clear hcz6_4
        try clear hcz8_0
        try clear hcz8_1
        try clear hcz8_2
        try clear hcz8_3
        try clear hcz8_4
        try clear hfz12_0
        try clear hfz12_1
        try clear hfz12_2
        try clear hfz12_3
        try clear hfz12_4
        try clear hfz14_0
        try clear hfz14_1
        try clear hfz14_2
        try clear hfz14_3
        try clear hfz14_4
        try clear hfz17_0
        try clear hfz17_1
        try clear hfz17_2
        try clear hfz17_3
        try clear hfz17_4
        try clear hfz23_0
        try clear hfz23_1
        try clear hfz23_2
        try clear hfz23_3
        try clear hfz23_4
        try clear hfz6_0
        try clear hfz6_1
        try clear hfz6_2
        try clear hfz6_3
        try clear hfz6_4
        try clear hfz8_0
        try clear hfz8_1
        try clear hfz8_2
        try clear hfz8_3
        try clear hfz8_4
        try clear hx268_0
        try clear p2
        try clear p268
        try clear q268
        obtain ⟨x45_2, rfl, HA, HK2, BK265, HB⟩ := hrel
        cases gk with
        | zero => exact absurd HA.out (by simp [risk_Check.l1])
        | succ k2 =>
         have H := HA.out
         clear HA
         simp only [risk_Check.l1] at H
         by_cases c24 : x45_2 < (l0_4.length : Int)
         ·rw [if_pos c24] at H
          have c24b0 : decide (x45_2 < (l0_4.length : Int)) = true := decide_eq_true c24
          clear c24
          by_cases c25 : 0 ≤ x45_2
          ·rw [if_pos c25] at H
           have c25b0 : decide (0 ≤ x45_2) = true := decide_eq_true c25
           clear c25
           by_cases c26 : x45_2 < (l0_4.length : Int)
           ·rw [if_pos c26] at H
            have c26b0 : decide (x45_2 < (l0_4.length : Int)) = true := decide_eq_true c26
            clear c26
            by_cases c27 : (rd l0_4 x45_2) < 0
            ·rw [if_pos c27] at H
             have c27b0 : decide ((rd l0_4 x45_2) < 0) = true := decide_eq_true c27
             clear c27
             obtain rfl := Option.some.inj H
             have p269 : 0 ≤ (x45_2 : Int) := of_decide_eq_true (by first | (with_reducible assumption) | assumption)
             have q269 : x45_2 < (l0_4.length : Int) := of_decide_eq_true (by first | (with_reducible assumption) | assumption)
             obtain ⟨ad269, e269, hx269_0⟩ := Kd.at_int HR0_4.out x45_2 p269 q269
             cases e269
             replace hx269_0 := (HB.out.cell (World.block_lt_of_cell? w _ hx269_0)).trans hx269_0
             replace p269 := eq_true p269
             replace q269 := eq_true q269
             go_wp2
             go_ret
             exact ⟨by first | rfl | (simp [errW_none, errW_some] <;> rfl) | (simp [*, errW_none, errW_some] <;> rfl), by repeat (first | (with_reducible first | exact HB.out | apply below_alloc | apply pw_below_drewN | apply below_drew1 | refine below_set ?_ GE265.out) | exact HB.out)⟩
            ·rw [if_neg c27] at H
             have c27b0 : decide ((rd l0_4 x45_2) < 0) = false := decide_eq_false c27
             clear c27
             by_cases c28 : (rd l0_4 x45_2) > 16
             ·rw [if_pos c28] at H
              have c28b0 : decide (16 < (rd l0_4 x45_2)) = true := decide_eq_true c28
              clear c28
              obtain rfl := Option.some.inj H
              have p269 : 0 ≤ (x45_2 : Int) := of_decide_eq_true (by first | (with_reducible assumption) | assumption)
              have q269 : x45_2 < (l0_4.length : Int) := of_decide_eq_true (by first | (with_reducible assumption) | assumption)
              obtain ⟨ad269, e269, hx269_0⟩ := Kd.at_int HR0_4.out x45_2 p269 q269
              cases e269
              replace hx269_0 := (HB.out.cell (World.block_lt_of_cell? w _ hx269_0)).trans hx269_0
              replace p269 := eq_true p269
              replace q269 := eq_true q269
              go_wp2
              go_ret
              exact ⟨by first | rfl | (simp [errW_none, errW_some] <;> rfl) | (simp [*, errW_none, errW_some] <;> rfl), by repeat (first | (with_reducible first | exact HB.out | apply below_alloc | apply pw_below_drewN | apply below_drew1 | refine below_set ?_ GE265.out) | exact HB.out)⟩
             ·rw [if_neg c28] at H
              have c28b0 : decide (16 < (rd l0_4 x45_2)) = false := decide_eq_false c28
              clear c28
              have H' := Aside0.mk H
              clear H
              have p269 : 0 ≤ (x45_2 : Int) := of_decide_eq_true (by first | (with_reducible assumption) | assumption)
              have q269 : x45_2 < (l0_4.length : Int) := of_decide_eq_true (by first | (with_reducible assumption) | assumption)
              obtain ⟨ad269, e269, hx269_0⟩ := Kd.at_int HR0_4.out x45_2 p269 q269
              cases e269
              replace hx269_0 := (HB.out.cell (World.block_lt_of_cell? w _ hx269_0)).trans hx269_0
              replace p269 := eq_true p269
              replace q269 := eq_true q269
              go_wp2
              go_roundg k2
              case measure => have := HK1.out; have := HK2.out; omega
              case rel => exact ⟨(wrap64 (x45_2 + 1)), (by first | rfl | (simp; done) | (simp [*]; done)), H', ⟨by have := HK1.out; have := HK2.out; omega⟩, ⟨by (with_reducible repeat (first | refine blk_drewN ?_ _ | refine blk_drew ?_ | refine blk_alloc ?_ _)); exact BK265.out⟩, ⟨by repeat (first | (with_reducible first | exact HB.out | apply below_alloc | apply pw_below_drewN | apply below_drew1 | refine below_set ?_ GE265.out) | exact HB.out)⟩⟩
           ·rw [if_neg c26] at H
            exact absurd H (by simp)
          ·rw [if_neg c25] at H
           exact absurd H (by simp)
         ·rw [if_neg c24] at H
          have c24b0 : decide (x45_2 < (l0_4.length : Int)) = false := decide_eq_false c24
          clear c24
          obtain rfl := Option.some.inj H
          go_wp2
          go_ret
          exact ⟨by first | rfl | (simp [errW_none, errW_some] <;> rfl) | (simp [*, errW_none, errW_some] <;> rfl), by repeat (first | (with_reducible first | exact HB.out | apply below_alloc | apply pw_below_drewN | apply below_drew1 | refine below_set ?_ GE265.out) | exact HB.out)⟩
   ·rw [if_neg c10] at H
    have c10b0 : ((l0_3.length : Int) == t267) = false := beq_eq_false_iff_ne.mpr c10
    have c10b1 : ((l0_3.length : Int) != t267) = true := bne_iff_ne.mpr c10
    obtain rfl := Option.some.inj H
    go_enter Tryd.func50, Tryd.ntmps50
    try go_wp2_with (first | ((with_reducible refine gate_dst (N := 1) rfl ?_); refine box_event ?hg (N := 1) ?hd (cs := #[.int .i64 a0_0, .slice A0_1 l0_1.length c0_1, .int .i64 a0_2, .slice A0_3 l0_3.length c0_3, .slice A0_4 l0_4.length c0_4]) (t := 64) ?hr ?_; (case hd => rfl); (case hg => rfl); (case hr => first | (go_simp; done) | (go_simp; rfl)); intro gb265 hg w29 hbox hb; have n0_ := Aside0.mk (below_step (by repeat (first | (with_reducible first | exact HB.out | apply below_alloc | apply pw_below_drewN | apply below_drew1) | exact HB.out)) hb); have n1_ := Aside0.mk (hbox); have n2_ := Aside0.mk ((by rw [hg]; exact (below_size (by repeat (first | (with_reducible first | exact HB.out | apply below_alloc | apply pw_below_drewN | apply below_drew1) | exact HB.out))) : w.heap.size ≤ gb265)); have n3_ := Aside0.mk ((by rw [hg]; exact (below_size (by repeat (first | (with_reducible first | exact HB.out | apply below_alloc | apply pw_below_drewN | apply below_drew1) | exact HB.out))) : w.heap.size ≤ gb265)); clear HB; have HB := n0_; have BK265 := n1_; have GW265 := n2_; have GE265 := n3_; clear n0_ n1_ n2_ n3_; clear hb hbox hg; have hcz30_0 : w29.cell? ⟨gb265, 0, none⟩ = some (.int .i64 a0_0) := (blk_cell BK265.out 0).trans rfl; have hcz30_1 : w29.cell? ⟨gb265, 1, none⟩ = some (.slice A0_1 l0_1.length c0_1) := (blk_cell BK265.out 1).trans rfl; have hcz30_2 : w29.cell? ⟨gb265, 2, none⟩ = some (.int .i64 a0_2) := (blk_cell BK265.out 2).trans rfl; have hcz30_3 : w29.cell? ⟨gb265, 3, none⟩ = some (.slice A0_3 l0_3.length c0_3) := (blk_cell BK265.out 3).trans rfl; have hcz30_4 : w29.cell? ⟨gb265, 4, none⟩ = some (.slice A0_4 l0_4.length c0_4) := (blk_cell BK265.out 4).trans rfl; have hfz30_0 := blk_frozen BK265.out 0; have hfz30_1 := blk_frozen BK265.out 1; have hfz30_2 := blk_frozen BK265.out 2; have hfz30_3 := blk_frozen BK265.out 3; have hfz30_4 := blk_frozen BK265.out 4) | ((with_reducible refine gate_callee (f := 20) rfl ?_); refine goesL_ (some 11) rfl rfl Tryd.func20 (by kernel_rfl) rfl #[.agg #[.int .i64 a0_0, .slice A0_1 l0_1.length c0_1, .int .i64 a0_2]] rfl (by (try simp only [List.map_toArray, List.map_cons, List.map_nil]); first | done | rfl | (simp only [List.length_drop, List.length_take]; rfl)) ?_; (with_reducible refine (code_Check.calls k a0_0 _ _ l0_1 a0_2 t266 _ ?side1 ?side2 ?side3 A2.out).mono ?_); (case side1 => exact HG.below HGw.out (by repeat (first | (with_reducible first | exact HB.out | apply below_alloc | apply pw_below_drewN | apply below_drew1 | refine below_set ?_ GE265.out) | exact HB.out))); (case side2 => repeat (first | exact (Kd.C_below HR0_1.out HB.out) | (with_reducible refine Kd.C_alloc ?_ _) | (with_reducible refine Kd.C_drewN ?_ _) | (with_reducible refine Kd.C_drew ?_))); (case side3 => exact HC0_1.out); rintro e w31 ⟨rfl, hb⟩; refine ⟨_, rfl, ?_⟩; have n0_ := Aside0.mk (blk_below (g := gb265) (o := .cells #[.int .i64 a0_0, .slice A0_1 l0_1.length c0_1, .int .i64 a0_2, .slice A0_3 l0_3.length c0_3, .slice A0_4 l0_4.length c0_4] 64 (0, 0)) (by (with_reducible repeat (first | refine blk_drewN ?_ _ | refine blk_drew ?_ | refine blk_alloc ?_ _)); exact BK265.out) hb); have n1_ := Aside0.mk (below_step (by repeat (first | (with_reducible first | exact HB.out | apply below_alloc | apply pw_below_drewN | apply below_drew1 | refine below_set ?_ GE265.out) | exact HB.out)) hb); clear BK265; clear HB; have BK265 := n0_; have HB := n1_; clear n0_ n1_; (try clear hb); (try clear hb2); (try clear hk); (try clear hi); have hcz32_0 : w31.cell? ⟨gb265, 0, none⟩ = some (.int .i64 a0_0) := (blk_cell BK265.out 0).trans rfl; have hcz32_1 : w31.cell? ⟨gb265, 1, none⟩ = some (.slice A0_1 l0_1.length c0_1) := (blk_cell BK265.out 1).trans rfl; have hcz32_2 : w31.cell? ⟨gb265, 2, none⟩ = some (.int .i64 a0_2) := (blk_cell BK265.out 2).trans rfl; have hcz32_3 : w31.cell? ⟨gb265, 3, none⟩ = some (.slice A0_3 l0_3.length c0_3) := (blk_cell BK265.out 3).trans rfl; have hcz32_4 : w31.cell? ⟨gb265, 4, none⟩ = some (.slice A0_4 l0_4.length c0_4) := (blk_cell BK265.out 4).trans rfl; have hfz32_0 := blk_frozen BK265.out 0; have hfz32_1 := blk_frozen BK265.out 1; have hfz32_2 := blk_frozen BK265.out 2; have hfz32_3 := blk_frozen BK265.out 3; have hfz32_4 := blk_frozen BK265.out 4))
    have n0_ := Aside0.mk (blk_drew BK265.out)
    have n1_ := Aside0.mk (below_drew1 HB.out)
    clear BK265
    clear HB
    have BK265 := n0_
    have HB := n1_
    clear n0_ n1_
    refine start_ (n := 7) (S := fun w' => w'.cell? ⟨gb265, 0, none⟩ = some (.int .i64 a0_0) ∧ w'.cell? ⟨gb265, 1, none⟩ = some (.slice A0_1 l0_1.length c0_1) ∧ w'.cell? ⟨gb265, 2, none⟩ = some (.int .i64 a0_2) ∧ w'.cell? ⟨gb265, 3, none⟩ = some (.slice A0_3 l0_3.length c0_3) ∧ w'.cell? ⟨gb265, 4, none⟩ = some (.slice A0_4 l0_4.length c0_4)) (ds := []) #[false, false, false, false, false, false, false] (by kernel_rfl) rfl rfl ⟨(blk_cell BK265.out 0).trans rfl, (blk_cell BK265.out 1).trans rfl, (blk_cell BK265.out 2).trans rfl, (blk_cell BK265.out 3).trans rfl, (blk_cell BK265.out 4).trans rfl⟩ (fun hHeld => ?_)
    generalize w31.drew = w33 at BK265 HB hHeld ⊢
    refine pure_ (i := 0) (N := some 20) (v := ?_) (a' := ?_) #[true, false, false, false, false, false, false] rfl rfl (by kernel_rfl) (fun _ _ _ h => h) (Or.inl ⟨by rfl, ?_⟩) ?_ ?_
    rotate_left
    ·intro w'
     go_simp
     with_reducible rfl
    rotate_left
    ·simp only [Act.put, List.setIfInBounds_toArray, List.set_cons_zero, List.set_cons_succ, i64_w, i32_w]
     rfl
    refine pure_ (i := 3) (N := some 23) (v := ?_) (a' := ?_) #[true, false, false, true, false, false, false] rfl rfl (by kernel_rfl) (fun _ _ _ h => h) (Or.inl ⟨by rfl, ?_⟩) ?_ ?_
    rotate_left
    ·intro w'
     go_simp
     with_reducible rfl
    rotate_left
    ·simp only [Act.put, List.setIfInBounds_toArray, List.set_cons_zero, List.set_cons_succ, i64_w, i32_w]
     rfl
    refine take_ (i := 1) (N := some 21) (v := ?_) (a' := ?_) #[true, true, false, true, false, false, false] rfl rfl (by kernel_rfl) (fun _ _ _ h => h) (Or.inl ⟨by rfl, ?_⟩) hHeld ?_ ?_
    rotate_left
    ·rintro w' ⟨s0, s1, s2, s3, s4⟩
     go_simp
     with_reducible rfl
    rotate_left
    ·simp only [Act.put, List.setIfInBounds_toArray, List.set_cons_zero, List.set_cons_succ, i64_w, i32_w]
     rfl
    refine pure_ (i := 2) (N := some 22) (v := ?_) (a' := ?_) #[true, true, true, true, false, false, false] rfl rfl (by kernel_rfl) (fun _ _ _ h => h) (Or.inl ⟨by rfl, ?_⟩) ?_ ?_
    rotate_left
    ·intro w'
     go_simp
     with_reducible rfl
    rotate_left
    ·simp only [Act.put, List.setIfInBounds_toArray, List.set_cons_zero, List.set_cons_succ, i64_w, i32_w]
     rfl
    refine take_ (i := 4) (N := some 24) (v := ?_) (a' := ?_) #[true, true, true, true, true, false, false] rfl rfl (by kernel_rfl) (fun _ _ _ h => h) (Or.inl ⟨by rfl, ?_⟩) hHeld ?_ ?_
    rotate_left
    ·rintro w' ⟨s0, s1, s2, s3, s4⟩
     go_simp
     with_reducible rfl
    rotate_left
    ·simp only [Act.put, List.setIfInBounds_toArray, List.set_cons_zero, List.set_cons_succ, i64_w, i32_w]
     rfl
    refine one_ (i := 5) (N := some 25) #[true, true, true, true, true, true, false] rfl rfl (by kernel_rfl) (by decide) (fun K hK => ?_)
    refine goes_ Tryd.func21 (by kernel_rfl) rfl #[.agg #[.int .i64 a0_0, .slice A0_1 l0_1.length c0_1, .int .i64 a0_2]] (by rfl) rfl rfl (by (try simp only [List.map_toArray, List.map_cons, List.map_nil]); first | done | rfl | (simp only [List.length_drop, List.length_take]; rfl)) ?_
    with_reducible refine (code_Pieces.calls k a0_0 _ _ l0_1 a0_2 t267 _ ?side1 ?side2 ?side3 A9.out).mono ?_
    (case side1 => exact HG.below HGw.out (by repeat (first | (with_reducible first | exact HB.out | apply below_alloc | apply pw_below_drewN | apply below_drew1 | refine below_set ?_ GE265.out) | exact HB.out)))
    (case side2 => repeat (first | exact (Kd.C_below HR0_1.out HB.out) | (with_reducible refine Kd.C_alloc ?_ _) | (with_reducible refine Kd.C_drewN ?_ _) | (with_reducible refine Kd.C_drew ?_)))
    (case side3 => exact HC0_1.out)
    rintro e w34 ⟨rfl, hb⟩
    refine ⟨_, rfl, ?_⟩
    have n0_ := Aside0.mk (blk_below (g := gb265) (o := .cells #[.int .i64 a0_0, .slice A0_1 l0_1.length c0_1, .int .i64 a0_2, .slice A0_3 l0_3.length c0_3, .slice A0_4 l0_4.length c0_4] 64 (0, 0)) (by (with_reducible repeat (first | refine blk_drewN ?_ _ | refine blk_drew ?_ | refine blk_alloc ?_ _)); exact BK265.out) hb)
    have n1_ := Aside0.mk (below_step (by repeat (first | (with_reducible first | exact HB.out | apply below_alloc | apply pw_below_drewN | apply below_drew1 | refine below_set ?_ GE265.out) | exact HB.out)) hb)
    clear BK265
    clear HB
    have BK265 := n0_
    have HB := n1_
    clear n0_ n1_
    (try clear hb)
    (try clear hb2)
    (try clear hk)
    (try clear hi)
    refine hK.out _ _ ⟨(blk_cell BK265.out 0).trans rfl, (blk_cell BK265.out 1).trans rfl, (blk_cell BK265.out 2).trans rfl, (blk_cell BK265.out 3).trans rfl, (blk_cell BK265.out 4).trans rfl⟩ (fun hHeld => ?_)
    clear hK K
    refine norm_ (a' := ?_) ?_ ?_
    rotate_left
    ·show Act.put _ (some 25) _ = _
     simp only [Act.put, List.setIfInBounds_toArray, List.set_cons_zero, List.set_cons_succ, i64_w, i32_w]
     rfl
    refine pure_ (i := 6) (N := some 26) (v := ?_) (a' := ?_) #[true, true, true, true, true, true, true] rfl rfl (by kernel_rfl) (fun _ _ _ h => h) (Or.inl ⟨by rfl, ?_⟩) ?_ ?_
    rotate_left
    ·intro w'
     go_simp
     with_reducible rfl
    rotate_left
    ·simp only [Act.put, List.setIfInBounds_toArray, List.set_cons_zero, List.set_cons_succ, i64_w, i32_w]
     rfl
    refine done_ (by kernel_rfl) ?_
    try go_wp2
    go_ret
    exact ⟨by first | rfl | (simp [errW_none, errW_some] <;> rfl) | (simp [*, errW_none, errW_some] <;> rfl), by repeat (first | (with_reducible first | exact HB.out | apply below_alloc | apply pw_below_drewN | apply below_drew1 | refine below_set ?_ GE265.out) | exact HB.out)⟩
 ·rw [if_neg c3] at H
  have c3b0 : (t266 == 0) = false := beq_eq_false_iff_ne.mpr c3
  have c3b1 : (t266 != 0) = true := bne_iff_ne.mpr c3
  obtain rfl := Option.some.inj H
  go_enter Tryd.func50, Tryd.ntmps50
  go_wp2_with (first | ((with_reducible refine gate_dst (N := 1) rfl ?_); refine box_event ?hg (N := 1) ?hd (cs := #[.int .i64 a0_0, .slice A0_1 l0_1.length c0_1, .int .i64 a0_2, .slice A0_3 l0_3.length c0_3, .slice A0_4 l0_4.length c0_4]) (t := 64) ?hr ?_; (case hd => rfl); (case hg => rfl); (case hr => first | (go_simp; done) | (go_simp; rfl)); intro gb265 hg w35 hbox hb; have n0_ := Aside0.mk (below_step (by repeat (first | (with_reducible first | exact HB.out | apply below_alloc | apply pw_below_drewN | apply below_drew1) | exact HB.out)) hb); have n1_ := Aside0.mk (hbox); have n2_ := Aside0.mk ((by rw [hg]; exact (below_size (by repeat (first | (with_reducible first | exact HB.out | apply below_alloc | apply pw_below_drewN | apply below_drew1) | exact HB.out))) : w.heap.size ≤ gb265)); have n3_ := Aside0.mk ((by rw [hg]; exact (below_size (by repeat (first | (with_reducible first | exact HB.out | apply below_alloc | apply pw_below_drewN | apply below_drew1) | exact HB.out))) : w.heap.size ≤ gb265)); clear HB; have HB := n0_; have BK265 := n1_; have GW265 := n2_; have GE265 := n3_; clear n0_ n1_ n2_ n3_; clear hb hbox hg; have hcz36_0 : w35.cell? ⟨gb265, 0, none⟩ = some (.int .i64 a0_0) := (blk_cell BK265.out 0).trans rfl; have hcz36_1 : w35.cell? ⟨gb265, 1, none⟩ = some (.slice A0_1 l0_1.length c0_1) := (blk_cell BK265.out 1).trans rfl; have hcz36_2 : w35.cell? ⟨gb265, 2, none⟩ = some (.int .i64 a0_2) := (blk_cell BK265.out 2).trans rfl; have hcz36_3 : w35.cell? ⟨gb265, 3, none⟩ = some (.slice A0_3 l0_3.length c0_3) := (blk_cell BK265.out 3).trans rfl; have hcz36_4 : w35.cell? ⟨gb265, 4, none⟩ = some (.slice A0_4 l0_4.length c0_4) := (blk_cell BK265.out 4).trans rfl; have hfz36_0 := blk_frozen BK265.out 0; have hfz36_1 := blk_frozen BK265.out 1; have hfz36_2 := blk_frozen BK265.out 2; have hfz36_3 := blk_frozen BK265.out 3; have hfz36_4 := blk_frozen BK265.out 4) | ((with_reducible refine gate_callee (f := 20) rfl ?_); refine goesL_ (some 11) rfl rfl Tryd.func20 (by kernel_rfl) rfl #[.agg #[.int .i64 a0_0, .slice A0_1 l0_1.length c0_1, .int .i64 a0_2]] rfl (by (try simp only [List.map_toArray, List.map_cons, List.map_nil]); first | done | rfl | (simp only [List.length_drop, List.length_take]; rfl)) ?_; (with_reducible refine (code_Check.calls k a0_0 _ _ l0_1 a0_2 t266 _ ?side1 ?side2 ?side3 A2.out).mono ?_); (case side1 => exact HG.below HGw.out (by repeat (first | (with_reducible first | exact HB.out | apply below_alloc | apply pw_below_drewN | apply below_drew1 | refine below_set ?_ GE265.out) | exact HB.out))); (case side2 => repeat (first | exact (Kd.C_below HR0_1.out HB.out) | (with_reducible refine Kd.C_alloc ?_ _) | (with_reducible refine Kd.C_drewN ?_ _) | (with_reducible refine Kd.C_drew ?_))); (case side3 => exact HC0_1.out); rintro e w37 ⟨rfl, hb⟩; refine ⟨_, rfl, ?_⟩; have n0_ := Aside0.mk (blk_below (g := gb265) (o := .cells #[.int .i64 a0_0, .slice A0_1 l0_1.length c0_1, .int .i64 a0_2, .slice A0_3 l0_3.length c0_3, .slice A0_4 l0_4.length c0_4] 64 (0, 0)) (by (with_reducible repeat (first | refine blk_drewN ?_ _ | refine blk_drew ?_ | refine blk_alloc ?_ _)); exact BK265.out) hb); have n1_ := Aside0.mk (below_step (by repeat (first | (with_reducible first | exact HB.out | apply below_alloc | apply pw_below_drewN | apply below_drew1 | refine below_set ?_ GE265.out) | exact HB.out)) hb); clear BK265; clear HB; have BK265 := n0_; have HB := n1_; clear n0_ n1_; (try clear hb); (try clear hb2); (try clear hk); (try clear hi)))
  go_ret
  exact ⟨by first | rfl | (simp [errW_none, errW_some] <;> rfl) | (simp [*, errW_none, errW_some] <;> rfl), by repeat (first | (with_reducible first | exact HB.out | apply below_alloc | apply pw_below_drewN | apply below_drew1 | refine below_set ?_ GE265.out) | exact HB.out)⟩


/-! ### code_Size: function 23 -/
def code_Size.f (k : Nat) (a0_0 : Int) (l0_1 : List (List Int)) (a0_2 : Int) (a1 : Int) : Option (Int) := if a1 < 0 then (some 0) else (if a1 > 4096 then (some 0) else ((code_Check.f k a0_0 l0_1 a0_2).bind fun t259 => (if t259 = 0 then (if a0_0 = 0 then (none) else (some (wrap64 (Int.tdiv (wrap64 ((wrap64 (a1 + a0_0)) - 1)) a0_0)))) else (some 0))))
set_option maxHeartbeats 8000000 in
set_option maxRecDepth 100000 in
theorem code_Size.calls (k : Nat) (a0_0 : Int) (A0_1 : Option Addr) (c0_1 : Nat) (l0_1 : List (List Int)) (a0_2 : Int) (a1 : Int) (r : Int) (w : World) (hG : HG w) (hr0_1 : Kd.C (Kd.slice 3 (Kd.int .i64)) w A0_1 l0_1.length l0_1) (hc0_1 : l0_1.length ≤ c0_1) (h : code_Size.f k a0_0 l0_1 a0_2 a1 = some r) :
  Calls Tryd.prog 23 #[.agg #[.int .i64 a0_0, .slice A0_1 l0_1.length c0_1, .int .i64 a0_2], .int .i64 a1] w fun e w' => e = .returned (.int .i64 r) ∧ Below w.heap.size w w' := by
 have HGw := Aside0.mk hG
 clear hG
 have hu24 := Tryd.underlying24
 have HR0_1 := Aside0.mk hr0_1
 have HC0_1 := Aside0.mk hc0_1
 clear hr0_1 hc0_1
 have HB := Aside0.mk (Below.refl w.heap.size w)
 have H : (if a1 < 0 then (some 0) else (if a1 > 4096 then (some 0) else ((code_Check.f k a0_0 l0_1 a0_2).bind fun t259 => (if t259 = 0 then (if a0_0 = 0 then (none) else (some (wrap64 (Int.tdiv (wrap64 ((wrap64 (a1 + a0_0)) - 1)) a0_0)))) else (some 0))))) = some r := h
 clear h
 by_cases c3 : a1 < 0
 ·rw [if_pos c3] at H
  have c3b0 : decide (a1 < 0) = true := decide_eq_true c3
  clear c3
  obtain rfl := Option.some.inj H
  go_enter Tryd.func23, Tryd.ntmps23
  go_wp2_with (first | ((with_reducible refine gate_dst (N := 2) rfl ?_); refine box_event ?hg (N := 2) ?hd (cs := #[.int .i64 a0_0, .slice A0_1 l0_1.length c0_1, .int .i64 a0_2]) (t := 24) ?hr ?_; (case hd => rfl); (case hg => rfl); (case hr => first | (go_simp; done) | (go_simp; rfl)); intro gb258 hg w4 hbox hb; have n0_ := Aside0.mk (below_step (by repeat (first | (with_reducible first | exact HB.out | apply below_alloc | apply pw_below_drewN | apply below_drew1) | exact HB.out)) hb); have n1_ := Aside0.mk (hbox); have n2_ := Aside0.mk ((by rw [hg]; exact (below_size (by repeat (first | (with_reducible first | exact HB.out | apply below_alloc | apply pw_below_drewN | apply below_drew1) | exact HB.out))) : w.heap.size ≤ gb258)); have n3_ := Aside0.mk ((by rw [hg]; exact (below_size (by repeat (first | (with_reducible first | exact HB.out | apply below_alloc | apply pw_below_drewN | apply below_drew1) | exact HB.out))) : w.heap.size ≤ gb258)); clear HB; have HB := n0_; have BK258 := n1_; have GW258 := n2_; have GE258 := n3_; clear n0_ n1_ n2_ n3_; clear hb hbox hg))
  go_ret
  exact ⟨by first | rfl | (simp [errW_none, errW_some] <;> rfl) | (simp [*, errW_none, errW_some] <;> rfl), by repeat (first | (with_reducible first | exact HB.out | apply below_alloc | apply pw_below_drewN | apply below_drew1 | refine below_set ?_ GE258.out) | exact HB.out)⟩
 ·rw [if_neg c3] at H
  have c3b0 : decide (a1 < 0) = false := decide_eq_false c3
  clear c3
  by_cases c5 : a1 > 4096
  ·rw [if_pos c5] at H
   have c5b0 : decide (4096 < a1) = true := decide_eq_true c5
   clear c5
   obtain rfl := Option.some.inj H
   go_enter Tryd.func23, Tryd.ntmps23
   go_wp2_with (first | ((with_reducible refine gate_dst (N := 2) rfl ?_); refine box_event ?hg (N := 2) ?hd (cs := #[.int .i64 a0_0, .slice A0_1 l0_1.length c0_1, .int .i64 a0_2]) (t := 24) ?hr ?_; (case hd => rfl); (case hg => rfl); (case hr => first | (go_simp; done) | (go_simp; rfl)); intro gb258 hg w6 hbox hb; have n0_ := Aside0.mk (below_step (by repeat (first | (with_reducible first | exact HB.out | apply below_alloc | apply pw_below_drewN | apply below_drew1) | exact HB.out)) hb); have n1_ := Aside0.mk (hbox); have n2_ := Aside0.mk ((by rw [hg]; exact (below_size (by repeat (first | (with_reducible first | exact HB.out | apply below_alloc | apply pw_below_drewN | apply below_drew1) | exact HB.out))) : w.heap.size ≤ gb258)); have n3_ := Aside0.mk ((by rw [hg]; exact (below_size (by repeat (first | (with_reducible first | exact HB.out | apply below_alloc | apply pw_below_drewN | apply below_drew1) | exact HB.out))) : w.heap.size ≤ gb258)); clear HB; have HB := n0_; have BK258 := n1_; have GW258 := n2_; have GE258 := n3_; clear n0_ n1_ n2_ n3_; clear hb hbox hg))
   go_ret
   exact ⟨by first | rfl | (simp [errW_none, errW_some] <;> rfl) | (simp [*, errW_none, errW_some] <;> rfl), by repeat (first | (with_reducible first | exact HB.out | apply below_alloc | apply pw_below_drewN | apply below_drew1 | refine below_set ?_ GE258.out) | exact HB.out)⟩
  ·rw [if_neg c5] at H
   have c5b0 : decide (4096 < a1) = false := decide_eq_false c5
   clear c5
   replace H := Option.bind_eq_some_iff.mp H
   obtain ⟨t259, A70, H⟩ := H
   replace H : (if t259 = 0 then (if a0_0 = 0 then (none) else (some (wrap64 (Int.tdiv (wrap64 ((wrap64 (a1 + a0_0)) - 1)) a0_0)))) else (some 0)) = some r := H
   have A7 := Aside0.mk A70
   clear A70
   by_cases c8 : t259 = 0
   ·rw [if_pos c8] at H
    have c8b0 : (t259 == 0) = true := beq_iff_eq.mpr c8
    have c8b1 : (t259 != 0) = false := bne_eq_false_iff_eq.mpr c8
    clear c8
    by_cases c9 : a0_0 = 0
    ·rw [if_pos c9] at H
     exact absurd H (by simp)
    ·rw [if_neg c9] at H
     have c9b0 : (a0_0 == 0) = false := beq_eq_false_iff_ne.mpr c9
     have c9b1 : (a0_0 != 0) = true := bne_iff_ne.mpr c9
     obtain rfl := Option.some.inj H
     go_enter Tryd.func23, Tryd.ntmps23
     go_wp2_with (first | ((with_reducible refine gate_dst (N := 2) rfl ?_); refine box_event ?hg (N := 2) ?hd (cs := #[.int .i64 a0_0, .slice A0_1 l0_1.length c0_1, .int .i64 a0_2]) (t := 24) ?hr ?_; (case hd => rfl); (case hg => rfl); (case hr => first | (go_simp; done) | (go_simp; rfl)); intro gb258 hg w10 hbox hb; have n0_ := Aside0.mk (below_step (by repeat (first | (with_reducible first | exact HB.out | apply below_alloc | apply pw_below_drewN | apply below_drew1) | exact HB.out)) hb); have n1_ := Aside0.mk (hbox); have n2_ := Aside0.mk ((by rw [hg]; exact (below_size (by repeat (first | (with_reducible first | exact HB.out | apply below_alloc | apply pw_below_drewN | apply below_drew1) | exact HB.out))) : w.heap.size ≤ gb258)); have n3_ := Aside0.mk ((by rw [hg]; exact (below_size (by repeat (first | (with_reducible first | exact HB.out | apply below_alloc | apply pw_below_drewN | apply below_drew1) | exact HB.out))) : w.heap.size ≤ gb258)); clear HB; have HB := n0_; have BK258 := n1_; have GW258 := n2_; have GE258 := n3_; clear n0_ n1_ n2_ n3_; clear hb hbox hg; have hcz11_0 : w10.cell? ⟨gb258, 0, none⟩ = some (.int .i64 a0_0) := (blk_cell BK258.out 0).trans rfl; have hcz11_1 : w10.cell? ⟨gb258, 1, none⟩ = some (.slice A0_1 l0_1.length c0_1) := (blk_cell BK258.out 1).trans rfl; have hcz11_2 : w10.cell? ⟨gb258, 2, none⟩ = some (.int .i64 a0_2) := (blk_cell BK258.out 2).trans rfl; have hfz11_0 := blk_frozen BK258.out 0; have hfz11_1 := blk_frozen BK258.out 1; have hfz11_2 := blk_frozen BK258.out 2) | (go_at_call 20; (with_reducible refine (code_Check.calls k a0_0 _ _ l0_1 a0_2 t259 _ ?side1 ?side2 ?side3 A7.out).mono ?_); (case side1 => exact HG.below HGw.out (by repeat (first | (with_reducible first | exact HB.out | apply below_alloc | apply pw_below_drewN | apply below_drew1 | refine below_set ?_ GE258.out) | exact HB.out))); (case side2 => repeat (first | exact (Kd.C_below HR0_1.out HB.out) | (with_reducible refine Kd.C_alloc ?_ _) | (with_reducible refine Kd.C_drewN ?_ _) | (with_reducible refine Kd.C_drew ?_))); (case side3 => exact HC0_1.out); rintro e w12 ⟨rfl, hb⟩; have n0_ := Aside0.mk (blk_below (g := gb258) (o := .cells #[.int .i64 a0_0, .slice A0_1 l0_1.length c0_1, .int .i64 a0_2] 24 (0, 0)) (by (with_reducible repeat (first | refine blk_drewN ?_ _ | refine blk_drew ?_ | refine blk_alloc ?_ _)); exact BK258.out) hb); have n1_ := Aside0.mk (below_step (by repeat (first | (with_reducible first | exact HB.out | apply below_alloc | apply pw_below_drewN | apply below_drew1 | refine below_set ?_ GE258.out) | exact HB.out)) hb); clear BK258; clear HB; have BK258 := n0_; have HB := n1_; clear n0_ n1_; (try clear hb); (try clear hb2); (try clear hk); (try clear hi); have hcz13_0 : w12.cell? ⟨gb258, 0, none⟩ = some (.int .i64 a0_0) := (blk_cell BK258.out 0).trans rfl; have hcz13_1 : w12.cell? ⟨gb258, 1, none⟩ = some (.slice A0_1 l0_1.length c0_1) := (blk_cell BK258.out 1).trans rfl; have hcz13_2 : w12.cell? ⟨gb258, 2, none⟩ = some (.int .i64 a0_2) := (blk_cell BK258.out 2).trans rfl; have hfz13_0 := blk_frozen BK258.out 0; have hfz13_1 := blk_frozen BK258.out 1; have hfz13_2 := blk_frozen BK258.out 2))
     go_ret
     exact ⟨by first | rfl | (simp [errW_none, errW_some] <;> rfl) | (simp [*, errW_none, errW_some] <;> rfl), by repeat (first | (with_reducible first | exact HB.out | apply below_alloc | apply pw_below_drewN | apply below_drew1 | refine below_set ?_ GE258.out) | exact HB.out)⟩
   ·rw [if_neg c8] at H
    have c8b0 : (t259 == 0) = false := beq_eq_false_iff_ne.mpr c8
    have c8b1 : (t259 != 0) = true := bne_iff_ne.mpr c8
    obtain rfl := Option.some.inj H
    go_enter Tryd.func23, Tryd.ntmps23
    go_wp2_with (first | ((with_reducible refine gate_dst (N := 2) rfl ?_); refine box_event ?hg (N := 2) ?hd (cs := #[.int .i64 a0_0, .slice A0_1 l0_1.length c0_1, .int .i64 a0_2]) (t := 24) ?hr ?_; (case hd => rfl); (case hg => rfl); (case hr => first | (go_simp; done) | (go_simp; rfl)); intro gb258 hg w14 hbox hb; have n0_ := Aside0.mk (below_step (by repeat (first | (with_reducible first | exact HB.out | apply below_alloc | apply pw_below_drewN | apply below_drew1) | exact HB.out)) hb); have n1_ := Aside0.mk (hbox); have n2_ := Aside0.mk ((by rw [hg]; exact (below_size (by repeat (first | (with_reducible first | exact HB.out | apply below_alloc | apply pw_below_drewN | apply below_drew1) | exact HB.out))) : w.heap.size ≤ gb258)); have n3_ := Aside0.mk ((by rw [hg]; exact (below_size (by repeat (first | (with_reducible first | exact HB.out | apply below_alloc | apply pw_below_drewN | apply below_drew1) | exact HB.out))) : w.heap.size ≤ gb258)); clear HB; have HB := n0_; have BK258 := n1_; have GW258 := n2_; have GE258 := n3_; clear n0_ n1_ n2_ n3_; clear hb hbox hg; have hcz15_0 : w14.cell? ⟨gb258, 0, none⟩ = some (.int .i64 a0_0) := (blk_cell BK258.out 0).trans rfl; have hcz15_1 : w14.cell? ⟨gb258, 1, none⟩ = some (.slice A0_1 l0_1.length c0_1) := (blk_cell BK258.out 1).trans rfl; have hcz15_2 : w14.cell? ⟨gb258, 2, none⟩ = some (.int .i64 a0_2) := (blk_cell BK258.out 2).trans rfl; have hfz15_0 := blk_frozen BK258.out 0; have hfz15_1 := blk_frozen BK258.out 1; have hfz15_2 := blk_frozen BK258.out 2) | (go_at_call 20; (with_reducible refine (code_Check.calls k a0_0 _ _ l0_1 a0_2 t259 _ ?side1 ?side2 ?side3 A7.out).mono ?_); (case side1 => exact HG.below HGw.out (by repeat (first | (with_reducible first | exact HB.out | apply below_alloc | apply pw_below_drewN | apply below_drew1 | refine below_set ?_ GE258.out) | exact HB.out))); (case side2 => repeat (first | exact (Kd.C_below HR0_1.out HB.out) | (with_reducible refine Kd.C_alloc ?_ _) | (with_reducible refine Kd.C_drewN ?_ _) | (with_reducible refine Kd.C_drew ?_))); (case side3 => exact HC0_1.out); rintro e w16 ⟨rfl, hb⟩; have n0_ := Aside0.mk (blk_below (g := gb258) (o := .cells #[.int .i64 a0_0, .slice A0_1 l0_1.length c0_1, .int .i64 a0_2] 24 (0, 0)) (by (with_reducible repeat (first | refine blk_drewN ?_ _ | refine blk_drew ?_ | refine blk_alloc ?_ _)); exact BK258.out) hb); have n1_ := Aside0.mk (below_step (by repeat (first | (with_reducible first | exact HB.out | apply below_alloc | apply pw_below_drewN | apply below_drew1 | refine below_set ?_ GE258.out) | exact HB.out)) hb); clear BK258; clear HB; have BK258 := n0_; have HB := n1_; clear n0_ n1_; (try clear hb); (try clear hb2); (try clear hk); (try clear hi)))
    go_ret
    exact ⟨by first | rfl | (simp [errW_none, errW_some] <;> rfl) | (simp [*, errW_none, errW_some] <;> rfl), by repeat (first | (with_reducible first | exact HB.out | apply below_alloc | apply pw_below_drewN | apply below_drew1 | refine below_set ?_ GE258.out) | exact HB.out)⟩


/-! ### code_stairs_solve: function 93 -/
/-- What the stairs are to a reader. -/
def StairsRd (gs width : Nat) (W : World) (st : St) : Prop :=
 ∃ Ar cr Ap cp, W.heap[gs]? = some (.cells #[.slice Ar st.length cr, .slice Ap st.length cp, .int .i64 (width : Int)] 117 (0, 0)) ∧ st.length ≤ cr ∧ st.length ≤ cp ∧
  (∀ k (h : k < st.length), ∃ ad A0 c0, Ar = some ad ∧ W.cell? (ad.add k) = some (.slice A0 st[k].1.length c0) ∧ st[k].1.length ≤ c0 ∧ (Kd.int .u8).C W A0 st[k].1.length st[k].1) ∧
  (∀ k (h : k < st.length), ∃ ad, Ap = some ad ∧ W.cell? (ad.add k) = some (.string st[k].2))
theorem StairsRd.below {gs width : Nat} {W W1 : World} {st : St} (h : StairsRd gs width W st) (hb : Below W.heap.size W W1) : StairsRd gs width W1 st := by
 obtain ⟨Ar, cr, Ap, cp, h1, h2, h3, h4, h5⟩ := h
 refine ⟨Ar, cr, Ap, cp, blk_below h1 hb, h2, h3, fun k hk => ?_, fun k hk => ?_⟩
 ·obtain ⟨ad, A0, c0, e, h6, h7, h8⟩ := h4 k hk
  exact ⟨ad, A0, c0, e, pw_cell_below hb h6, h7, Kd.C_below h8 hb⟩
 ·obtain ⟨ad, e, h6⟩ := h5 k hk
  exact ⟨ad, e, pw_cell_below hb h6⟩

/-! ### code_stairs_sorted: function 68 -/
/-- A slice's header. -/
abbrev Hd := Option Addr × Nat × Nat
def encH (h : Hd) : Value := .slice h.1 h.2.1 h.2.2
/-- Stairs whose rows lie elsewhere. -/
def StairsUp (gt base width : Nat) (w W : World) (st : St) : Prop :=
 ∃ vr vp, ∃ hs : List Hd, W.heap[gt]? = some (.cells #[vr, vp, .int .i64 (width : Int)] 117 (0, 0)) ∧ (Kd.scalar encH (fun _ => rfl)).R 57 W base (fun _ => True) vr hs ∧ Kd.R Kd.string 9 W base (fun _ => True) vp (st.map Prod.snd) ∧
  hs.length = st.length ∧ ∀ k (h : k < st.length) (h2 : k < hs.length), hs[k].2.1 = st[k].1.length ∧ st[k].1.length ≤ hs[k].2.2 ∧ (Kd.int .u8).C w hs[k].1 st[k].1.length st[k].1
theorem StairsUp.below {gt base width : Nat} {w W W1 : World} {st : St} (h : StairsUp gt base width w W st) (hb : Below W.heap.size W W1) : StairsUp gt base width w W1 st := by
 obtain ⟨vr, vp, hs, h1, h2, h3, h4⟩ := h
 exact ⟨vr, vp, hs, blk_below h1 hb, Kd.R_below h2 hb, Kd.R_below h3 hb, h4⟩
section
variable {P : Program} {ops : Array Oper} {o : Oper} {a : Act} {Q : Exit → Act → World → Prop} {Kc : Act → World → Prop}
end

/-! ### code_Decode: function 28 -/
theorem bit_eq (mask j : Nat) (hm : mask < 2 ^ 24) : Go.bits .and .i64 ((mask : Int) / 2 ^ j) 1 = ((mask >>> j % 2 : Nat) : Int) := by
 rw [show ((mask : Int) / 2 ^ j) = ((mask >>> j : Nat) : Int) by rw [Nat.shiftRight_eq_div_pow]; simp, i64_and1 _ (by have := Nat.shiftRight_le mask j; omega)]

/-! ### risk_looser_1: function 98 -/
/-- The pieces that stay, of the first ones. -/
def leftUpto (pl : List Int) (f : Nat) : Nat → Nat
 | 0 => 0
 | j + 1 => if 0 ≤ rd pl (j : Int) ∧ (f >>> (rd pl (j : Int)).toNat) % 2 = 0 then leftUpto pl f j ||| 2 ^ j else leftUpto pl f j
theorem leftUpto_lt (pl : List Int) (f : Nat) : ∀ j, leftUpto pl f j < 2 ^ j
 | 0 => (by decide : (0 : Nat) < 2 ^ 0)
 | j + 1 => by
  have h := leftUpto_lt pl f j
  have h2 : (2 : Nat) ^ j < 2 ^ (j + 1) := Nat.pow_lt_pow_right (by decide) (by omega)
  show (if 0 ≤ rd pl (j : Int) ∧ (f >>> (rd pl (j : Int)).toNat) % 2 = 0 then leftUpto pl f j ||| 2 ^ j else leftUpto pl f j) < 2 ^ (j + 1)
  split
  ·exact Nat.or_lt_two_pow (by omega) h2
  ·omega
theorem plainElem_bool_inv {H : Type} {P : Program} {e : TypeId} (he : P.underlying e = some .bool) {v : Value} {z : DataW H × List MemPlace} (h : plainElem P e v = some z) : ∃ x, v = .bool x ∧ z = (.lit (.bool x), []) := by
 unfold plainElem at h
 rw [he] at h
 cases v <;> simp at h
 exact ⟨_, rfl, h.symm⟩
/-- What the function that looser returns has: a peril, and the sets that were looked at. -/
structure Looser (w0 : World) (g bk bm : Nat) (d : Int) (A : Option Addr) (c : Nat) (l : List (List Int)) (m : Int) (Aa : Option Addr) (ca : Nat) (pl : List Int) (Ac : Option Addr) (cc : Nat) (ch : List Int) (can : Nat → Bool) (N : Nat) (W : World) : Prop where
 bg : w0.heap.size ≤ g
 bb : w0.heap.size ≤ bk
 bn : w0.heap.size ≤ bm
 per : W.heap[g]? = some (.cells #[.int .i64 d, .slice A l.length c, .int .i64 m, .slice Aa pl.length ca, .slice Ac ch.length cc] 64 (0, 0))
 kn : W.heap[bk]? = some (.cells #[.map (some bm)] 123 (0, 0))
 own : ∃ D : DataW Unit, W.ownsMap Tryd.prog 3 (plainElem Tryd.prog 4) bm N D ∧ Maps.IsMap D ∧ ∀ y : Nat, y < 2 ^ 24 → Maps.has D (.int .i64 (y : Int)) = true → ∀ z, D.atKey (.int .i64 (y : Int)) z = .lit (.bool (!can y))
 bel : Below w0.heap.size w0 W
theorem map_ne {W : World} {b i : Nat} {cs : Array Value} {t : TypeId} {x : Nat × Nat} {P : Program} {k : TypeId} {R : Value → Option (DataW Unit × List MemPlace)} {n : Nat} {D : DataW Unit} (h : W.heap[i]? = some (.cells cs t x)) (ho : W.ownsMap P k R b n D) : i ≠ b := by
 obtain ⟨es, cl, hb, _⟩ := ho
 rintro rfl
 rw [h] at hb; cases hb
theorem blk_grownBy {W W' : World} {b i : Nat} {o : Obj} (h : W.heap[i]? = some o) (hg : W.grownBy W' (some b)) (hne : i ≠ b) : W'.heap[i]? = some o := by
 rw [hg.block i (Array.getElem?_eq_some_iff.1 h).1 (fun e => hne (Option.some.inj e)), h]
theorem grown_of_below {w w' : World} (h : Below w.heap.size w w') (b : Option Nat) : w.grownBy w' b := ⟨h.os, h.tape, h.output, h.size, fun k hk _ => h.block k hk⟩
section
variable {w0 : World} {g bk bm : Nat} {d : Int} {A : Option Addr} {c : Nat} {l : List (List Int)} {m : Int} {Aa : Option Addr} {ca : Nat} {pl : List Int} {Ac : Option Addr} {cc : Nat} {ch : List Int} {can : Nat → Bool} {N : Nat} {W W' : World}
theorem Looser.below (h : Looser w0 g bk bm d A c l m Aa ca pl Ac cc ch can N W) (hb : Below W.heap.size W W') : Looser w0 g bk bm d A c l m Aa ca pl Ac cc ch can N W' := by
 obtain ⟨D, h1, h2, h3⟩ := h.own
 exact ⟨h.bg, h.bb, h.bn, blk_below h.per hb, blk_below h.kn hb, ⟨D, h1.kept (grown_of_below hb none) (by simp), h2, h3⟩, below_step h.bel hb⟩
theorem Looser.mono (h : Looser w0 g bk bm d A c l m Aa ca pl Ac cc ch can N W) {M : Nat} (hM : N ≤ M) : Looser w0 g bk bm d A c l m Aa ca pl Ac cc ch can M W := by
 obtain ⟨D, h1, h2, h3⟩ := h.own
 exact ⟨h.bg, h.bb, h.bn, h.per, h.kn, ⟨D, h1.mono hM, h2, h3⟩, h.bel⟩
end
theorem or_pow (x k : Nat) (hx : x < 2 ^ 24) (hk : k < 24) : Go.bits .or .i64 (x : Int) (wrap64 (2 ^ k)) = ((x ||| 2 ^ k : Nat) : Int) := by
 have hy2 : 2 ^ k < 2 ^ 24 := Nat.pow_lt_pow_right (by decide) hk
 have e : (2 : Int) ^ k = ((2 ^ k : Nat) : Int) := by simp
 rw [e, show wrap64 ((2 ^ k : Nat) : Int) = ((2 ^ k : Nat) : Int) by generalize 2 ^ k = z at hy2; unfold wrap64; omega, i64_or _ _ (by omega) (by omega)]
set_option maxHeartbeats 4000000 in
set_option maxRecDepth 100000 in
theorem risk_looser_1.calls (k : Nat) (w0 : World) (g bk bm : Nat) (d : Int) (A : Option Addr) (c : Nat) (l : List (List Int)) (m : Int) (Aa : Option Addr) (ca : Nat) (pl : List Int) (Ac : Option Addr) (cc : Nat) (ch : List Int) (can : Nat → Bool) (N f : Nat) (w : World)
  (hG : HG w0) (hC : Kd.C (Kd.slice 3 (Kd.int .i64)) w0 A l.length l) (hc : l.length ≤ c) (hP : (Kd.int .i64).C w0 Aa pl.length pl) (hca : pl.length ≤ ca) (hpl : pl.length ≤ 24) (hpx : ∀ x ∈ pl, x < 12) (hf : f < 2 ^ 12)
  (hrec : ∀ y : Nat, y < 2 ^ pl.length → code_Recoverable.f k d l m (y : Int) = some (can y)) (hN : N < 1000000) (h : Looser w0 g bk bm d A c l m Aa ca pl Ac cc ch can N w) :
  Calls Tryd.prog 98 #[.int .i64 (f : Int), .pointer (some ⟨g, 0, none⟩), .pointer (some ⟨bk, 0, none⟩)] w fun e w' => e = .returned (.bool (!can (leftUpto pl f pl.length))) ∧ w.grownBy w' (some bm) ∧ Looser w0 g bk bm d A c l m Aa ca pl Ac cc ch can (N + 1) w' := by
 have hz0 : w.cell? ⟨g, 0, none⟩ = some (.int .i64 d) := blk_cell h.per 0
 have hz1 : w.cell? ⟨g, 1, none⟩ = some (.slice A l.length c) := blk_cell h.per 1
 have hz2 : w.cell? ⟨g, 2, none⟩ = some (.int .i64 m) := blk_cell h.per 2
 have hz3 : w.cell? ⟨g, 3, none⟩ = some (.slice Aa pl.length ca) := blk_cell h.per 3
 have hk0 : w.cell? ⟨bk, 0, none⟩ = some (.map (some bm)) := blk_cell h.kn 0
 have hu64 := Tryd.underlying64
 have hu24 := Tryd.underlying24
 have HREC := Aside0.mk hrec
 have HL := Aside0.mk h
 have HG0 := Aside0.mk hG
 have HC := Aside0.mk hC
 have HCC := Aside0.mk hc
 have HP := Aside0.mk (Kd.C_below hP h.bel)
 have HPX := Aside0.mk hpx
 clear hG hC hc hP hrec h hpx
 go_enter Tryd.func98, Tryd.ntmps98
 go_wp2
 go_loop [5, 13] (fun y v => ∃ j : Nat, j ≤ pl.length ∧ v = .int .i64 (j : Int) ∧ y = .int .i64 ((leftUpto pl f j : Nat) : Int)) (fun _ v => pl.length - (intOf v).toNat)
 case atStart => exact ⟨0, Nat.zero_le _, rfl, rfl⟩
 case round =>
  obtain ⟨j, hj, rfl, rfl⟩ := hrel
  by_cases hlt : j < pl.length
  ·obtain ⟨ad, rfl, hx⟩ := at_int_nat HP.out j hlt
   have HLS := Aside0.mk (show leftUpto pl f (j + 1) = if 0 ≤ rd pl (j : Int) ∧ (f >>> (rd pl (j : Int)).toNat) % 2 = 0 then leftUpto pl f j ||| 2 ^ j else leftUpto pl f j from rfl)
   have hxm := HPX.out _ (rd_mem hlt)
   have hle := Nat.lt_of_lt_of_le (leftUpto_lt pl f j) (Nat.pow_le_pow_right (n := 2) (by decide) (show j ≤ 24 by omega))
   have hor := or_pow (leftUpto pl f j) j hle (by omega)
   have HOR := Aside0.mk hor
   generalize leftUpto pl f j = lf at hle HLS HOR hor ⊢
   generalize rd pl (j : Int) = x at hx HLS hxm
   by_cases h0 : 0 ≤ x
   ·obtain ⟨t, rfl⟩ := Int.eq_ofNat_of_zero_le h0
    have hls := HLS.out
    rw [Int.toNat_natCast] at hls
    have hbt := bit_eq f t (Nat.lt_trans hf (by decide))
    have hbl : (f >>> t) % 2 < 2 := Nat.mod_lt _ (by decide)
    have ht64 : (t : Int) < 64 := by omega
    generalize (f >>> t) % 2 = bt1 at hbt hbl hls
    have hd0 : decide ((0 : Int) ≤ (t : Int)) = true := decide_eq_true h0
    by_cases hb : bt1 = 0
    ·subst hb
     rw [if_pos ⟨h0, rfl⟩] at hls
     have HLS2 := Aside0.mk hls
     clear hls h0
     have hbt0 : Go.bits .and .i64 ((f : Int) / 2 ^ t) 1 = 0 := hbt
     clear hbt
     go_wp2
     go_round
     case rel => exact ⟨j + 1, by omega, by go_num, by rw [HLS2.out]⟩
     case measure => simp [intOf]; omega
    ·obtain rfl : bt1 = 1 := by omega
     rw [if_neg (by omega)] at hls
     have HLS2 := Aside0.mk hls
     clear hls h0
     have hbt0 : Go.bits .and .i64 ((f : Int) / 2 ^ t) 1 = 1 := hbt
     clear hbt hor
     go_wp2
     go_round
     case rel => exact ⟨j + 1, by omega, by go_num, by rw [HLS2.out]⟩
     case measure => simp [intOf]; omega
   ·have hls := HLS.out
    rw [if_neg (fun hh => h0 hh.1)] at hls
    have HLS2 := Aside0.mk hls
    have hd0 : decide ((0 : Int) ≤ x) = false := decide_eq_false h0
    clear hls hor
    go_wp2
    go_round
    case rel => exact ⟨j + 1, by omega, by go_num, by rw [HLS2.out]⟩
    case measure => simp [intOf]; omega
  ·obtain rfl : j = pl.length := by omega
   have hly := leftUpto_lt pl f pl.length
   have HR := Aside0.mk (HREC.out _ hly)
   have hly24 := Nat.lt_of_lt_of_le hly (Nat.pow_le_pow_right (n := 2) (by decide) hpl)
   obtain ⟨y, hy⟩ : ∃ y, y = leftUpto pl f pl.length := ⟨_, rfl⟩
   rw [← hy] at hly hly24 HR ⊢
   have HY := Aside0.mk hy
   clear hy
   obtain ⟨D, hown, hism, hval⟩ := HL.out.own
   have hkey : keyOf Tryd.prog 3 (.int .i64 (y : Int)) = some (.int .i64 (y : Int)) := Maps.keyOf_int_mk Tryd.underlying3 (by simp [Lit.wf, IntKind.min, IntKind.max, IntKind.signed, IntKind.bits]; omega)
   have hz : ∀ W, (zeroValue 4).run Tryd.prog W = .ok (.bool false) W := fun W => by kernel_rfl
   obtain ⟨v0, ps0, hl1, hv0⟩ := hown.look_ok (Maps.int_keyed Tryd.underlying3) Tryd.underlying123 (hz w) (plainElem_bool Tryd.underlying4 false) hkey
   obtain ⟨x0, rfl, hx0⟩ := plainElem_bool_inv Tryd.underlying4 hv0
   cases hhas : Maps.has D (.int .i64 (y : Int)) with
   | true =>
    obtain ⟨v1, ps1, hl2, hv1⟩ := hown.lookup (Maps.int_keyed Tryd.underlying3) Tryd.underlying123 (hz w) (plainElem_bool Tryd.underlying4 false) hkey
    rw [hval y hly24 hhas] at hv1
    obtain ⟨x1, rfl, hx1⟩ := plainElem_bool_inv Tryd.underlying4 hv1
    simp only [Prod.mk.injEq, DataW.lit.injEq, Lit.bool.injEq] at hx1
    obtain ⟨rfl, rfl⟩ := hx1
    rw [hhas] at hl1
    clear hx0 hv0 hv1 hkey hval hism
    have HGR := Aside0.mk (World.grownBy.refl w (some bm))
    have HL2 := Aside0.mk (HL.out.mono (Nat.le_succ N))
    clear hown hhas
    go_wp2
    go_ret
    exact ⟨by rw [← HY.out]; rfl, HGR.out, HL2.out⟩
   | false =>
    rw [hhas] at hl1
    have HKEY := Aside0.mk hkey
    have HZ := Aside0.mk hz
    clear hx0 hv0 hkey hval hism hown hhas hz
    go_upto_region 10 with fail
    have HLd := Aside0.mk (show Looser w0 g bk bm d A c l m Aa ca pl Ac cc ch can N w.drew from HL.out.below (below_drew (Below.refl _ _)))
    have HBd := Aside0.mk (show Below w.heap.size w w.drew from below_drew (Below.refl _ _))
    clear hl1 HP
    refine start_ (n := 8) (S := fun w' => w'.cell? ⟨bk, 0, none⟩ = some (.map (some bm)) ∧ w'.cell? ⟨g, 0, none⟩ = some (.int .i64 d) ∧ w'.cell? ⟨g, 1, none⟩ = some (.slice A l.length c) ∧ w'.cell? ⟨g, 2, none⟩ = some (.int .i64 m)) (ds := [7]) #[false, false, false, false, false, false, false, false] (by kernel_rfl) rfl rfl ⟨hk0, hz0, hz1, hz2⟩ (fun hHeld => ?_)
    clear HL hk0 hz0 hz1 hz2 hz3
    generalize w.drew = wd at *
    refine pure_ (i := 1) (N := some 41) (v := ?_) (a' := ?_) #[false, true, false, false, false, false, false, false] rfl rfl (by kernel_rfl) (fun _ _ _ h => h) (Or.inl ⟨by rfl, ?_⟩) ?_ ?_
    rotate_left
    ·intro w'
     go_simp
     with_reducible rfl
    rotate_left
    ·simp only [Act.put, List.setIfInBounds_toArray, List.set_cons_zero, List.set_cons_succ, i64_w, i32_w]
     rfl
    refine pure_ (i := 2) (N := some 42) (v := ?_) (a' := ?_) #[false, true, true, false, false, false, false, false] rfl rfl (by kernel_rfl) (fun _ _ _ h => h) (Or.inl ⟨by rfl, ?_⟩) ?_ ?_
    rotate_left
    ·intro w'
     go_simp
     with_reducible rfl
    rotate_left
    ·simp only [Act.put, List.setIfInBounds_toArray, List.set_cons_zero, List.set_cons_succ, i64_w, i32_w]
     rfl
    refine pure_ (i := 4) (N := some 44) (v := ?_) (a' := ?_) #[false, true, true, false, true, false, false, false] rfl rfl (by kernel_rfl) (fun _ _ _ h => h) (Or.inl ⟨by rfl, ?_⟩) ?_ ?_
    rotate_left
    ·intro w'
     go_simp
     with_reducible rfl
    rotate_left
    ·simp only [Act.put, List.setIfInBounds_toArray, List.set_cons_zero, List.set_cons_succ, i64_w, i32_w]
     rfl
    refine take_ (i := 0) (N := some 40) (v := ?_) (a' := ?_) #[true, true, true, false, true, false, false, false] rfl rfl (by kernel_rfl) (fun _ _ _ h => h) (Or.inl ⟨by rfl, ?_⟩) hHeld ?_ ?_
    rotate_left
    ·rintro w' ⟨s0, s1, s2, s3⟩
     go_simp
     with_reducible rfl
    rotate_left
    ·simp only [Act.put, List.setIfInBounds_toArray, List.set_cons_zero, List.set_cons_succ, i64_w, i32_w]
     rfl
    refine take_ (i := 3) (N := some 43) (v := ?_) (a' := ?_) #[true, true, true, true, true, false, false, false] rfl rfl (by kernel_rfl) (fun _ _ _ h => h) (Or.inl ⟨by rfl, ?_⟩) hHeld ?_ ?_
    rotate_left
    ·rintro w' ⟨s0, s1, s2, s3⟩
     go_simp
     with_reducible rfl
    rotate_left
    ·simp only [Act.put, List.setIfInBounds_toArray, List.set_cons_zero, List.set_cons_succ, i64_w, i32_w]
     rfl
    refine one_ (i := 5) (N := some 45) #[true, true, true, true, true, true, false, false] rfl rfl (by kernel_rfl) (by decide) (fun K hK => ?_)
    refine goes_ Tryd.func30 (by kernel_rfl) rfl #[.agg #[.int .i64 d, .slice A l.length c, .int .i64 m], .int .i64 (y : Int)] (by rfl) rfl rfl (by simp only [List.map_toArray, List.map_cons, List.map_nil]; rfl) ?_
    with_reducible refine (code_Recoverable.calls k d A c l m (y : Int) (can y) _ (HG0.out.below HLd.out.bel) (Kd.C_below HC.out HLd.out.bel) HCC.out HR.out).mono ?_
    rintro e w7 ⟨rfl, hb⟩
    refine ⟨_, rfl, ?_⟩
    have HL7 := Aside0.mk (HLd.out.below hb)
    have HB7 := Aside0.mk (below_step HBd.out hb)
    clear hb
    refine hK.out _ _ ⟨blk_cell HL7.out.kn 0, blk_cell HL7.out.per 0, blk_cell HL7.out.per 1, blk_cell HL7.out.per 2⟩ (fun hHeld => ?_)
    clear hK K
    refine norm_ (a' := ?_) ?_ ?_
    rotate_left
    ·show Act.put _ (some 45) _ = _
     simp only [Act.put, List.setIfInBounds_toArray, List.set_cons_zero, List.set_cons_succ, i64_w, i32_w]
     rfl
    refine pure_ (i := 6) (N := some 46) (v := ?_) (a' := ?_) #[true, true, true, true, true, true, true, false] rfl rfl (by kernel_rfl) (fun _ _ _ h => h) (Or.inl ⟨by rfl, ?_⟩) ?_ ?_
    rotate_left
    ·intro w'
     go_simp
     with_reducible rfl
    rotate_left
    ·simp only [Act.put, List.setIfInBounds_toArray, List.set_cons_zero, List.set_cons_succ, i64_w, i32_w]
     rfl
    refine last_ (i := 7) (N := none) #[true, true, true, true, true, true, true, true] rfl rfl (by kernel_rfl) (by decide) (fun K hK => ?_)
    obtain ⟨D7, hown7, hism7, hval7⟩ := HL7.out.own
    obtain ⟨w8, hrun8, hown8, hgr8⟩ := hown7.update (Maps.int_keyed Tryd.underlying3) Tryd.underlying123 (show N < maxLen by unfold maxLen; omega) HKEY.out (plainElem_bool Tryd.underlying4 (!can y))
    refine skip_ (w1 := w8) (by rfl) rfl ?_ ?_
    ·go_simp
    refine hK.out _ _ ?_
    clear hK K
    refine done_ (by kernel_rfl) ?_
    have hat : ∀ z, (D7.put (.int .i64 (y : Int)) (.lit (.bool (!can y)))).atKey (.int .i64 (y : Int)) z = .lit (.bool (!can y)) := fun z => Maps.atKey_put_same hism7 (by simp [WideAt.IsKeyLit]) _ z
    obtain ⟨v1, ps1, hl2, hv1⟩ := hown8.lookup (Maps.int_keyed Tryd.underlying3) Tryd.underlying123 (HZ.out w8) (plainElem_bool Tryd.underlying4 false) HKEY.out
    rw [hat] at hv1
    obtain ⟨x1, rfl, hx1⟩ := plainElem_bool_inv Tryd.underlying4 hv1
    simp only [Prod.mk.injEq, DataW.lit.injEq, Lit.bool.injEq] at hx1
    obtain ⟨rfl, rfl⟩ := hx1
    have hkn8 := blk_grownBy HL7.out.kn hgr8 (map_ne HL7.out.kn hown7)
    have hpe8 := blk_grownBy HL7.out.per hgr8 (map_ne HL7.out.per hown7)
    have hk8 : w8.cell? ⟨bk, 0, none⟩ = some (.map (some bm)) := blk_cell hkn8 0
    have HGR := Aside0.mk ((grown_of_below HB7.out (some bm)).trans hgr8)
    have HL8 := Aside0.mk (show Looser w0 g bk bm d A c l m Aa ca pl Ac cc ch can (N + 1) w8 from ⟨HL7.out.bg, HL7.out.bb, HL7.out.bn, hpe8, hkn8, ⟨_, hown8, hism7.put _ _, fun z hz24 hhas z2 => by
     by_cases e : z = y
     ·subst e; exact hat z2
     ·have hne : (Lit.int IntKind.i64 (z : Int)) ≠ (Lit.int IntKind.i64 (y : Int)) := by simp; omega
      rw [Maps.atKey_put_other hne]
      rw [Maps.has_put_other hne] at hhas
      exact hval7 z hz24 hhas z2⟩, HL7.out.bel.grown hgr8 HL7.out.bel.size (fun k hk => by obtain rfl := Option.some.inj hk; exact HL7.out.bn)⟩)
    clear hat hv1 hkn8 hpe8 hgr8 hown8 hval7 hism7 hown7 hrun8 HL7 HB7 HBd HLd
    go_wp2
    go_ret
    exact ⟨by rw [← HY.out]; rfl, HGR.out, HL8.out⟩


/-! ### risk_looser: function 77 -/
/-- A peril in a block, with what it speaks of. -/
def PerilAt (g : Nat) (d : Int) (A : Option Addr) (c : Nat) (l : List (List Int)) (m : Int) (Aa : Option Addr) (ca : Nat) (pl : List Int) (Ac : Option Addr) (cc : Nat) (ch : List Int) (W : World) : Prop :=
 W.heap[g]? = some (.cells #[.int .i64 d, .slice A l.length c, .int .i64 m, .slice Aa pl.length ca, .slice Ac ch.length cc] 64 (0, 0)) ∧ l.length ≤ c ∧ Kd.C (Kd.slice 3 (Kd.int .i64)) W A l.length l ∧ pl.length ≤ ca ∧ (Kd.int .i64).C W Aa pl.length pl ∧ ch.length ≤ cc ∧ (Kd.int .i64).C W Ac ch.length ch ∧ HG W
section
variable {g : Nat} {d : Int} {A : Option Addr} {c : Nat} {l : List (List Int)} {m : Int} {Aa : Option Addr} {ca : Nat} {pl : List Int} {Ac : Option Addr} {cc : Nat} {ch : List Int} {W W' : World}
theorem PerilAt.below (h : PerilAt g d A c l m Aa ca pl Ac cc ch W) (hb : Below W.heap.size W W') : PerilAt g d A c l m Aa ca pl Ac cc ch W' :=
 ⟨blk_below h.1 hb, h.2.1, Kd.C_below h.2.2.1 hb, h.2.2.2.1, Kd.C_below h.2.2.2.2.1 hb, h.2.2.2.2.2.1, Kd.C_below h.2.2.2.2.2.2.1 hb, h.2.2.2.2.2.2.2.below hb⟩
theorem PerilAt.hg (h : PerilAt g d A c l m Aa ca pl Ac cc ch W) : HG W := h.2.2.2.2.2.2.2
theorem PerilAt.hch (h : PerilAt g d A c l m Aa ca pl Ac cc ch W) : (Kd.int .i64).C W Ac ch.length ch := h.2.2.2.2.2.2.1
theorem PerilAt.hpl (h : PerilAt g d A c l m Aa ca pl Ac cc ch W) : (Kd.int .i64).C W Aa pl.length pl := h.2.2.2.2.1
theorem PerilAt.hgr (h : PerilAt g d A c l m Aa ca pl Ac cc ch W) : Kd.C (Kd.slice 3 (Kd.int .i64)) W A l.length l := h.2.2.1
theorem PerilAt.hc (h : PerilAt g d A c l m Aa ca pl Ac cc ch W) : l.length ≤ c := h.2.1
theorem PerilAt.hca (h : PerilAt g d A c l m Aa ca pl Ac cc ch W) : pl.length ≤ ca := h.2.2.2.1
theorem PerilAt.hcc (h : PerilAt g d A c l m Aa ca pl Ac cc ch W) : ch.length ≤ cc := h.2.2.2.2.2.1
theorem PerilAt.c0 (h : PerilAt g d A c l m Aa ca pl Ac cc ch W) : W.cell? ⟨g, 0, none⟩ = some (.int .i64 d) := blk_cell h.1 0
theorem PerilAt.c1 (h : PerilAt g d A c l m Aa ca pl Ac cc ch W) : W.cell? ⟨g, 1, none⟩ = some (.slice A l.length c) := blk_cell h.1 1
theorem PerilAt.c2 (h : PerilAt g d A c l m Aa ca pl Ac cc ch W) : W.cell? ⟨g, 2, none⟩ = some (.int .i64 m) := blk_cell h.1 2
theorem PerilAt.c3 (h : PerilAt g d A c l m Aa ca pl Ac cc ch W) : W.cell? ⟨g, 3, none⟩ = some (.slice Aa pl.length ca) := blk_cell h.1 3
theorem PerilAt.c4 (h : PerilAt g d A c l m Aa ca pl Ac cc ch W) : W.cell? ⟨g, 4, none⟩ = some (.slice Ac ch.length cc) := blk_cell h.1 4
theorem PerilAt.check {k : Nat} {r : Int} (h : PerilAt g d A c l m Aa ca pl Ac cc ch W) (hr : risk_Check.f k d l m pl ch = some r) :
  Calls Tryd.prog 50 #[.agg #[.int .i64 d, .slice A l.length c, .int .i64 m, .slice Aa pl.length ca, .slice Ac ch.length cc]] W fun e w' => e = .returned (.int .i64 r) ∧ Below W.heap.size W w' :=
 risk_Check.calls k d A c l m Aa ca pl Ac cc ch r W h.hg h.hgr h.hc h.hpl h.hca h.hch h.hcc hr
end
set_option maxHeartbeats 4000000 in
set_option maxRecDepth 100000 in
/-- looser: a new function, that knows nothing. -/
theorem risk_looser.calls (d : Int) (A : Option Addr) (c : Nat) (l : List (List Int)) (m : Int) (Aa : Option Addr) (ca : Nat) (pl : List Int) (Ac : Option Addr) (cc : Nat) (ch : List Int) (can : Nat → Bool) (w : World) :
  Calls Tryd.prog 77 #[.agg #[.int .i64 d, .slice A l.length c, .int .i64 m, .slice Aa pl.length ca, .slice Ac ch.length cc]] w fun e w' => ∃ g bk bm, e = .returned (.func (.func 98) #[] #[.pointer (some ⟨g, 0, none⟩), .pointer (some ⟨bk, 0, none⟩)]) ∧ Looser w g bk bm d A c l m Aa ca pl Ac cc ch can 0 w' := by
 have hmf := run_mf Tryd.prog
 have hmm := @run_makeMap Tryd.prog
 have hu64 := Tryd.underlying64
 have hum := Tryd.underlying123
 go_enter Tryd.func77, Tryd.ntmps77
 go_wp2
 go_ret
 refine ⟨_, _, w.heap.size + 1, rfl, Nat.le_refl _, by omega, by omega, blk_alloc (blk_alloc (blk_new w _) _) _, ?_, ⟨.map [], ?_, Maps.isMap_empty, fun y _ hh => ?_⟩, below_alloc (below_alloc (below_alloc (Below.refl _ _) _) _) _⟩
 ·have := blk_new ((w.alloc (.cells #[.int .i64 d, .slice A l.length c, .int .i64 m, .slice Aa pl.length ca, .slice Ac ch.length cc] 64)).alloc (.map #[] 0)) (.cells #[.map (some (w.heap.size + 1))] 123)
  simpa using this
 ·have := (World.ownsMap_made (w.alloc (.cells #[.int .i64 d, .slice A l.length c, .int .i64 m, .slice Aa pl.length ca, .slice Ac ch.length cc] 64)) Tryd.prog 3 (plainElem (H := Unit) Tryd.prog 4)).alloc (.cells #[.map (some (w.heap.size + 1))] 123)
  simpa using this
 ·rw [Maps.has_eq] at hh
  simp at hh


/-! ### risk_Lost: function 41 -/
def okPeril (pl ch : List Int) : Bool := decide (pl.length ≤ 24) && (decide (ch.length ≤ 12) && ((pl.all fun x => decide (-1 ≤ x) && decide (x < 12)) && ch.all fun x => decide (0 ≤ x) && decide (x ≤ 16)))
theorem okPeril_iff {pl ch : List Int} : okPeril pl ch = true ↔ pl.length ≤ 24 ∧ ch.length ≤ 12 ∧ (∀ x ∈ pl, -1 ≤ x ∧ x < 12) ∧ ∀ x ∈ ch, 0 ≤ x ∧ x ≤ 16 := by
 simp [okPeril, List.all_eq_true]
/-- Does a set of pieces suffice, by the rows. -/
def canOf (rows : List (List Int)) (y : Nat) : Bool := (collectOk rows (y : Int) []).isSome
def risk_Lost.f (k : Nat) (a0_0 : Int) (l0_1 : List (List Int)) (a0_2 : Int) (l0_3 : List Int) (l0_4 : List Int) (a1 : Int) : Option (Bool × Int) :=
 (risk_Check.f k a0_0 l0_1 a0_2 l0_3 l0_4).bind fun e => if e = 0 then (if okPeril l0_3 l0_4 = true then (if a1 < 0 ∨ ((2 ^ l0_4.length : Nat) : Int) ≤ a1 then some (false, 1) else (code_Rows.f k a0_0 l0_1 a0_2).bind fun r => if okRows r.1 = true then some (!canOf r.1 (leftUpto l0_3 a1.toNat l0_3.length), 0) else none) else none) else some (false, e)
theorem pow_wrap (n : Nat) (h : n ≤ 24) : wrap64 ((2 : Int) ^ n) = ((2 ^ n : Nat) : Int) := by
 have h1 : 2 ^ n ≤ 2 ^ 24 := Nat.pow_le_pow_right (by decide) h
 rw [show (2 : Int) ^ n = ((2 ^ n : Nat) : Int) by simp]
 generalize 2 ^ n = z at h1
 unfold wrap64; omega
theorem pow12 {f n : Nat} (hn : n ≤ 12) (hf : f < 2 ^ n) : f < 2 ^ 12 := Nat.lt_of_lt_of_le hf (Nat.pow_le_pow_right (by decide) hn)
theorem rows_rec {k : Nat} {d : Int} {l : List (List Int)} {m : Int} {rows : List (List Int)} {e : Int} (h1 : code_Rows.f k d l m = some (rows, e)) (h2 : okRows rows = true) (y : Nat) : code_Recoverable.f k d l m (y : Int) = some (canOf rows y) := by
 unfold code_Recoverable.f canOf
 rw [h1]
 simp [h2]
set_option maxHeartbeats 4000000 in
set_option maxRecDepth 100000 in
theorem risk_Lost.calls (k : Nat) (a0_0 : Int) (A0_1 : Option Addr) (c0_1 : Nat) (l0_1 : List (List Int)) (a0_2 : Int) (A0_3 : Option Addr) (c0_3 : Nat) (l0_3 : List Int) (A0_4 : Option Addr) (c0_4 : Nat) (l0_4 : List Int) (a1 : Int) (r1 : Bool) (r2 : Int) (w : World) (hG : HG w) (hr0_1 : Kd.C (Kd.slice 3 (Kd.int .i64)) w A0_1 l0_1.length l0_1) (hc0_1 : l0_1.length ≤ c0_1) (hr0_3 : Kd.C (Kd.int .i64) w A0_3 l0_3.length l0_3) (hc0_3 : l0_3.length ≤ c0_3) (hr0_4 : Kd.C (Kd.int .i64) w A0_4 l0_4.length l0_4) (hc0_4 : l0_4.length ≤ c0_4) (h : risk_Lost.f k a0_0 l0_1 a0_2 l0_3 l0_4 a1 = some (r1, r2)) :
  Calls Tryd.prog 41 #[.agg #[.int .i64 a0_0, .slice A0_1 l0_1.length c0_1, .int .i64 a0_2, .slice A0_3 l0_3.length c0_3, .slice A0_4 l0_4.length c0_4], .int .i64 a1] w fun e w' => e = .returned (.tuple #[.bool r1, .int .i64 r2]) ∧ Below w.heap.size w w' := by
 have HK := Aside0.mk (show PerilAt w.heap.size a0_0 A0_1 c0_1 l0_1 a0_2 A0_3 c0_3 l0_3 A0_4 c0_4 l0_4 (w.alloc (.cells #[.int .i64 a0_0, .slice A0_1 l0_1.length c0_1, .int .i64 a0_2, .slice A0_3 l0_3.length c0_3, .slice A0_4 l0_4.length c0_4] 64)) from
  ⟨blk_new _ _, hc0_1, Kd.C_alloc hr0_1 _, hc0_3, Kd.C_alloc hr0_3 _, hc0_4, Kd.C_alloc hr0_4 _, hG.alloc _⟩)
 have HB := Aside0.mk (below_alloc (Below.refl w.heap.size w) (.cells #[.int .i64 a0_0, .slice A0_1 l0_1.length c0_1, .int .i64 a0_2, .slice A0_3 l0_3.length c0_3, .slice A0_4 l0_4.length c0_4] 64))
 have hu64 := Tryd.underlying64
 have hz0 := HK.out.c0
 have hz1 := HK.out.c1
 have hz2 := HK.out.c2
 have hz3 := HK.out.c3
 have hz4 := HK.out.c4
 clear hG hr0_1 hc0_1 hr0_3 hc0_3 hr0_4 hc0_4
 obtain ⟨e, he, h⟩ := Option.bind_eq_some_iff.1 h
 have HE := Aside0.mk he
 clear he
 by_cases e0 : e = 0
 ·subst e0
  rw [if_pos rfl] at h
  by_cases hok : okPeril l0_3 l0_4 = true
  ·rw [if_pos hok] at h
   obtain ⟨o1, o2, o3, o4⟩ := okPeril_iff.1 hok
   have hpw := pow_wrap l0_4.length (by omega)
   by_cases hneg : a1 < 0
   ·rw [if_pos (.inl hneg)] at h
    simp only [Option.some.injEq, Prod.mk.injEq] at h
    obtain ⟨rfl, rfl⟩ := h
    have b1 : decide (a1 < 0) = true := decide_eq_true hneg
    clear hpw o1 o2 o3 o4 hok
    go_enter Tryd.func41, Tryd.ntmps41
    go_wp2_with (first
     | (go_at_call 50; (with_reducible refine (HK.out.check HE.out).mono ?_); rintro e w1 ⟨rfl, hb⟩; have HKn := Aside0.mk (HK.out.below hb); have HBn := Aside0.mk (below_step HB.out hb); clear HK HB hz0 hz1 hz2 hz3 hz4 hb; have HK := HKn; have HB := HBn; clear HKn HBn; have hz0 := HK.out.c0; have hz1 := HK.out.c1; have hz2 := HK.out.c2; have hz3 := HK.out.c3; have hz4 := HK.out.c4))
    go_ret2
    exact ⟨rfl, HB.out⟩
   ·have b1 : decide (a1 < 0) = false := decide_eq_false hneg
    by_cases hbig : ((2 ^ l0_4.length : Nat) : Int) ≤ a1
    ·rw [if_pos (.inr hbig)] at h
     simp only [Option.some.injEq, Prod.mk.injEq] at h
     obtain ⟨rfl, rfl⟩ := h
     have b2 : decide (wrap64 ((2 : Int) ^ l0_4.length) ≤ a1) = true := decide_eq_true (by rw [hpw]; exact hbig)
     clear hpw o1 o3 o4 hok hbig hneg
     go_enter Tryd.func41, Tryd.ntmps41
     go_wp2_with (first
      | (go_at_call 50; (with_reducible refine (HK.out.check HE.out).mono ?_); rintro e w1 ⟨rfl, hb⟩; have HKn := Aside0.mk (HK.out.below hb); have HBn := Aside0.mk (below_step HB.out hb); clear HK HB hz0 hz1 hz2 hz3 hz4 hb; have HK := HKn; have HB := HBn; clear HKn HBn; have hz0 := HK.out.c0; have hz1 := HK.out.c1; have hz2 := HK.out.c2; have hz3 := HK.out.c3; have hz4 := HK.out.c4))
     go_ret2
     exact ⟨rfl, HB.out⟩
    ·rw [if_neg (fun hh => hh.elim hneg hbig)] at h
     have b2 : decide (wrap64 ((2 : Int) ^ l0_4.length) ≤ a1) = false := decide_eq_false (by rw [hpw]; exact hbig)
     obtain ⟨⟨rows, e1⟩, hrows, h⟩ := Option.bind_eq_some_iff.1 h
     dsimp only at h
     by_cases hokr : okRows rows = true
     ·rw [if_pos hokr] at h
      obtain ⟨f, rfl⟩ := Int.eq_ofNat_of_zero_le (show 0 ≤ a1 by omega)
      rw [Int.toNat_natCast] at h
      simp only [Option.some.injEq, Prod.mk.injEq] at h
      obtain ⟨h3, rfl⟩ := h
      have H3 := Aside0.mk h3
      have HF := Aside0.mk (pow12 o2 (show f < 2 ^ l0_4.length by omega))
      have HREC := Aside0.mk (fun y (_ : y < 2 ^ l0_3.length) => rows_rec hrows hokr y)
      have HPX := Aside0.mk (fun x hx => (o3 x hx).2)
      have HE98 := Aside0.mk (enters_of Tryd.func98 (by kernel_rfl) rfl)
      have HO1 := Aside0.mk o1
      clear hpw o1 o3 o4 hok hbig hneg h3 hrows hokr
      have HE98' := HE98.out
      go_enter Tryd.func41, Tryd.ntmps41
      go_wp2_with (first
       | (go_at_call 50; (with_reducible refine (HK.out.check HE.out).mono ?_); rintro e w1 ⟨rfl, hb⟩; have HKn := Aside0.mk (HK.out.below hb); have HBn := Aside0.mk (below_step HB.out hb); clear HK HB hz0 hz1 hz2 hz3 hz4 hb; have HK := HKn; have HB := HBn; clear HKn HBn; have hz0 := HK.out.c0; have hz1 := HK.out.c1; have hz2 := HK.out.c2; have hz3 := HK.out.c3; have hz4 := HK.out.c4)
       | (go_at_call 77; (with_reducible refine (risk_looser.calls a0_0 A0_1 c0_1 l0_1 a0_2 A0_3 c0_3 l0_3 A0_4 c0_4 l0_4 (canOf rows) _).mono ?_); rintro e w2 ⟨g, bk, bm, rfl, hL⟩; have HL := Aside0.mk hL; clear hL hz0 hz1 hz2 hz3 hz4)
       | ((with_reducible refine (risk_looser_1.calls k _ g bk bm a0_0 A0_1 c0_1 l0_1 a0_2 A0_3 c0_3 l0_3 A0_4 c0_4 l0_4 (canOf rows) 0 f _ HK.out.hg HK.out.hgr HK.out.hc HK.out.hpl HK.out.hca HO1.out HPX.out HF.out HREC.out (by decide) HL.out).mono ?_); rintro e w3 ⟨rfl, hg3, hL3⟩; have HL3 := Aside0.mk hL3; clear hg3 hL3))
      go_ret2
      exact ⟨by rw [← H3.out]; rfl, below_step HB.out HL3.out.bel⟩
     ·rw [if_neg hokr] at h
      cases h
  ·rw [if_neg hok] at h
   cases h
 ·rw [if_neg e0] at h
  simp only [Option.some.injEq, Prod.mk.injEq] at h
  obtain ⟨rfl, rfl⟩ := h
  have b1 : (e == 0) = false := beq_eq_false_iff_ne.2 e0
  have b2 : (e != 0) = true := bne_iff_ne.2 e0
  clear e0
  go_enter Tryd.func41, Tryd.ntmps41
  go_wp2_with (first
   | (go_at_call 50; (with_reducible refine (HK.out.check HE.out).mono ?_); rintro e w1 ⟨rfl, hb⟩; have HKn := Aside0.mk (HK.out.below hb); have HBn := Aside0.mk (below_step HB.out hb); clear HK HB hz0 hz1 hz2 hz3 hz4 hb; have HK := HKn; have HB := HBn; clear HKn HBn; have hz0 := HK.out.c0; have hz1 := HK.out.c1; have hz2 := HK.out.c2; have hz3 := HK.out.c3; have hz4 := HK.out.c4))
  go_ret2
  exact ⟨rfl, HB.out⟩


/-! ### risk_Loss: function 42 -/
/-- The weight of a set of domains, by the first ones. -/
def wUpto (ch : List Int) (f : Nat) : Nat → Int
 | 0 => 1
 | j + 1 => wrap64 (wUpto ch f j * (if (f >>> j) % 2 = 0 then 16 - rd ch (j : Int) else rd ch (j : Int)))
def wOf (ch : List Int) (f : Nat) : Int := wUpto ch f ch.length
def lossUpto (can : Nat → Bool) (pl ch : List Int) : Nat → Int
 | 0 => 0
 | f + 1 => if 0 < wOf ch f ∧ can (leftUpto pl f pl.length) = false then wrap64 (lossUpto can pl ch f + wOf ch f) else lossUpto can pl ch f
def risk_Loss.f (k : Nat) (a0_0 : Int) (l0_1 : List (List Int)) (a0_2 : Int) (l0_3 : List Int) (l0_4 : List Int) : Option (Int × Int) :=
 (risk_Check.f k a0_0 l0_1 a0_2 l0_3 l0_4).bind fun e => if e = 0 then (if okPeril l0_3 l0_4 = true then (code_Rows.f k a0_0 l0_1 a0_2).bind fun r => if okRows r.1 = true then some (lossUpto (canOf r.1) l0_3 l0_4 (2 ^ l0_4.length), 0) else none else none) else some (0, e)
set_option maxHeartbeats 4000000 in
set_option maxRecDepth 100000 in
theorem risk_Loss.calls (k : Nat) (a0_0 : Int) (A0_1 : Option Addr) (c0_1 : Nat) (l0_1 : List (List Int)) (a0_2 : Int) (A0_3 : Option Addr) (c0_3 : Nat) (l0_3 : List Int) (A0_4 : Option Addr) (c0_4 : Nat) (l0_4 : List Int) (r1 : Int) (r2 : Int) (w : World) (hG : HG w) (hr0_1 : Kd.C (Kd.slice 3 (Kd.int .i64)) w A0_1 l0_1.length l0_1) (hc0_1 : l0_1.length ≤ c0_1) (hr0_3 : Kd.C (Kd.int .i64) w A0_3 l0_3.length l0_3) (hc0_3 : l0_3.length ≤ c0_3) (hr0_4 : Kd.C (Kd.int .i64) w A0_4 l0_4.length l0_4) (hc0_4 : l0_4.length ≤ c0_4) (h : risk_Loss.f k a0_0 l0_1 a0_2 l0_3 l0_4 = some (r1, r2)) :
  Calls Tryd.prog 42 #[.agg #[.int .i64 a0_0, .slice A0_1 l0_1.length c0_1, .int .i64 a0_2, .slice A0_3 l0_3.length c0_3, .slice A0_4 l0_4.length c0_4]] w fun e w' => e = .returned (.tuple #[.int .i64 r1, .int .i64 r2]) ∧ Below w.heap.size w w' := by
 have HK := Aside0.mk (show PerilAt w.heap.size a0_0 A0_1 c0_1 l0_1 a0_2 A0_3 c0_3 l0_3 A0_4 c0_4 l0_4 (w.alloc (.cells #[.int .i64 a0_0, .slice A0_1 l0_1.length c0_1, .int .i64 a0_2, .slice A0_3 l0_3.length c0_3, .slice A0_4 l0_4.length c0_4] 64)) from
  ⟨blk_new _ _, hc0_1, Kd.C_alloc hr0_1 _, hc0_3, Kd.C_alloc hr0_3 _, hc0_4, Kd.C_alloc hr0_4 _, hG.alloc _⟩)
 have HB := Aside0.mk (below_alloc (Below.refl w.heap.size w) (.cells #[.int .i64 a0_0, .slice A0_1 l0_1.length c0_1, .int .i64 a0_2, .slice A0_3 l0_3.length c0_3, .slice A0_4 l0_4.length c0_4] 64))
 have hu64 := Tryd.underlying64
 have hz0 := HK.out.c0
 have hz1 := HK.out.c1
 have hz2 := HK.out.c2
 have hz3 := HK.out.c3
 have hz4 := HK.out.c4
 clear hG hr0_1 hc0_1 hr0_3 hc0_3 hr0_4 hc0_4
 obtain ⟨e, he, h⟩ := Option.bind_eq_some_iff.1 h
 have HE := Aside0.mk he
 clear he
 by_cases e0 : e = 0
 ·subst e0
  rw [if_pos rfl] at h
  by_cases hok : okPeril l0_3 l0_4 = true
  ·rw [if_pos hok] at h
   obtain ⟨o1, o2, o3, o4⟩ := okPeril_iff.1 hok
   have hpw := pow_wrap l0_4.length (by omega)
   have hpl := Nat.pow_le_pow_right (n := 2) (by decide) o2
   obtain ⟨⟨rows, e1⟩, hrows, h⟩ := Option.bind_eq_some_iff.1 h
   dsimp only at h
   by_cases hokr : okRows rows = true
   ·rw [if_pos hokr] at h
    simp only [Option.some.injEq, Prod.mk.injEq] at h
    obtain ⟨h3, rfl⟩ := h
    have H3 := Aside0.mk h3
    have HREC := Aside0.mk (fun y (_ : y < 2 ^ l0_3.length) => rows_rec hrows hokr y)
    have HPX := Aside0.mk (fun x hx => (o3 x hx).2)
    have HCX := Aside0.mk o4
    have HE98 := (enters_of Tryd.func98 (by kernel_rfl) rfl)
    have HO1 := Aside0.mk o1
    have HPW := Aside0.mk hpw
    have HPL := Aside0.mk hpl
    clear hpw o1 o3 o4 hok h3 hrows hokr hpl
    go_enter Tryd.func42, Tryd.ntmps42
    go_upto_block 0 with (first
     | (go_at_call 50; (with_reducible refine (HK.out.check HE.out).mono ?_); rintro e w1 ⟨rfl, hb⟩; have HKn := Aside0.mk (HK.out.below hb); have HBn := Aside0.mk (below_step HB.out hb); clear HK HB hz0 hz1 hz2 hz3 hz4 hb; have HK := HKn; have HB := HBn; clear HKn HBn; have hz0 := HK.out.c0; have hz1 := HK.out.c1; have hz2 := HK.out.c2; have hz3 := HK.out.c3; have hz4 := HK.out.c4)
     | (go_at_call 77; (with_reducible refine (risk_looser.calls a0_0 A0_1 c0_1 l0_1 a0_2 A0_3 c0_3 l0_3 A0_4 c0_4 l0_4 (canOf rows) _).mono ?_); rintro e w2 ⟨g, bk, bm, rfl, hL⟩; have HL := Aside0.mk hL; clear hL hz0 hz1 hz2 hz3 hz4; have hz4 := (HK.out.below HL.out.bel).c4))
    rw [HPW.out]
    obtain ⟨T, hT⟩ : ∃ T : Nat, T = 2 ^ l0_4.length := ⟨_, rfl⟩
    rw [← hT]
    have HT := Aside0.mk hT
    have hT12 : T ≤ 4096 := by rw [hT]; exact HPL.out
    clear hT HPL
    go_wp2
    go_loopw [6, 22] (fun y v W => ∃ f : Nat, f ≤ T ∧ v = .int .i64 (f : Int) ∧ y = .int .i64 (lossUpto (canOf rows) l0_3 l0_4 f) ∧ Aside0 (Looser w1 g bk bm a0_0 A0_1 c0_1 l0_1 a0_2 A0_3 c0_3 l0_3 A0_4 c0_4 l0_4 (canOf rows) f W)) (fun _ v _ => T - (intOf v).toNat)
    case atStart => exact ⟨0, Nat.zero_le _, rfl, rfl, HL⟩
    case round =>
     clear hz4 HL
     obtain ⟨wo, rfl⟩ : ∃ wo : World, wo = wr := ⟨_, rfl⟩
     obtain ⟨f, hf, rfl, rfl, HLf⟩ := hrel
     by_cases hlt : f < T
     ·have hz4 := (HK.out.below HLf.out.bel).c4
      have HLS := Aside0.mk (show lossUpto (canOf rows) l0_3 l0_4 (f + 1) = if 0 < wOf l0_4 f ∧ canOf rows (leftUpto l0_3 f l0_3.length) = false then wrap64 (lossUpto (canOf rows) l0_3 l0_4 f + wOf l0_4 f) else lossUpto (canOf rows) l0_3 l0_4 f from rfl)
      have HF12 := Aside0.mk (show f < 2 ^ 12 by have : (2 : Nat) ^ 12 = 4096 := rfl; omega)
      have HF6 := Aside0.mk (show f < 1000000 by omega)
      have HCH := Aside0.mk (Kd.C_below HK.out.hch HLf.out.bel)
      generalize lossUpto (canOf rows) l0_3 l0_4 f = lu at HLS ⊢
      go_wp2
      go_loop [8, 28] (fun y v => ∃ j : Nat, j ≤ l0_4.length ∧ v = .int .i64 (j : Int) ∧ y = .int .i64 (wUpto l0_4 f j)) (fun _ v => l0_4.length - (intOf v).toNat)
      case atStart => exact ⟨0, Nat.zero_le _, rfl, rfl⟩
      case round =>
       obtain ⟨j, hj, rfl, rfl⟩ := hrel
       by_cases hlt2 : j < l0_4.length
       ·obtain ⟨ad, e4, hx⟩ := at_int_nat HCH.out j hlt2
        have hcx := HCX.out _ (rd_mem hlt2)
        have HWS := Aside0.mk (show wUpto l0_4 f (j + 1) = wrap64 (wUpto l0_4 f j * (if (f >>> j) % 2 = 0 then 16 - rd l0_4 (j : Int) else rd l0_4 (j : Int))) from rfl)
        have hbt := bit_eq f j (Nat.lt_trans HF12.out (by decide))
        have hbl : (f >>> j) % 2 < 2 := Nat.mod_lt _ (by decide)
        generalize wUpto l0_4 f j = wu at HWS ⊢
        generalize rd l0_4 (j : Int) = x at hx hcx HWS
        obtain ⟨hc0, hc1⟩ := hcx
        generalize (f >>> j) % 2 = bt at hbt hbl HWS
        subst e4
        have hj64 : (j : Int) < 64 := by omega
        by_cases hb : bt = 0
        ·subst hb
         have hws := HWS.out
         rw [if_pos rfl] at hws
         have HWS2 := Aside0.mk hws
         have hbt0 : Go.bits .and .i64 ((f : Int) / 2 ^ j) 1 = 0 := hbt
         clear hws hbt
         go_wp2
         go_round
         case rel => exact ⟨j + 1, by omega, by go_num, by rw [HWS2.out]⟩
         case measure => simp [intOf]; omega
        ·obtain rfl : bt = 1 := by omega
         have hws := HWS.out
         rw [if_neg (by omega)] at hws
         have HWS2 := Aside0.mk hws
         have hbt0 : Go.bits .and .i64 ((f : Int) / 2 ^ j) 1 = 1 := hbt
         clear hws hbt
         go_wp2
         go_round
         case rel => exact ⟨j + 1, by omega, by go_num, by rw [HWS2.out]⟩
         case measure => simp [intOf]; omega
       ·obtain rfl : j = l0_4.length := by omega
        have HWO := Aside0.mk (show wOf l0_4 f = wUpto l0_4 f l0_4.length from rfl)
        generalize wUpto l0_4 f l0_4.length = wt at HWO ⊢
        have hls := HLS.out
        rw [HWO.out] at hls
        have HLN := Aside0.mk (HLf.out.mono (Nat.le_succ f))
        by_cases hw0 : 0 < wt
        ·have hd0 : decide (0 < wt) = true := decide_eq_true hw0
         generalize hcy : canOf rows (leftUpto l0_3 f l0_3.length) = cy at hls
         have HCY := Aside0.mk hcy
         clear hcy
         cases cy with
         | false =>
          rw [if_pos ⟨hw0, rfl⟩] at hls
          have HLS2 := Aside0.mk hls
          clear hls hw0
          go_wp2_with (first | ((with_reducible refine (risk_looser_1.calls k _ g bk bm a0_0 A0_1 c0_1 l0_1 a0_2 A0_3 c0_3 l0_3 A0_4 c0_4 l0_4 (canOf rows) f f _ HK.out.hg HK.out.hgr HK.out.hc HK.out.hpl HK.out.hca HO1.out HPX.out HF12.out HREC.out HF6.out HLf.out).mono ?_); rintro e w3 ⟨rfl, hg3, hL3⟩; have HL3 := Aside0.mk hL3; clear hg3 hL3; rw [HCY.out]; go_simp))
          go_roundw
          case rel => exact ⟨f + 1, by omega, by go_num, by rw [HLS2.out], HL3⟩
          case measure => simp [intOf]; omega
         | true =>
          rw [if_neg (fun hh => by cases hh.2)] at hls
          have HLS2 := Aside0.mk hls
          clear hls hw0
          go_wp2_with (first | ((with_reducible refine (risk_looser_1.calls k _ g bk bm a0_0 A0_1 c0_1 l0_1 a0_2 A0_3 c0_3 l0_3 A0_4 c0_4 l0_4 (canOf rows) f f _ HK.out.hg HK.out.hgr HK.out.hc HK.out.hpl HK.out.hca HO1.out HPX.out HF12.out HREC.out HF6.out HLf.out).mono ?_); rintro e w3 ⟨rfl, hg3, hL3⟩; have HL3 := Aside0.mk hL3; clear hg3 hL3; rw [HCY.out]; go_simp))
          go_roundw
          case rel => exact ⟨f + 1, by omega, by go_num, by rw [HLS2.out], HL3⟩
          case measure => simp [intOf]; omega
        ·have hd0 : decide (0 < wt) = false := decide_eq_false hw0
         rw [if_neg (fun hh => hw0 hh.1)] at hls
         have HLS2 := Aside0.mk hls
         clear hls hw0
         go_wp2
         go_roundw
         case rel => exact ⟨f + 1, by omega, by go_num, by rw [HLS2.out], HLN⟩
         case measure => simp [intOf]; omega
     ·obtain rfl : f = T := by omega
      rw [HT.out, H3.out]
      go_wp2
      go_ret2
      exact ⟨rfl, below_step HB.out HLf.out.bel⟩
   ·rw [if_neg hokr] at h
    cases h
  ·rw [if_neg hok] at h
   cases h
 ·rw [if_neg e0] at h
  simp only [Option.some.injEq, Prod.mk.injEq] at h
  obtain ⟨rfl, rfl⟩ := h
  have b1 : (e == 0) = false := beq_eq_false_iff_ne.2 e0
  have b2 : (e != 0) = true := bne_iff_ne.2 e0
  clear e0
  go_enter Tryd.func42, Tryd.ntmps42
  go_wp2_with (first
   | (go_at_call 50; (with_reducible refine (HK.out.check HE.out).mono ?_); rintro e w1 ⟨rfl, hb⟩; have HKn := Aside0.mk (HK.out.below hb); have HBn := Aside0.mk (below_step HB.out hb); clear HK HB hz0 hz1 hz2 hz3 hz4 hb; have HK := HKn; have HB := HBn; clear HKn HBn; have hz0 := HK.out.c0; have hz1 := HK.out.c1; have hz2 := HK.out.c2; have hz3 := HK.out.c3; have hz4 := HK.out.c4))
  go_ret2
  exact ⟨rfl, HB.out⟩


/-! ### risk_Least_1: function 78 -/
def risk_Least_1.f (a0 : Int) (a1 : Int) : Option (Bool) := some ((Go.bits .and .i64 a0 (Go.bits .and .i64 (Go.bits .xor .i64 a0 a1) (wrap64 (-(Go.bits .xor .i64 a0 a1))))) != 0)
set_option maxHeartbeats 8000000 in
set_option maxRecDepth 100000 in
theorem risk_Least_1.calls (a0 : Int) (a1 : Int) (r : Bool) (w : World) (hG : HG w) (h : risk_Least_1.f a0 a1 = some r) :
  Calls Tryd.prog 78 #[.int .i64 a0, .int .i64 a1] w fun e w' => e = .returned (.bool r) ∧ Drawn0 w w' := by
 have HGw := Aside0.mk hG
 clear hG
 have H : (some ((Go.bits .and .i64 a0 (Go.bits .and .i64 (Go.bits .xor .i64 a0 a1) (wrap64 (-(Go.bits .xor .i64 a0 a1))))) != 0)) = some r := h
 clear h
 obtain rfl := Option.some.inj H
 go_enter Tryd.func78, Tryd.ntmps78
 go_wp2
 go_ret
 exact ⟨by first | rfl | (simp; done) | (simp [*]; done), by repeat (first | exact Drawn0.refl _ | apply Drawn0.step)⟩


/-! ### risk_Least: function 43 -/
/-- Of two sets with as many domains: does the first come first. -/
def firstB (a b : Nat) : Bool := Go.bits .and .i64 (a : Int) (Go.bits .and .i64 (Go.bits .xor .i64 (a : Int) (b : Int)) (wrap64 (-(Go.bits .xor .i64 (a : Int) (b : Int))))) != 0
theorem first_calls (a b : Nat) (w : World) (hG : HG w) : Calls Tryd.prog 78 #[.int .i64 (a : Int), .int .i64 (b : Int)] w fun e w' => e = .returned (.bool (firstB a b)) ∧ Drawn0 w w' :=
 risk_Least_1.calls (a : Int) (b : Int) _ w hG rfl
def leastUpto (can : Nat → Bool) (pl : List Int) (n : Nat) : Nat → Nat
 | 0 => 2 ^ n - 1
 | f + 1 => if (onesOf f < onesOf (leastUpto can pl n f) ∨ (onesOf f = onesOf (leastUpto can pl n f) ∧ firstB f (leastUpto can pl n f) = true)) ∧ can (leftUpto pl f pl.length) = false then f else leastUpto can pl n f
theorem leastUpto_lt (can : Nat → Bool) (pl : List Int) (n : Nat) : ∀ f, f ≤ 2 ^ n → leastUpto can pl n f < 2 ^ n
 | 0, _ => by show 2 ^ n - 1 < 2 ^ n; have := Nat.two_pow_pos n; omega
 | f + 1, h => by
  show (if _ then f else leastUpto can pl n f) < 2 ^ n
  split
  ·omega
  ·exact leastUpto_lt can pl n f (by omega)
theorem pow_less (n : Nat) (h : n ≤ 24) : wrap64 (wrap64 ((2 : Int) ^ n) - 1) = ((2 ^ n - 1 : Nat) : Int) := by
 have h1 : 2 ^ n ≤ 2 ^ 24 := Nat.pow_le_pow_right (by decide) h
 have h2 := Nat.two_pow_pos n
 rw [pow_wrap n h]
 generalize 2 ^ n = z at h1 h2
 have q2 : z ≤ 16777216 := h1
 clear h1
 unfold wrap64; omega
def risk_Least.f (k : Nat) (a0_0 : Int) (l0_1 : List (List Int)) (a0_2 : Int) (l0_3 : List Int) (l0_4 : List Int) : Option (Int × Int) :=
 (risk_Check.f k a0_0 l0_1 a0_2 l0_3 l0_4).bind fun e => if e = 0 then (if okPeril l0_3 l0_4 = true then (code_Rows.f k a0_0 l0_1 a0_2).bind fun r => if okRows r.1 = true then some (((leastUpto (canOf r.1) l0_3 l0_4.length (2 ^ l0_4.length) : Nat) : Int), 0) else none else none) else some (0, e)
set_option maxHeartbeats 4000000 in
set_option maxRecDepth 100000 in
theorem risk_Least.calls (k : Nat) (a0_0 : Int) (A0_1 : Option Addr) (c0_1 : Nat) (l0_1 : List (List Int)) (a0_2 : Int) (A0_3 : Option Addr) (c0_3 : Nat) (l0_3 : List Int) (A0_4 : Option Addr) (c0_4 : Nat) (l0_4 : List Int) (r1 : Int) (r2 : Int) (w : World) (hG : HG w) (hr0_1 : Kd.C (Kd.slice 3 (Kd.int .i64)) w A0_1 l0_1.length l0_1) (hc0_1 : l0_1.length ≤ c0_1) (hr0_3 : Kd.C (Kd.int .i64) w A0_3 l0_3.length l0_3) (hc0_3 : l0_3.length ≤ c0_3) (hr0_4 : Kd.C (Kd.int .i64) w A0_4 l0_4.length l0_4) (hc0_4 : l0_4.length ≤ c0_4) (h : risk_Least.f k a0_0 l0_1 a0_2 l0_3 l0_4 = some (r1, r2)) :
  Calls Tryd.prog 43 #[.agg #[.int .i64 a0_0, .slice A0_1 l0_1.length c0_1, .int .i64 a0_2, .slice A0_3 l0_3.length c0_3, .slice A0_4 l0_4.length c0_4]] w fun e w' => e = .returned (.tuple #[.int .i64 r1, .int .i64 r2]) ∧ Below w.heap.size w w' := by
 have HK := Aside0.mk (show PerilAt w.heap.size a0_0 A0_1 c0_1 l0_1 a0_2 A0_3 c0_3 l0_3 A0_4 c0_4 l0_4 (w.alloc (.cells #[.int .i64 a0_0, .slice A0_1 l0_1.length c0_1, .int .i64 a0_2, .slice A0_3 l0_3.length c0_3, .slice A0_4 l0_4.length c0_4] 64)) from
  ⟨blk_new _ _, hc0_1, Kd.C_alloc hr0_1 _, hc0_3, Kd.C_alloc hr0_3 _, hc0_4, Kd.C_alloc hr0_4 _, hG.alloc _⟩)
 have HB := Aside0.mk (below_alloc (Below.refl w.heap.size w) (.cells #[.int .i64 a0_0, .slice A0_1 l0_1.length c0_1, .int .i64 a0_2, .slice A0_3 l0_3.length c0_3, .slice A0_4 l0_4.length c0_4] 64))
 have hu64 := Tryd.underlying64
 have hz0 := HK.out.c0
 have hz1 := HK.out.c1
 have hz2 := HK.out.c2
 have hz3 := HK.out.c3
 have hz4 := HK.out.c4
 clear hG hr0_1 hc0_1 hr0_3 hc0_3 hr0_4 hc0_4
 obtain ⟨e, he, h⟩ := Option.bind_eq_some_iff.1 h
 have HE := Aside0.mk he
 clear he
 by_cases e0 : e = 0
 ·subst e0
  rw [if_pos rfl] at h
  by_cases hok : okPeril l0_3 l0_4 = true
  ·rw [if_pos hok] at h
   obtain ⟨o1, o2, o3, o4⟩ := okPeril_iff.1 hok
   have hpw := pow_wrap l0_4.length (by omega)
   have hpl := Nat.pow_le_pow_right (n := 2) (by decide) o2
   obtain ⟨⟨rows, e1⟩, hrows, h⟩ := Option.bind_eq_some_iff.1 h
   dsimp only at h
   by_cases hokr : okRows rows = true
   ·rw [if_pos hokr] at h
    simp only [Option.some.injEq, Prod.mk.injEq] at h
    obtain ⟨h3, rfl⟩ := h
    have H3 := Aside0.mk h3
    have HREC := Aside0.mk (fun y (_ : y < 2 ^ l0_3.length) => rows_rec hrows hokr y)
    have HPX := Aside0.mk (fun x hx => (o3 x hx).2)
    have HCX := Aside0.mk o4
    have HE98 := (enters_of Tryd.func98 (by kernel_rfl) rfl)
    have HO1 := Aside0.mk o1
    have HPW := Aside0.mk hpw
    have HPL := Aside0.mk hpl
    have HPLS := Aside0.mk (pow_less l0_4.length (by omega))
    clear hpw o1 o3 o4 hok h3 hrows hokr hpl
    go_enter Tryd.func43, Tryd.ntmps43
    go_upto_block 0 with (first
     | (go_at_call 50; (with_reducible refine (HK.out.check HE.out).mono ?_); rintro e w1 ⟨rfl, hb⟩; have HKn := Aside0.mk (HK.out.below hb); have HBn := Aside0.mk (below_step HB.out hb); clear HK HB hz0 hz1 hz2 hz3 hz4 hb; have HK := HKn; have HB := HBn; clear HKn HBn; have hz0 := HK.out.c0; have hz1 := HK.out.c1; have hz2 := HK.out.c2; have hz3 := HK.out.c3; have hz4 := HK.out.c4)
     | (go_at_call 77; (with_reducible refine (risk_looser.calls a0_0 A0_1 c0_1 l0_1 a0_2 A0_3 c0_3 l0_3 A0_4 c0_4 l0_4 (canOf rows) _).mono ?_); rintro e w2 ⟨g, bk, bm, rfl, hL⟩; have HL := Aside0.mk hL; clear hL hz0 hz1 hz2 hz3 hz4; have hz4 := (HK.out.below HL.out.bel).c4))
    rw [HPLS.out, HPW.out]
    have hle0 := leastUpto_lt (canOf rows) l0_3 l0_4.length
    have HLE := Aside0.mk hle0
    obtain ⟨T, hT⟩ : ∃ T : Nat, T = 2 ^ l0_4.length := ⟨_, rfl⟩
    have HT := Aside0.mk hT
    have H0 := Aside0.mk (show leastUpto (canOf rows) l0_3 l0_4.length 0 = T - 1 by rw [hT]; rfl)
    rw [← hT]
    have hT12 : T ≤ 4096 := by rw [hT]; exact HPL.out
    clear hT HPL hle0
    go_wp2
    go_loopw [6, 27] (fun y v W => ∃ f : Nat, f ≤ T ∧ v = .int .i64 (f : Int) ∧ y = .int .i64 ((leastUpto (canOf rows) l0_3 l0_4.length f : Nat) : Int) ∧ Aside0 (Looser w1 g bk bm a0_0 A0_1 c0_1 l0_1 a0_2 A0_3 c0_3 l0_3 A0_4 c0_4 l0_4 (canOf rows) f W)) (fun _ v _ => T - (intOf v).toNat)
    case atStart => exact ⟨0, Nat.zero_le _, rfl, by rw [H0.out], HL⟩
    case round =>
     clear hz4 HL
     obtain ⟨wo, rfl⟩ : ∃ wo : World, wo = wr := ⟨_, rfl⟩
     obtain ⟨f, hf, rfl, rfl, HLf⟩ := hrel
     by_cases hlt : f < T
     ·have HLS := Aside0.mk (show leastUpto (canOf rows) l0_3 l0_4.length (f + 1) = if (onesOf f < onesOf (leastUpto (canOf rows) l0_3 l0_4.length f) ∨ (onesOf f = onesOf (leastUpto (canOf rows) l0_3 l0_4.length f) ∧ firstB f (leastUpto (canOf rows) l0_3 l0_4.length f) = true)) ∧ canOf rows (leftUpto l0_3 f l0_3.length) = false then f else leastUpto (canOf rows) l0_3 l0_4.length f from rfl)
      have hblt := HLE.out f (by have := HT.out; omega)
      rw [← HT.out] at hblt
      have HF12 := Aside0.mk (show f < 2 ^ 12 by have : (2 : Nat) ^ 12 = 4096 := rfl; omega)
      have HF6 := Aside0.mk (show f < 1000000 by omega)
      generalize leastUpto (canOf rows) l0_3 l0_4.length f = b at hblt HLS ⊢
      have hu1 : IntKind.u64.wrap (f : Int) = (f : Int) := by rw [IntKind.wrap_u64]; omega
      have hu2 : IntKind.u64.wrap (b : Int) = (b : Int) := by rw [IntKind.wrap_u64]; omega
      go_upto_region 11 with (go_at_call 79; refine (ones_calls _ _ (HK.out.hg.below HLf.out.bel)).mono ?_; rintro e w4 ⟨rfl, hd⟩; have HLn := Aside0.mk (HLf.out.below hd.below); clear HLf hd; have HLf := HLn; clear HLn)
      have HLN := Aside0.mk (HLf.out.mono (Nat.le_succ f))
      generalize hoa : onesOf f = oa at HLS ⊢
      generalize hob : onesOf b = ob at HLS ⊢
      clear hoa hob hu1 hu2
      by_cases hlo : oa < ob
      ·have hd1 : decide (oa < ob) = true := decide_eq_true hlo
       generalize hcy : canOf rows (leftUpto l0_3 f l0_3.length) = cy at HLS
       have HCY := Aside0.mk hcy
       clear hcy
       cases cy with
       | false =>
        have hls := HLS.out
        rw [if_pos ⟨.inl hlo, rfl⟩] at hls
        have HLS2 := Aside0.mk hls
        clear hls hlo
        go_wp2_with (first | ((with_reducible refine (risk_looser_1.calls k _ g bk bm a0_0 A0_1 c0_1 l0_1 a0_2 A0_3 c0_3 l0_3 A0_4 c0_4 l0_4 (canOf rows) f f _ HK.out.hg HK.out.hgr HK.out.hc HK.out.hpl HK.out.hca HO1.out HPX.out HF12.out HREC.out HF6.out HLf.out).mono ?_); rintro e w3 ⟨rfl, hg3, hL3⟩; have HL3 := Aside0.mk hL3; clear hg3 hL3; rw [HCY.out]; go_simp))
        go_roundw
        case rel => exact ⟨f + 1, by omega, by go_num, by rw [HLS2.out], HL3⟩
        case measure => simp [intOf]; omega
       | true =>
        have hls := HLS.out
        rw [if_neg (fun hh => by cases hh.2)] at hls
        have HLS2 := Aside0.mk hls
        clear hls hlo
        go_wp2_with (first | ((with_reducible refine (risk_looser_1.calls k _ g bk bm a0_0 A0_1 c0_1 l0_1 a0_2 A0_3 c0_3 l0_3 A0_4 c0_4 l0_4 (canOf rows) f f _ HK.out.hg HK.out.hgr HK.out.hc HK.out.hpl HK.out.hca HO1.out HPX.out HF12.out HREC.out HF6.out HLf.out).mono ?_); rintro e w3 ⟨rfl, hg3, hL3⟩; have HL3 := Aside0.mk hL3; clear hg3 hL3; rw [HCY.out]; go_simp))
        go_roundw
        case rel => exact ⟨f + 1, by omega, by go_num, by rw [HLS2.out], HL3⟩
        case measure => simp [intOf]; omega
      ·have hd1 : decide (oa < ob) = false := decide_eq_false hlo
       by_cases heq : oa = ob
       ·subst heq
        generalize hfb : firstB f b = fb at HLS
        have HFB := Aside0.mk hfb
        clear hfb
        cases fb with
        | true =>
         generalize hcy : canOf rows (leftUpto l0_3 f l0_3.length) = cy at HLS
         have HCY := Aside0.mk hcy
         clear hcy
         cases cy with
         | false =>
          have hls := HLS.out
          rw [if_pos ⟨.inr ⟨rfl, rfl⟩, rfl⟩] at hls
          have HLS2 := Aside0.mk hls
          clear hls hlo
          go_wp2_with (first | (go_at_call 78; refine (first_calls _ _ _ (HK.out.hg.below HLf.out.bel)).mono ?_; rintro e w5 ⟨rfl, hd⟩; have HLn := Aside0.mk (HLf.out.below hd.below); clear HLf hd HLN; have HLf := HLn; clear HLn; have HLN := Aside0.mk (HLf.out.mono (Nat.le_succ f)); rw [HFB.out]; go_simp) | ((with_reducible refine (risk_looser_1.calls k _ g bk bm a0_0 A0_1 c0_1 l0_1 a0_2 A0_3 c0_3 l0_3 A0_4 c0_4 l0_4 (canOf rows) f f _ HK.out.hg HK.out.hgr HK.out.hc HK.out.hpl HK.out.hca HO1.out HPX.out HF12.out HREC.out HF6.out HLf.out).mono ?_); rintro e w3 ⟨rfl, hg3, hL3⟩; have HL3 := Aside0.mk hL3; clear hg3 hL3; rw [HCY.out]; go_simp))
          go_roundw
          case rel => exact ⟨f + 1, by omega, by go_num, by rw [HLS2.out], HL3⟩
          case measure => simp [intOf]; omega
         | true =>
          have hls := HLS.out
          rw [if_neg (fun hh => by cases hh.2)] at hls
          have HLS2 := Aside0.mk hls
          clear hls hlo
          go_wp2_with (first | (go_at_call 78; refine (first_calls _ _ _ (HK.out.hg.below HLf.out.bel)).mono ?_; rintro e w5 ⟨rfl, hd⟩; have HLn := Aside0.mk (HLf.out.below hd.below); clear HLf hd HLN; have HLf := HLn; clear HLn; have HLN := Aside0.mk (HLf.out.mono (Nat.le_succ f)); rw [HFB.out]; go_simp) | ((with_reducible refine (risk_looser_1.calls k _ g bk bm a0_0 A0_1 c0_1 l0_1 a0_2 A0_3 c0_3 l0_3 A0_4 c0_4 l0_4 (canOf rows) f f _ HK.out.hg HK.out.hgr HK.out.hc HK.out.hpl HK.out.hca HO1.out HPX.out HF12.out HREC.out HF6.out HLf.out).mono ?_); rintro e w3 ⟨rfl, hg3, hL3⟩; have HL3 := Aside0.mk hL3; clear hg3 hL3; rw [HCY.out]; go_simp))
          go_roundw
          case rel => exact ⟨f + 1, by omega, by go_num, by rw [HLS2.out], HL3⟩
          case measure => simp [intOf]; omega
        | false =>
         have hls := HLS.out
         rw [if_neg (fun hh => hh.1.elim (fun h5 => Int.lt_irrefl _ h5) (fun h5 => by cases h5.2))] at hls
         have HLS2 := Aside0.mk hls
         clear hls hlo
         go_wp2_with (first | (go_at_call 78; refine (first_calls _ _ _ (HK.out.hg.below HLf.out.bel)).mono ?_; rintro e w5 ⟨rfl, hd⟩; have HLn := Aside0.mk (HLf.out.below hd.below); clear HLf hd HLN; have HLf := HLn; clear HLn; have HLN := Aside0.mk (HLf.out.mono (Nat.le_succ f)); rw [HFB.out]; go_simp))
         go_roundw
         case rel => exact ⟨f + 1, by omega, by go_num, by rw [HLS2.out], HLN⟩
         case measure => simp [intOf]; omega
       ·have hd2 : (oa == ob) = false := beq_eq_false_iff_ne.2 heq
        have hls := HLS.out
        rw [if_neg (fun hh => hh.1.elim hlo (fun h5 => heq h5.1))] at hls
        have HLS2 := Aside0.mk hls
        clear hls hlo heq
        go_wp2
        go_roundw
        case rel => exact ⟨f + 1, by omega, by go_num, by rw [HLS2.out], HLN⟩
        case measure => simp [intOf]; omega
     ·obtain rfl : f = T := by omega
      rw [HT.out, H3.out]
      go_wp2
      go_ret2
      exact ⟨rfl, below_step HB.out HLf.out.bel⟩
   ·rw [if_neg hokr] at h
    cases h
  ·rw [if_neg hok] at h
   cases h
 ·rw [if_neg e0] at h
  simp only [Option.some.injEq, Prod.mk.injEq] at h
  obtain ⟨rfl, rfl⟩ := h
  have b1 : (e == 0) = false := beq_eq_false_iff_ne.2 e0
  have b2 : (e != 0) = true := bne_iff_ne.2 e0
  clear e0
  go_enter Tryd.func43, Tryd.ntmps43
  go_wp2_with (first
   | (go_at_call 50; (with_reducible refine (HK.out.check HE.out).mono ?_); rintro e w1 ⟨rfl, hb⟩; have HKn := Aside0.mk (HK.out.below hb); have HBn := Aside0.mk (below_step HB.out hb); clear HK HB hz0 hz1 hz2 hz3 hz4 hb; have HK := HKn; have HB := HBn; clear HKn HBn; have hz0 := HK.out.c0; have hz1 := HK.out.c1; have hz2 := HK.out.c2; have hz3 := HK.out.c3; have hz4 := HK.out.c4))
  go_ret2
  exact ⟨rfl, HB.out⟩


/-! ### risk_Total: function 40 -/
def risk_Total.f (k : Nat) (a0_0 : Int) (l0_1 : List (List Int)) (a0_2 : Int) (l0_3 : List Int) (l0_4 : List Int) : Option (Int × Int) := (risk_Check.f k a0_0 l0_1 a0_2 l0_3 l0_4).bind fun t271 => (if t271 = 0 then (if 0 ≤ (wrap64 (4 * (l0_4.length : Int))) then (some (shl .i64 1 (wrap64 (4 * (l0_4.length : Int))), 0)) else (none)) else (some (0, t271)))
set_option maxHeartbeats 8000000 in
set_option maxRecDepth 100000 in
theorem risk_Total.calls (k : Nat) (a0_0 : Int) (A0_1 : Option Addr) (c0_1 : Nat) (l0_1 : List (List Int)) (a0_2 : Int) (A0_3 : Option Addr) (c0_3 : Nat) (l0_3 : List Int) (A0_4 : Option Addr) (c0_4 : Nat) (l0_4 : List Int) (r1 : Int) (r2 : Int) (w : World) (hG : HG w) (hr0_1 : Kd.C (Kd.slice 3 (Kd.int .i64)) w A0_1 l0_1.length l0_1) (hc0_1 : l0_1.length ≤ c0_1) (hr0_3 : Kd.C (Kd.int .i64) w A0_3 l0_3.length l0_3) (hc0_3 : l0_3.length ≤ c0_3) (hr0_4 : Kd.C (Kd.int .i64) w A0_4 l0_4.length l0_4) (hc0_4 : l0_4.length ≤ c0_4) (h : risk_Total.f k a0_0 l0_1 a0_2 l0_3 l0_4 = some (r1, r2)) :
  Calls Tryd.prog 40 #[.agg #[.int .i64 a0_0, .slice A0_1 l0_1.length c0_1, .int .i64 a0_2, .slice A0_3 l0_3.length c0_3, .slice A0_4 l0_4.length c0_4]] w fun e w' => e = .returned (.tuple #[.int .i64 r1, .int .i64 r2]) ∧ Below w.heap.size w w' := by
 have HGw := Aside0.mk hG
 clear hG
 have hu64 := Tryd.underlying64
 have HR0_1 := Aside0.mk hr0_1
 have HC0_1 := Aside0.mk hc0_1
 clear hr0_1 hc0_1
 have HR0_3 := Aside0.mk hr0_3
 have HC0_3 := Aside0.mk hc0_3
 clear hr0_3 hc0_3
 have HR0_4 := Aside0.mk hr0_4
 have HC0_4 := Aside0.mk hc0_4
 clear hr0_4 hc0_4
 have HB := Aside0.mk (Below.refl w.heap.size w)
 have H : ((risk_Check.f k a0_0 l0_1 a0_2 l0_3 l0_4).bind fun t271 => (if t271 = 0 then (if 0 ≤ (wrap64 (4 * (l0_4.length : Int))) then (some (shl .i64 1 (wrap64 (4 * (l0_4.length : Int))), 0)) else (none)) else (some (0, t271)))) = some (r1, r2) := h
 clear h
 replace H := Option.bind_eq_some_iff.mp H
 obtain ⟨t271, A20, H⟩ := H
 replace H : (if t271 = 0 then (if 0 ≤ (wrap64 (4 * (l0_4.length : Int))) then (some (shl .i64 1 (wrap64 (4 * (l0_4.length : Int))), 0)) else (none)) else (some (0, t271))) = some (r1, r2) := H
 have A2 := Aside0.mk A20
 clear A20
 by_cases c3 : t271 = 0
 ·rw [if_pos c3] at H
  have c3b0 : (t271 == 0) = true := beq_iff_eq.mpr c3
  have c3b1 : (t271 != 0) = false := bne_eq_false_iff_eq.mpr c3
  clear c3
  obtain ⟨ji4, hji4⟩ : ∃ j_ : Int, (wrap64 (4 * (l0_4.length : Int))) = j_ := ⟨_, rfl⟩
  replace H : (if 0 ≤ (ji4) then (some (shl .i64 1 (ji4), 0)) else (none)) = some (r1, r2) := by first | (rw [hji4] at H; exact H) | (simp only [hji4] at H ⊢; exact H)
  (try rw [hji4] at A2)
  have hji4w : (IntKind.i64.wrap (4 * (l0_4.length : Int))) = ji4 := (i64_w _).trans hji4
  by_cases c5 : 0 ≤ (ji4)
  ·rw [if_pos c5] at H
   have c5b0 := eq_true c5
   have c5b1 : decide (0 ≤ (ji4)) = true := decide_eq_true c5
   clear c5
   obtain ⟨ji6, hji6⟩ : ∃ j_ : Int, (shl .i64 1 (ji4)) = j_ := ⟨_, rfl⟩
   replace H : (some (ji6, 0)) = some (r1, r2) := by first | (rw [hji6] at H; exact H) | (simp only [hji6] at H ⊢; exact H)
   (try rw [hji6] at A2)
   have hji6_ : (IntKind.i64.wrap (1 * 2 ^ min (ji4).toNat 64)) = ji6 := hji6
   have hji6z : (ji4) ≤ 64 → (IntKind.i64.wrap (1 * 2 ^ (ji4).toNat)) = ji6 := shl_small hji6
   have hji6u : (IntKind.i64.wrap (2 ^ min (ji4).toNat 64)) = ji6 := by have h_ := hji6_; rw [Int.one_mul] at h_; exact h_
   have hji6v : (ji4) ≤ 64 → (IntKind.i64.wrap (2 ^ (ji4).toNat)) = ji6 := fun hle_ => by have h_ := hji6z hle_; rw [Int.one_mul] at h_; exact h_
   have hji6y : (wrap64 (1 * 2 ^ min (ji4).toNat 64)) = ji6 := (i64_w _).symm.trans hji6_
   have hji6x : (ji4) ≤ 64 → (wrap64 (1 * 2 ^ (ji4).toNat)) = ji6 := fun h_ => (i64_w _).symm.trans (hji6z h_)
   simp only [Option.some.injEq, Prod.mk.injEq] at H
   obtain ⟨rfl, rfl⟩ := H
   go_enter Tryd.func40, Tryd.ntmps40
   go_wp2_with (first | ((with_reducible refine gate_dst (N := 1) rfl ?_); refine box_event ?hg (N := 1) ?hd (cs := #[.int .i64 a0_0, .slice A0_1 l0_1.length c0_1, .int .i64 a0_2, .slice A0_3 l0_3.length c0_3, .slice A0_4 l0_4.length c0_4]) (t := 64) ?hr ?_; (case hd => rfl); (case hg => rfl); (case hr => first | (go_simp; done) | (go_simp; rfl)); intro gb270 hg w7 hbox hb; have n0_ := Aside0.mk (below_step (by repeat (first | (with_reducible first | exact HB.out | apply below_alloc | apply pw_below_drewN | apply below_drew1) | exact HB.out)) hb); have n1_ := Aside0.mk (hbox); have n2_ := Aside0.mk ((by rw [hg]; exact (below_size (by repeat (first | (with_reducible first | exact HB.out | apply below_alloc | apply pw_below_drewN | apply below_drew1) | exact HB.out))) : w.heap.size ≤ gb270)); have n3_ := Aside0.mk ((by rw [hg]; exact (below_size (by repeat (first | (with_reducible first | exact HB.out | apply below_alloc | apply pw_below_drewN | apply below_drew1) | exact HB.out))) : w.heap.size ≤ gb270)); clear HB; have HB := n0_; have BK270 := n1_; have GW270 := n2_; have GE270 := n3_; clear n0_ n1_ n2_ n3_; clear hb hbox hg; have hcz8_0 : w7.cell? ⟨gb270, 0, none⟩ = some (.int .i64 a0_0) := (blk_cell BK270.out 0).trans rfl; have hcz8_1 : w7.cell? ⟨gb270, 1, none⟩ = some (.slice A0_1 l0_1.length c0_1) := (blk_cell BK270.out 1).trans rfl; have hcz8_2 : w7.cell? ⟨gb270, 2, none⟩ = some (.int .i64 a0_2) := (blk_cell BK270.out 2).trans rfl; have hcz8_3 : w7.cell? ⟨gb270, 3, none⟩ = some (.slice A0_3 l0_3.length c0_3) := (blk_cell BK270.out 3).trans rfl; have hcz8_4 : w7.cell? ⟨gb270, 4, none⟩ = some (.slice A0_4 l0_4.length c0_4) := (blk_cell BK270.out 4).trans rfl; have hfz8_0 := blk_frozen BK270.out 0; have hfz8_1 := blk_frozen BK270.out 1; have hfz8_2 := blk_frozen BK270.out 2; have hfz8_3 := blk_frozen BK270.out 3; have hfz8_4 := blk_frozen BK270.out 4) | ((with_reducible refine gate_callee (f := 50) rfl ?_); refine goesL_ (some 6) rfl rfl Tryd.func50 (by kernel_rfl) rfl #[.agg #[.int .i64 a0_0, .slice A0_1 l0_1.length c0_1, .int .i64 a0_2, .slice A0_3 l0_3.length c0_3, .slice A0_4 l0_4.length c0_4]] rfl (by (try simp only [List.map_toArray, List.map_cons, List.map_nil]); first | done | rfl | (simp only [List.length_drop, List.length_take]; rfl)) ?_; (with_reducible refine (risk_Check.calls k a0_0 _ _ l0_1 a0_2 _ _ l0_3 _ _ l0_4 t271 _ ?side1 ?side2 ?side3 ?side4 ?side5 ?side6 ?side7 A2.out).mono ?_); (case side1 => exact HG.below HGw.out (by repeat (first | (with_reducible first | exact HB.out | apply below_alloc | apply pw_below_drewN | apply below_drew1 | refine below_set ?_ GE270.out) | exact HB.out))); (case side2 => repeat (first | exact (Kd.C_below HR0_1.out HB.out) | (with_reducible refine Kd.C_alloc ?_ _) | (with_reducible refine Kd.C_drewN ?_ _) | (with_reducible refine Kd.C_drew ?_))); (case side3 => exact HC0_1.out); (case side4 => repeat (first | exact (Kd.C_below HR0_3.out HB.out) | (with_reducible refine Kd.C_alloc ?_ _) | (with_reducible refine Kd.C_drewN ?_ _) | (with_reducible refine Kd.C_drew ?_))); (case side5 => exact HC0_3.out); (case side6 => repeat (first | exact (Kd.C_below HR0_4.out HB.out) | (with_reducible refine Kd.C_alloc ?_ _) | (with_reducible refine Kd.C_drewN ?_ _) | (with_reducible refine Kd.C_drew ?_))); (case side7 => exact HC0_4.out); rintro e w9 ⟨rfl, hb⟩; refine ⟨_, rfl, ?_⟩; have n0_ := Aside0.mk (blk_below (g := gb270) (o := .cells #[.int .i64 a0_0, .slice A0_1 l0_1.length c0_1, .int .i64 a0_2, .slice A0_3 l0_3.length c0_3, .slice A0_4 l0_4.length c0_4] 64 (0, 0)) (by (with_reducible repeat (first | refine blk_drewN ?_ _ | refine blk_drew ?_ | refine blk_alloc ?_ _)); exact BK270.out) hb); have n1_ := Aside0.mk (below_step (by repeat (first | (with_reducible first | exact HB.out | apply below_alloc | apply pw_below_drewN | apply below_drew1 | refine below_set ?_ GE270.out) | exact HB.out)) hb); clear BK270; clear HB; have BK270 := n0_; have HB := n1_; clear n0_ n1_; (try clear hb); (try clear hb2); (try clear hk); (try clear hi); have hcz10_0 : w9.cell? ⟨gb270, 0, none⟩ = some (.int .i64 a0_0) := (blk_cell BK270.out 0).trans rfl; have hcz10_1 : w9.cell? ⟨gb270, 1, none⟩ = some (.slice A0_1 l0_1.length c0_1) := (blk_cell BK270.out 1).trans rfl; have hcz10_2 : w9.cell? ⟨gb270, 2, none⟩ = some (.int .i64 a0_2) := (blk_cell BK270.out 2).trans rfl; have hcz10_3 : w9.cell? ⟨gb270, 3, none⟩ = some (.slice A0_3 l0_3.length c0_3) := (blk_cell BK270.out 3).trans rfl; have hcz10_4 : w9.cell? ⟨gb270, 4, none⟩ = some (.slice A0_4 l0_4.length c0_4) := (blk_cell BK270.out 4).trans rfl; have hfz10_0 := blk_frozen BK270.out 0; have hfz10_1 := blk_frozen BK270.out 1; have hfz10_2 := blk_frozen BK270.out 2; have hfz10_3 := blk_frozen BK270.out 3; have hfz10_4 := blk_frozen BK270.out 4))
   go_ret2
   exact ⟨by first | rfl | (simp [errW_none, errW_some] <;> rfl) | (simp only [← hji4, ← hji6]; first | rfl | (simp [errW_none, errW_some] <;> rfl)) | (simp [*, errW_none, errW_some] <;> rfl), by repeat (first | (with_reducible first | exact HB.out | apply below_alloc | apply pw_below_drewN | apply below_drew1 | refine below_set ?_ GE270.out) | exact HB.out)⟩
  ·rw [if_neg c5] at H
   exact absurd H (by simp)
 ·rw [if_neg c3] at H
  have c3b0 : (t271 == 0) = false := beq_eq_false_iff_ne.mpr c3
  have c3b1 : (t271 != 0) = true := bne_iff_ne.mpr c3
  simp only [Option.some.injEq, Prod.mk.injEq] at H
  obtain ⟨rfl, rfl⟩ := H
  go_enter Tryd.func40, Tryd.ntmps40
  go_wp2_with (first | ((with_reducible refine gate_dst (N := 1) rfl ?_); refine box_event ?hg (N := 1) ?hd (cs := #[.int .i64 a0_0, .slice A0_1 l0_1.length c0_1, .int .i64 a0_2, .slice A0_3 l0_3.length c0_3, .slice A0_4 l0_4.length c0_4]) (t := 64) ?hr ?_; (case hd => rfl); (case hg => rfl); (case hr => first | (go_simp; done) | (go_simp; rfl)); intro gb270 hg w11 hbox hb; have n0_ := Aside0.mk (below_step (by repeat (first | (with_reducible first | exact HB.out | apply below_alloc | apply pw_below_drewN | apply below_drew1) | exact HB.out)) hb); have n1_ := Aside0.mk (hbox); have n2_ := Aside0.mk ((by rw [hg]; exact (below_size (by repeat (first | (with_reducible first | exact HB.out | apply below_alloc | apply pw_below_drewN | apply below_drew1) | exact HB.out))) : w.heap.size ≤ gb270)); have n3_ := Aside0.mk ((by rw [hg]; exact (below_size (by repeat (first | (with_reducible first | exact HB.out | apply below_alloc | apply pw_below_drewN | apply below_drew1) | exact HB.out))) : w.heap.size ≤ gb270)); clear HB; have HB := n0_; have BK270 := n1_; have GW270 := n2_; have GE270 := n3_; clear n0_ n1_ n2_ n3_; clear hb hbox hg; have hcz12_0 : w11.cell? ⟨gb270, 0, none⟩ = some (.int .i64 a0_0) := (blk_cell BK270.out 0).trans rfl; have hcz12_1 : w11.cell? ⟨gb270, 1, none⟩ = some (.slice A0_1 l0_1.length c0_1) := (blk_cell BK270.out 1).trans rfl; have hcz12_2 : w11.cell? ⟨gb270, 2, none⟩ = some (.int .i64 a0_2) := (blk_cell BK270.out 2).trans rfl; have hcz12_3 : w11.cell? ⟨gb270, 3, none⟩ = some (.slice A0_3 l0_3.length c0_3) := (blk_cell BK270.out 3).trans rfl; have hcz12_4 : w11.cell? ⟨gb270, 4, none⟩ = some (.slice A0_4 l0_4.length c0_4) := (blk_cell BK270.out 4).trans rfl; have hfz12_0 := blk_frozen BK270.out 0; have hfz12_1 := blk_frozen BK270.out 1; have hfz12_2 := blk_frozen BK270.out 2; have hfz12_3 := blk_frozen BK270.out 3; have hfz12_4 := blk_frozen BK270.out 4) | ((with_reducible refine gate_callee (f := 50) rfl ?_); refine goesL_ (some 6) rfl rfl Tryd.func50 (by kernel_rfl) rfl #[.agg #[.int .i64 a0_0, .slice A0_1 l0_1.length c0_1, .int .i64 a0_2, .slice A0_3 l0_3.length c0_3, .slice A0_4 l0_4.length c0_4]] rfl (by (try simp only [List.map_toArray, List.map_cons, List.map_nil]); first | done | rfl | (simp only [List.length_drop, List.length_take]; rfl)) ?_; (with_reducible refine (risk_Check.calls k a0_0 _ _ l0_1 a0_2 _ _ l0_3 _ _ l0_4 t271 _ ?side1 ?side2 ?side3 ?side4 ?side5 ?side6 ?side7 A2.out).mono ?_); (case side1 => exact HG.below HGw.out (by repeat (first | (with_reducible first | exact HB.out | apply below_alloc | apply pw_below_drewN | apply below_drew1 | refine below_set ?_ GE270.out) | exact HB.out))); (case side2 => repeat (first | exact (Kd.C_below HR0_1.out HB.out) | (with_reducible refine Kd.C_alloc ?_ _) | (with_reducible refine Kd.C_drewN ?_ _) | (with_reducible refine Kd.C_drew ?_))); (case side3 => exact HC0_1.out); (case side4 => repeat (first | exact (Kd.C_below HR0_3.out HB.out) | (with_reducible refine Kd.C_alloc ?_ _) | (with_reducible refine Kd.C_drewN ?_ _) | (with_reducible refine Kd.C_drew ?_))); (case side5 => exact HC0_3.out); (case side6 => repeat (first | exact (Kd.C_below HR0_4.out HB.out) | (with_reducible refine Kd.C_alloc ?_ _) | (with_reducible refine Kd.C_drewN ?_ _) | (with_reducible refine Kd.C_drew ?_))); (case side7 => exact HC0_4.out); rintro e w13 ⟨rfl, hb⟩; refine ⟨_, rfl, ?_⟩; have n0_ := Aside0.mk (blk_below (g := gb270) (o := .cells #[.int .i64 a0_0, .slice A0_1 l0_1.length c0_1, .int .i64 a0_2, .slice A0_3 l0_3.length c0_3, .slice A0_4 l0_4.length c0_4] 64 (0, 0)) (by (with_reducible repeat (first | refine blk_drewN ?_ _ | refine blk_drew ?_ | refine blk_alloc ?_ _)); exact BK270.out) hb); have n1_ := Aside0.mk (below_step (by repeat (first | (with_reducible first | exact HB.out | apply below_alloc | apply pw_below_drewN | apply below_drew1 | refine below_set ?_ GE270.out) | exact HB.out)) hb); clear BK270; clear HB; have BK270 := n0_; have HB := n1_; clear n0_ n1_; (try clear hb); (try clear hb2); (try clear hk); (try clear hi)))
  go_ret2
  exact ⟨by first | rfl | (simp [errW_none, errW_some] <;> rfl) | (simp [*, errW_none, errW_some] <;> rfl), by repeat (first | (with_reducible first | exact HB.out | apply below_alloc | apply pw_below_drewN | apply below_drew1 | refine below_set ?_ GE270.out) | exact HB.out)⟩


/-! ### risk_Compare: function 44 -/
def risk_Compare.j0 : Nat → Int → Int → Option (Int × Int)
 | 0, _, _ => none
 | k + 1, x6, x8 => if x6 < x8 then (some ((-1), 0)) else (if x6 > x8 then (some (1, 0)) else (some (0, 0)))
def risk_Compare.f (k : Nat) (a0_0 : Int) (l0_1 : List (List Int)) (a0_2 : Int) (l0_3 : List Int) (l0_4 : List Int) (a1_0 : Int) (l1_1 : List (List Int)) (a1_2 : Int) (l1_3 : List Int) (l1_4 : List Int) : Option (Int × Int) := (risk_Loss.f k a0_0 l0_1 a0_2 l0_3 l0_4).bind fun bt274 => (if bt274.2 = 0 then ((risk_Loss.f k a1_0 l1_1 a1_2 l1_3 l1_4).bind fun bt276 => (if bt276.2 = 0 then (if (wrap64 ((l0_4.length : Int) - (l1_4.length : Int))) < 0 then (if 0 ≤ (wrap64 ((-4) * (wrap64 ((l0_4.length : Int) - (l1_4.length : Int))))) then (risk_Compare.j0 k (shl .i64 bt274.1 (wrap64 ((-4) * (wrap64 ((l0_4.length : Int) - (l1_4.length : Int)))))) bt276.1) else (none)) else (if 0 ≤ (wrap64 (4 * (wrap64 ((l0_4.length : Int) - (l1_4.length : Int))))) then (risk_Compare.j0 k bt274.1 (shl .i64 bt276.1 (wrap64 (4 * (wrap64 ((l0_4.length : Int) - (l1_4.length : Int))))))) else (none))) else (some (0, bt276.2)))) else (some (0, bt274.2)))
set_option maxHeartbeats 8000000 in
set_option maxRecDepth 100000 in
theorem risk_Compare.calls (k : Nat) (a0_0 : Int) (A0_1 : Option Addr) (c0_1 : Nat) (l0_1 : List (List Int)) (a0_2 : Int) (A0_3 : Option Addr) (c0_3 : Nat) (l0_3 : List Int) (A0_4 : Option Addr) (c0_4 : Nat) (l0_4 : List Int) (a1_0 : Int) (A1_1 : Option Addr) (c1_1 : Nat) (l1_1 : List (List Int)) (a1_2 : Int) (A1_3 : Option Addr) (c1_3 : Nat) (l1_3 : List Int) (A1_4 : Option Addr) (c1_4 : Nat) (l1_4 : List Int) (r1 : Int) (r2 : Int) (w : World) (hG : HG w) (hr0_1 : Kd.C (Kd.slice 3 (Kd.int .i64)) w A0_1 l0_1.length l0_1) (hc0_1 : l0_1.length ≤ c0_1) (hr0_3 : Kd.C (Kd.int .i64) w A0_3 l0_3.length l0_3) (hc0_3 : l0_3.length ≤ c0_3) (hr0_4 : Kd.C (Kd.int .i64) w A0_4 l0_4.length l0_4) (hc0_4 : l0_4.length ≤ c0_4) (hr1_1 : Kd.C (Kd.slice 3 (Kd.int .i64)) w A1_1 l1_1.length l1_1) (hc1_1 : l1_1.length ≤ c1_1) (hr1_3 : Kd.C (Kd.int .i64) w A1_3 l1_3.length l1_3) (hc1_3 : l1_3.length ≤ c1_3) (hr1_4 : Kd.C (Kd.int .i64) w A1_4 l1_4.length l1_4) (hc1_4 : l1_4.length ≤ c1_4) (h : risk_Compare.f k a0_0 l0_1 a0_2 l0_3 l0_4 a1_0 l1_1 a1_2 l1_3 l1_4 = some (r1, r2)) :
  Calls Tryd.prog 44 #[.agg #[.int .i64 a0_0, .slice A0_1 l0_1.length c0_1, .int .i64 a0_2, .slice A0_3 l0_3.length c0_3, .slice A0_4 l0_4.length c0_4], .agg #[.int .i64 a1_0, .slice A1_1 l1_1.length c1_1, .int .i64 a1_2, .slice A1_3 l1_3.length c1_3, .slice A1_4 l1_4.length c1_4]] w fun e w' => e = .returned (.tuple #[.int .i64 r1, .int .i64 r2]) ∧ Below w.heap.size w w' := by
 have HGw := Aside0.mk hG
 clear hG
 have hu64 := Tryd.underlying64
 have HR0_1 := Aside0.mk hr0_1
 have HC0_1 := Aside0.mk hc0_1
 clear hr0_1 hc0_1
 have HR0_3 := Aside0.mk hr0_3
 have HC0_3 := Aside0.mk hc0_3
 clear hr0_3 hc0_3
 have HR0_4 := Aside0.mk hr0_4
 have HC0_4 := Aside0.mk hc0_4
 clear hr0_4 hc0_4
 have HR1_1 := Aside0.mk hr1_1
 have HC1_1 := Aside0.mk hc1_1
 clear hr1_1 hc1_1
 have HR1_3 := Aside0.mk hr1_3
 have HC1_3 := Aside0.mk hc1_3
 clear hr1_3 hc1_3
 have HR1_4 := Aside0.mk hr1_4
 have HC1_4 := Aside0.mk hc1_4
 clear hr1_4 hc1_4
 have HB := Aside0.mk (Below.refl w.heap.size w)
 have H : ((risk_Loss.f k a0_0 l0_1 a0_2 l0_3 l0_4).bind fun bt274 => (if bt274.2 = 0 then ((risk_Loss.f k a1_0 l1_1 a1_2 l1_3 l1_4).bind fun bt276 => (if bt276.2 = 0 then (if (wrap64 ((l0_4.length : Int) - (l1_4.length : Int))) < 0 then (if 0 ≤ (wrap64 ((-4) * (wrap64 ((l0_4.length : Int) - (l1_4.length : Int))))) then (risk_Compare.j0 k (shl .i64 bt274.1 (wrap64 ((-4) * (wrap64 ((l0_4.length : Int) - (l1_4.length : Int)))))) bt276.1) else (none)) else (if 0 ≤ (wrap64 (4 * (wrap64 ((l0_4.length : Int) - (l1_4.length : Int))))) then (risk_Compare.j0 k bt274.1 (shl .i64 bt276.1 (wrap64 (4 * (wrap64 ((l0_4.length : Int) - (l1_4.length : Int))))))) else (none))) else (some (0, bt276.2)))) else (some (0, bt274.2)))) = some (r1, r2) := h
 clear h
 replace H := Option.bind_eq_some_iff.mp H
 obtain ⟨⟨t274, t275⟩, A30, H⟩ := H
 replace H : (if t275 = 0 then ((risk_Loss.f k a1_0 l1_1 a1_2 l1_3 l1_4).bind fun bt276 => (if bt276.2 = 0 then (if (wrap64 ((l0_4.length : Int) - (l1_4.length : Int))) < 0 then (if 0 ≤ (wrap64 ((-4) * (wrap64 ((l0_4.length : Int) - (l1_4.length : Int))))) then (risk_Compare.j0 k (shl .i64 t274 (wrap64 ((-4) * (wrap64 ((l0_4.length : Int) - (l1_4.length : Int)))))) bt276.1) else (none)) else (if 0 ≤ (wrap64 (4 * (wrap64 ((l0_4.length : Int) - (l1_4.length : Int))))) then (risk_Compare.j0 k t274 (shl .i64 bt276.1 (wrap64 (4 * (wrap64 ((l0_4.length : Int) - (l1_4.length : Int))))))) else (none))) else (some (0, bt276.2)))) else (some (0, t275))) = some (r1, r2) := H
 have A3 := Aside0.mk A30
 clear A30
 by_cases c4 : t275 = 0
 ·rw [if_pos c4] at H
  have c4b0 : (t275 == 0) = true := beq_iff_eq.mpr c4
  have c4b1 : (t275 != 0) = false := bne_eq_false_iff_eq.mpr c4
  clear c4
  replace H := Option.bind_eq_some_iff.mp H
  obtain ⟨⟨t276, t277⟩, A50, H⟩ := H
  replace H : (if t277 = 0 then (if (wrap64 ((l0_4.length : Int) - (l1_4.length : Int))) < 0 then (if 0 ≤ (wrap64 ((-4) * (wrap64 ((l0_4.length : Int) - (l1_4.length : Int))))) then (risk_Compare.j0 k (shl .i64 t274 (wrap64 ((-4) * (wrap64 ((l0_4.length : Int) - (l1_4.length : Int)))))) t276) else (none)) else (if 0 ≤ (wrap64 (4 * (wrap64 ((l0_4.length : Int) - (l1_4.length : Int))))) then (risk_Compare.j0 k t274 (shl .i64 t276 (wrap64 (4 * (wrap64 ((l0_4.length : Int) - (l1_4.length : Int))))))) else (none))) else (some (0, t277))) = some (r1, r2) := H
  have A5 := Aside0.mk A50
  clear A50
  by_cases c6 : t277 = 0
  ·rw [if_pos c6] at H
   have c6b0 : (t277 == 0) = true := beq_iff_eq.mpr c6
   have c6b1 : (t277 != 0) = false := bne_eq_false_iff_eq.mpr c6
   clear c6
   have HC7 := Aside0.mk H
   clear H
   go_enter Tryd.func44, Tryd.ntmps44
   go_upto_if 34 with (first | ((with_reducible refine gate_dst (N := 2) rfl ?_); refine box_event ?hg (N := 2) ?hd (cs := #[.int .i64 a0_0, .slice A0_1 l0_1.length c0_1, .int .i64 a0_2, .slice A0_3 l0_3.length c0_3, .slice A0_4 l0_4.length c0_4]) (t := 64) ?hr ?_; (case hd => rfl); (case hg => rfl); (case hr => first | (go_simp; done) | (go_simp; rfl)); intro gb272 hg w8 hbox hb; have n0_ := Aside0.mk (below_step (by repeat (first | (with_reducible first | exact HB.out | apply below_alloc | apply pw_below_drewN | apply below_drew1) | exact HB.out)) hb); have n1_ := Aside0.mk (hbox); have n2_ := Aside0.mk ((by rw [hg]; exact (below_size (by repeat (first | (with_reducible first | exact HB.out | apply below_alloc | apply pw_below_drewN | apply below_drew1) | exact HB.out))) : w.heap.size ≤ gb272)); have n3_ := Aside0.mk ((by rw [hg]; exact (below_size (by repeat (first | (with_reducible first | exact HB.out | apply below_alloc | apply pw_below_drewN | apply below_drew1) | exact HB.out))) : w.heap.size ≤ gb272)); clear HB; have HB := n0_; have BK272 := n1_; have GW272 := n2_; have GE272 := n3_; clear n0_ n1_ n2_ n3_; clear hb hbox hg) | ((with_reducible refine gate_dst (N := 3) rfl ?_); refine box_event ?hg (N := 3) ?hd (cs := #[.int .i64 a1_0, .slice A1_1 l1_1.length c1_1, .int .i64 a1_2, .slice A1_3 l1_3.length c1_3, .slice A1_4 l1_4.length c1_4]) (t := 64) ?hr ?_; (case hd => rfl); (case hg => rfl); (case hr => first | (go_simp; done) | (go_simp; rfl)); intro gb273 hg w9 hbox hb; have n0_ := Aside0.mk (blk_below (g := gb272) (o := .cells #[.int .i64 a0_0, .slice A0_1 l0_1.length c0_1, .int .i64 a0_2, .slice A0_3 l0_3.length c0_3, .slice A0_4 l0_4.length c0_4] 64 (0, 0)) (by (with_reducible repeat (first | refine blk_drewN ?_ _ | refine blk_drew ?_ | refine blk_alloc ?_ _)); exact BK272.out) hb); have n1_ := Aside0.mk (below_step (by repeat (first | (with_reducible first | exact HB.out | apply below_alloc | apply pw_below_drewN | apply below_drew1 | refine below_set ?_ GE272.out) | exact HB.out)) hb); have n2_ := Aside0.mk (hbox); have n3_ := Aside0.mk ((by rw [hg]; exact (below_size (by repeat (first | (with_reducible first | exact HB.out | apply below_alloc | apply pw_below_drewN | apply below_drew1 | refine below_set ?_ GE272.out) | exact HB.out))) : w.heap.size ≤ gb273)); have n4_ := Aside0.mk ((by rw [hg]; exact (below_size (by repeat (first | (with_reducible first | exact HB.out | apply below_alloc | apply pw_below_drewN | apply below_drew1 | refine below_set ?_ GE272.out) | exact HB.out))) : w.heap.size ≤ gb273)); have n5_ := Aside0.mk ((by rw [hg]; exact Nat.ne_of_lt (blk_lt (g := gb272) (o := .cells #[.int .i64 a0_0, .slice A0_1 l0_1.length c0_1, .int .i64 a0_2, .slice A0_3 l0_3.length c0_3, .slice A0_4 l0_4.length c0_4] 64 (0, 0)) (by (with_reducible repeat (first | refine blk_drewN ?_ _ | refine blk_drew ?_ | refine blk_alloc ?_ _)); exact BK272.out)) : gb272 ≠ gb273)); have n6_ := Aside0.mk ((by rw [hg]; exact Nat.ne_of_gt (blk_lt (g := gb272) (o := .cells #[.int .i64 a0_0, .slice A0_1 l0_1.length c0_1, .int .i64 a0_2, .slice A0_3 l0_3.length c0_3, .slice A0_4 l0_4.length c0_4] 64 (0, 0)) (by (with_reducible repeat (first | refine blk_drewN ?_ _ | refine blk_drew ?_ | refine blk_alloc ?_ _)); exact BK272.out)) : gb273 ≠ gb272)); clear BK272; clear HB; have BK272 := n0_; have HB := n1_; have BK273 := n2_; have GW273 := n3_; have GE273 := n4_; have NB272_273 := n5_; have NB273_272 := n6_; clear n0_ n1_ n2_ n3_ n4_ n5_ n6_; clear hb hbox hg; have hnb10 := NB272_273.out; have hnc10 := NB273_272.out; have hcz11_0 : w9.cell? ⟨gb272, 0, none⟩ = some (.int .i64 a0_0) := (blk_cell BK272.out 0).trans rfl; have hcz11_1 : w9.cell? ⟨gb272, 1, none⟩ = some (.slice A0_1 l0_1.length c0_1) := (blk_cell BK272.out 1).trans rfl; have hcz11_2 : w9.cell? ⟨gb272, 2, none⟩ = some (.int .i64 a0_2) := (blk_cell BK272.out 2).trans rfl; have hcz11_3 : w9.cell? ⟨gb272, 3, none⟩ = some (.slice A0_3 l0_3.length c0_3) := (blk_cell BK272.out 3).trans rfl; have hcz11_4 : w9.cell? ⟨gb272, 4, none⟩ = some (.slice A0_4 l0_4.length c0_4) := (blk_cell BK272.out 4).trans rfl; have hfz11_0 := blk_frozen BK272.out 0; have hfz11_1 := blk_frozen BK272.out 1; have hfz11_2 := blk_frozen BK272.out 2; have hfz11_3 := blk_frozen BK272.out 3; have hfz11_4 := blk_frozen BK272.out 4) | ((with_reducible refine gate_callee (f := 42) rfl ?_); refine goesL_ (some 12) rfl rfl Tryd.func42 (by kernel_rfl) rfl #[.agg #[.int .i64 a0_0, .slice A0_1 l0_1.length c0_1, .int .i64 a0_2, .slice A0_3 l0_3.length c0_3, .slice A0_4 l0_4.length c0_4]] rfl (by (try simp only [List.map_toArray, List.map_cons, List.map_nil]); first | done | rfl | (simp only [List.length_drop, List.length_take]; rfl)) ?_; (with_reducible refine (risk_Loss.calls k a0_0 _ _ l0_1 a0_2 _ _ l0_3 _ _ l0_4 t274 t275 _ ?side1 ?side2 ?side3 ?side4 ?side5 ?side6 ?side7 A3.out).mono ?_); (case side1 => exact HG.below HGw.out (by repeat (first | (with_reducible first | exact HB.out | apply below_alloc | apply pw_below_drewN | apply below_drew1 | refine below_set ?_ GE272.out | refine below_set ?_ GE273.out) | exact HB.out))); (case side2 => repeat (first | exact (Kd.C_below HR0_1.out HB.out) | (with_reducible refine Kd.C_alloc ?_ _) | (with_reducible refine Kd.C_drewN ?_ _) | (with_reducible refine Kd.C_drew ?_))); (case side3 => exact HC0_1.out); (case side4 => repeat (first | exact (Kd.C_below HR0_3.out HB.out) | (with_reducible refine Kd.C_alloc ?_ _) | (with_reducible refine Kd.C_drewN ?_ _) | (with_reducible refine Kd.C_drew ?_))); (case side5 => exact HC0_3.out); (case side6 => repeat (first | exact (Kd.C_below HR0_4.out HB.out) | (with_reducible refine Kd.C_alloc ?_ _) | (with_reducible refine Kd.C_drewN ?_ _) | (with_reducible refine Kd.C_drew ?_))); (case side7 => exact HC0_4.out); rintro e w12 ⟨rfl, hb⟩; refine ⟨_, rfl, ?_⟩; have n0_ := Aside0.mk (blk_below (g := gb272) (o := .cells #[.int .i64 a0_0, .slice A0_1 l0_1.length c0_1, .int .i64 a0_2, .slice A0_3 l0_3.length c0_3, .slice A0_4 l0_4.length c0_4] 64 (0, 0)) (by (with_reducible repeat (first | refine blk_drewN ?_ _ | refine blk_drew ?_ | refine blk_alloc ?_ _)); exact BK272.out) hb); have n1_ := Aside0.mk (blk_below (g := gb273) (o := .cells #[.int .i64 a1_0, .slice A1_1 l1_1.length c1_1, .int .i64 a1_2, .slice A1_3 l1_3.length c1_3, .slice A1_4 l1_4.length c1_4] 64 (0, 0)) (by (with_reducible repeat (first | refine blk_drewN ?_ _ | refine blk_drew ?_ | refine blk_alloc ?_ _)); exact BK273.out) hb); have n2_ := Aside0.mk (below_step (by repeat (first | (with_reducible first | exact HB.out | apply below_alloc | apply pw_below_drewN | apply below_drew1 | refine below_set ?_ GE272.out | refine below_set ?_ GE273.out) | exact HB.out)) hb); clear BK272; clear BK273; clear HB; have BK272 := n0_; have BK273 := n1_; have HB := n2_; clear n0_ n1_ n2_; (try clear hb); (try clear hb2); (try clear hk); (try clear hi); have hcz13_0 : w12.cell? ⟨gb273, 0, none⟩ = some (.int .i64 a1_0) := (blk_cell BK273.out 0).trans rfl; have hcz13_1 : w12.cell? ⟨gb273, 1, none⟩ = some (.slice A1_1 l1_1.length c1_1) := (blk_cell BK273.out 1).trans rfl; have hcz13_2 : w12.cell? ⟨gb273, 2, none⟩ = some (.int .i64 a1_2) := (blk_cell BK273.out 2).trans rfl; have hcz13_3 : w12.cell? ⟨gb273, 3, none⟩ = some (.slice A1_3 l1_3.length c1_3) := (blk_cell BK273.out 3).trans rfl; have hcz13_4 : w12.cell? ⟨gb273, 4, none⟩ = some (.slice A1_4 l1_4.length c1_4) := (blk_cell BK273.out 4).trans rfl; have hfz13_0 := blk_frozen BK273.out 0; have hfz13_1 := blk_frozen BK273.out 1; have hfz13_2 := blk_frozen BK273.out 2; have hfz13_3 := blk_frozen BK273.out 3; have hfz13_4 := blk_frozen BK273.out 4) | ((with_reducible refine gate_callee (f := 42) rfl ?_); refine goesL_ (some 20) rfl rfl Tryd.func42 (by kernel_rfl) rfl #[.agg #[.int .i64 a1_0, .slice A1_1 l1_1.length c1_1, .int .i64 a1_2, .slice A1_3 l1_3.length c1_3, .slice A1_4 l1_4.length c1_4]] rfl (by (try simp only [List.map_toArray, List.map_cons, List.map_nil]); first | done | rfl | (simp only [List.length_drop, List.length_take]; rfl)) ?_; (with_reducible refine (risk_Loss.calls k a1_0 _ _ l1_1 a1_2 _ _ l1_3 _ _ l1_4 t276 t277 _ ?side1 ?side2 ?side3 ?side4 ?side5 ?side6 ?side7 A5.out).mono ?_); (case side1 => exact HG.below HGw.out (by repeat (first | (with_reducible first | exact HB.out | apply below_alloc | apply pw_below_drewN | apply below_drew1 | refine below_set ?_ GE272.out | refine below_set ?_ GE273.out) | exact HB.out))); (case side2 => repeat (first | exact (Kd.C_below HR1_1.out HB.out) | (with_reducible refine Kd.C_alloc ?_ _) | (with_reducible refine Kd.C_drewN ?_ _) | (with_reducible refine Kd.C_drew ?_))); (case side3 => exact HC1_1.out); (case side4 => repeat (first | exact (Kd.C_below HR1_3.out HB.out) | (with_reducible refine Kd.C_alloc ?_ _) | (with_reducible refine Kd.C_drewN ?_ _) | (with_reducible refine Kd.C_drew ?_))); (case side5 => exact HC1_3.out); (case side6 => repeat (first | exact (Kd.C_below HR1_4.out HB.out) | (with_reducible refine Kd.C_alloc ?_ _) | (with_reducible refine Kd.C_drewN ?_ _) | (with_reducible refine Kd.C_drew ?_))); (case side7 => exact HC1_4.out); rintro e w14 ⟨rfl, hb⟩; refine ⟨_, rfl, ?_⟩; have n0_ := Aside0.mk (blk_below (g := gb272) (o := .cells #[.int .i64 a0_0, .slice A0_1 l0_1.length c0_1, .int .i64 a0_2, .slice A0_3 l0_3.length c0_3, .slice A0_4 l0_4.length c0_4] 64 (0, 0)) (by (with_reducible repeat (first | refine blk_drewN ?_ _ | refine blk_drew ?_ | refine blk_alloc ?_ _)); exact BK272.out) hb); have n1_ := Aside0.mk (blk_below (g := gb273) (o := .cells #[.int .i64 a1_0, .slice A1_1 l1_1.length c1_1, .int .i64 a1_2, .slice A1_3 l1_3.length c1_3, .slice A1_4 l1_4.length c1_4] 64 (0, 0)) (by (with_reducible repeat (first | refine blk_drewN ?_ _ | refine blk_drew ?_ | refine blk_alloc ?_ _)); exact BK273.out) hb); have n2_ := Aside0.mk (below_step (by repeat (first | (with_reducible first | exact HB.out | apply below_alloc | apply pw_below_drewN | apply below_drew1 | refine below_set ?_ GE272.out | refine below_set ?_ GE273.out) | exact HB.out)) hb); clear BK272; clear BK273; clear HB; have BK272 := n0_; have BK273 := n1_; have HB := n2_; clear n0_ n1_ n2_; (try clear hb); (try clear hb2); (try clear hk); (try clear hi); have hcz15_0 : w14.cell? ⟨gb272, 0, none⟩ = some (.int .i64 a0_0) := (blk_cell BK272.out 0).trans rfl; have hcz15_1 : w14.cell? ⟨gb272, 1, none⟩ = some (.slice A0_1 l0_1.length c0_1) := (blk_cell BK272.out 1).trans rfl; have hcz15_2 : w14.cell? ⟨gb272, 2, none⟩ = some (.int .i64 a0_2) := (blk_cell BK272.out 2).trans rfl; have hcz15_3 : w14.cell? ⟨gb272, 3, none⟩ = some (.slice A0_3 l0_3.length c0_3) := (blk_cell BK272.out 3).trans rfl; have hcz15_4 : w14.cell? ⟨gb272, 4, none⟩ = some (.slice A0_4 l0_4.length c0_4) := (blk_cell BK272.out 4).trans rfl; have hfz15_0 := blk_frozen BK272.out 0; have hfz15_1 := blk_frozen BK272.out 1; have hfz15_2 := blk_frozen BK272.out 2; have hfz15_3 := blk_frozen BK272.out 3; have hfz15_4 := blk_frozen BK272.out 4; have hcz16_0 : w14.cell? ⟨gb273, 0, none⟩ = some (.int .i64 a1_0) := (blk_cell BK273.out 0).trans rfl; have hcz16_1 : w14.cell? ⟨gb273, 1, none⟩ = some (.slice A1_1 l1_1.length c1_1) := (blk_cell BK273.out 1).trans rfl; have hcz16_2 : w14.cell? ⟨gb273, 2, none⟩ = some (.int .i64 a1_2) := (blk_cell BK273.out 2).trans rfl; have hcz16_3 : w14.cell? ⟨gb273, 3, none⟩ = some (.slice A1_3 l1_3.length c1_3) := (blk_cell BK273.out 3).trans rfl; have hcz16_4 : w14.cell? ⟨gb273, 4, none⟩ = some (.slice A1_4 l1_4.length c1_4) := (blk_cell BK273.out 4).trans rfl; have hfz16_0 := blk_frozen BK273.out 0; have hfz16_1 := blk_frozen BK273.out 1; have hfz16_2 := blk_frozen BK273.out 2; have hfz16_3 := blk_frozen BK273.out 3; have hfz16_4 := blk_frozen BK273.out 4))
   (try simp only [Act.put, List.setIfInBounds_toArray, List.set_cons_zero, List.set_cons_succ])
   go_cut [6, 8] (fun v6 v8 wc => ∃ (kq : Nat) (x6_6 : Int) (x8_6 : Int), v6 = .int .i64 x6_6 ∧ v8 = .int .i64 x8_6 ∧ Aside0 (risk_Compare.j0 kq x6_6 x8_6 = some (r1, r2)) ∧ Aside0 (kq ≤ k) ∧ Aside0 (wc.heap[gb272]? = some (.cells #[.int .i64 a0_0, (.slice A0_1 l0_1.length c0_1), .int .i64 a0_2, (.slice A0_3 l0_3.length c0_3), (.slice A0_4 l0_4.length c0_4)] 64 (0, 0))) ∧ Aside0 (wc.heap[gb273]? = some (.cells #[.int .i64 a1_0, (.slice A1_1 l1_1.length c1_1), .int .i64 a1_2, (.slice A1_3 l1_3.length c1_3), (.slice A1_4 l1_4.length c1_4)] 64 (0, 0))) ∧ Aside0 (Below w.heap.size w wc))
   case first =>
    have H := HC7.out
    clear HC7
    by_cases c17 : (wrap64 ((l0_4.length : Int) - (l1_4.length : Int))) < 0
    ·rw [if_pos c17] at H
     have c17b0 : decide ((wrap64 ((l0_4.length : Int) - (l1_4.length : Int))) < 0) = true := decide_eq_true c17
     clear c17
     (first | rw [c17b0] | (simp only [i64_w, i32_w]; rw [c17b0]) | skip)
     obtain ⟨ji18, hji18⟩ : ∃ j_ : Int, (wrap64 ((-4) * (wrap64 ((l0_4.length : Int) - (l1_4.length : Int))))) = j_ := ⟨_, rfl⟩
     replace H : (if 0 ≤ (ji18) then (risk_Compare.j0 k (shl .i64 t274 (ji18)) t276) else (none)) = some (r1, r2) := by first | (rw [hji18] at H; exact H) | (simp only [hji18] at H ⊢; exact H)
     have hji18w : (IntKind.i64.wrap ((-4) * (wrap64 ((l0_4.length : Int) - (l1_4.length : Int))))) = ji18 := (i64_w _).trans hji18
     by_cases c19 : 0 ≤ (ji18)
     ·rw [if_pos c19] at H
      have c19b0 := eq_true c19
      have c19b1 : decide (0 ≤ (ji18)) = true := decide_eq_true c19
      clear c19
      obtain ⟨ji20, hji20⟩ : ∃ j_ : Int, (shl .i64 t274 (ji18)) = j_ := ⟨_, rfl⟩
      replace H : (risk_Compare.j0 k ji20 t276) = some (r1, r2) := by first | (rw [hji20] at H; exact H) | (simp only [hji20] at H ⊢; exact H)
      have hji20_ : (IntKind.i64.wrap (t274 * 2 ^ min (ji18).toNat 64)) = ji20 := hji20
      have hji20z : (ji18) ≤ 64 → (IntKind.i64.wrap (t274 * 2 ^ (ji18).toNat)) = ji20 := shl_small hji20
      have hji20y : (wrap64 (t274 * 2 ^ min (ji18).toNat 64)) = ji20 := (i64_w _).symm.trans hji20_
      have hji20x : (ji18) ≤ 64 → (wrap64 (t274 * 2 ^ (ji18).toNat)) = ji20 := fun h_ => (i64_w _).symm.trans (hji20z h_)
      have H' := Aside0.mk H
      clear H
      go_wp2
      go_meet
      case rel => exact ⟨_, (ji20), (t276), (by first | rfl | (simp; done) | (simp only [← hji20] <;> (first | rfl | simp)) | (simp [*]; done)), (by first | rfl | (simp; done) | (simp [*]; done)), H', ⟨by first | omega | exact Nat.le_refl _⟩, ⟨by (with_reducible repeat (first | refine blk_drewN ?_ _ | refine blk_drew ?_ | refine blk_alloc ?_ _)); exact BK272.out⟩, ⟨by (with_reducible repeat (first | refine blk_drewN ?_ _ | refine blk_drew ?_ | refine blk_alloc ?_ _)); exact BK273.out⟩, ⟨by repeat (first | (with_reducible first | exact HB.out | apply below_alloc | apply pw_below_drewN | apply below_drew1 | refine below_set ?_ GE272.out | refine below_set ?_ GE273.out) | exact HB.out)⟩⟩
     ·rw [if_neg c19] at H
      exact absurd H (by simp)
    ·rw [if_neg c17] at H
     have c17b0 : decide ((wrap64 ((l0_4.length : Int) - (l1_4.length : Int))) < 0) = false := decide_eq_false c17
     clear c17
     (first | rw [c17b0] | (simp only [i64_w, i32_w]; rw [c17b0]) | skip)
     obtain ⟨ji21, hji21⟩ : ∃ j_ : Int, (wrap64 (4 * (wrap64 ((l0_4.length : Int) - (l1_4.length : Int))))) = j_ := ⟨_, rfl⟩
     replace H : (if 0 ≤ (ji21) then (risk_Compare.j0 k t274 (shl .i64 t276 (ji21))) else (none)) = some (r1, r2) := by first | (rw [hji21] at H; exact H) | (simp only [hji21] at H ⊢; exact H)
     have hji21w : (IntKind.i64.wrap (4 * (wrap64 ((l0_4.length : Int) - (l1_4.length : Int))))) = ji21 := (i64_w _).trans hji21
     by_cases c22 : 0 ≤ (ji21)
     ·rw [if_pos c22] at H
      have c22b0 := eq_true c22
      have c22b1 : decide (0 ≤ (ji21)) = true := decide_eq_true c22
      clear c22
      obtain ⟨ji23, hji23⟩ : ∃ j_ : Int, (shl .i64 t276 (ji21)) = j_ := ⟨_, rfl⟩
      replace H : (risk_Compare.j0 k t274 ji23) = some (r1, r2) := by first | (rw [hji23] at H; exact H) | (simp only [hji23] at H ⊢; exact H)
      have hji23_ : (IntKind.i64.wrap (t276 * 2 ^ min (ji21).toNat 64)) = ji23 := hji23
      have hji23z : (ji21) ≤ 64 → (IntKind.i64.wrap (t276 * 2 ^ (ji21).toNat)) = ji23 := shl_small hji23
      have hji23y : (wrap64 (t276 * 2 ^ min (ji21).toNat 64)) = ji23 := (i64_w _).symm.trans hji23_
      have hji23x : (ji21) ≤ 64 → (wrap64 (t276 * 2 ^ (ji21).toNat)) = ji23 := fun h_ => (i64_w _).symm.trans (hji23z h_)
      have H' := Aside0.mk H
      clear H
      go_wp2
      go_meet
      case rel => exact ⟨_, (t274), (ji23), (by first | rfl | (simp; done) | (simp [*]; done)), (by first | rfl | (simp; done) | (simp only [← hji23] <;> (first | rfl | simp)) | (simp [*]; done)), H', ⟨by first | omega | exact Nat.le_refl _⟩, ⟨by (with_reducible repeat (first | refine blk_drewN ?_ _ | refine blk_drew ?_ | refine blk_alloc ?_ _)); exact BK272.out⟩, ⟨by (with_reducible repeat (first | refine blk_drewN ?_ _ | refine blk_drew ?_ | refine blk_alloc ?_ _)); exact BK273.out⟩, ⟨by repeat (first | (with_reducible first | exact HB.out | apply below_alloc | apply pw_below_drewN | apply below_drew1 | refine below_set ?_ GE272.out | refine below_set ?_ GE273.out) | exact HB.out)⟩⟩
     ·rw [if_neg c22] at H
      exact absurd H (by simp)
   case rest =>
    clear HC7
    try clear c1
    try clear c2
    try clear p2
    try clear c4
    try clear c4b0
    try clear c4b1
    try clear c6
    try clear c6b0
    try clear c6b1
    try clear p6
    try clear c10
    try clear c17
    try clear c17b0
    try clear c19
    try clear c19b0
    try clear c19b1
    try clear c22
    try clear c22b0
    try clear c22b1
    try clear hcz11_0
    try clear hcz11_1
    try clear hcz11_2
    try clear hcz11_3
    try clear hcz11_4
    try clear hcz13_0
    try clear hcz13_1
    try clear hcz13_2
    try clear hcz13_3
    try clear hcz13_4
    try clear hcz15_0
    try clear hcz15_1
    try clear hcz15_2
    try clear hcz15_3
    try clear hcz15_4
    try clear hcz16_0
    try clear hcz16_1
    try clear hcz16_2
    try clear hcz16_3
    try clear hcz16_4
    try clear hfz11_0
    try clear hfz11_1
    try clear hfz11_2
    try clear hfz11_3
    try clear hfz11_4
    try clear hfz13_0
    try clear hfz13_1
    try clear hfz13_2
    try clear hfz13_3
    try clear hfz13_4
    try clear hfz15_0
    try clear hfz15_1
    try clear hfz15_2
    try clear hfz15_3
    try clear hfz15_4
    try clear hfz16_0
    try clear hfz16_1
    try clear hfz16_2
    try clear hfz16_3
    try clear hfz16_4
    obtain ⟨kq, x6_6, x8_6, rfl, rfl, HA, HJ6, BK272, BK273, HB⟩ := hcut
    cases kq with
    | zero => exact absurd HA.out (by simp [risk_Compare.j0])
    | succ kj6 =>
     have H := HA.out
     clear HA
     simp only [risk_Compare.j0] at H
     by_cases c24 : x6_6 < x8_6
     ·rw [if_pos c24] at H
      have c24b0 : decide (x6_6 < x8_6) = true := decide_eq_true c24
      clear c24
      simp only [Option.some.injEq, Prod.mk.injEq] at H
      obtain ⟨rfl, rfl⟩ := H
      go_wp2
      go_ret2
      exact ⟨by first | rfl | (simp [errW_none, errW_some] <;> rfl) | (simp [*, errW_none, errW_some] <;> rfl), by repeat (first | (with_reducible first | exact HB.out | apply below_alloc | apply pw_below_drewN | apply below_drew1 | refine below_set ?_ GE272.out | refine below_set ?_ GE273.out) | exact HB.out)⟩
     ·rw [if_neg c24] at H
      have c24b0 : decide (x6_6 < x8_6) = false := decide_eq_false c24
      clear c24
      by_cases c25 : x6_6 > x8_6
      ·rw [if_pos c25] at H
       have c25b0 : decide (x8_6 < x6_6) = true := decide_eq_true c25
       clear c25
       simp only [Option.some.injEq, Prod.mk.injEq] at H
       obtain ⟨rfl, rfl⟩ := H
       go_wp2
       go_ret2
       exact ⟨by first | rfl | (simp [errW_none, errW_some] <;> rfl) | (simp [*, errW_none, errW_some] <;> rfl), by repeat (first | (with_reducible first | exact HB.out | apply below_alloc | apply pw_below_drewN | apply below_drew1 | refine below_set ?_ GE272.out | refine below_set ?_ GE273.out) | exact HB.out)⟩
      ·rw [if_neg c25] at H
       have c25b0 : decide (x8_6 < x6_6) = false := decide_eq_false c25
       clear c25
       simp only [Option.some.injEq, Prod.mk.injEq] at H
       obtain ⟨rfl, rfl⟩ := H
       go_wp2
       go_ret2
       exact ⟨by first | rfl | (simp [errW_none, errW_some] <;> rfl) | (simp [*, errW_none, errW_some] <;> rfl), by repeat (first | (with_reducible first | exact HB.out | apply below_alloc | apply pw_below_drewN | apply below_drew1 | refine below_set ?_ GE272.out | refine below_set ?_ GE273.out) | exact HB.out)⟩
  ·rw [if_neg c6] at H
   have c6b0 : (t277 == 0) = false := beq_eq_false_iff_ne.mpr c6
   have c6b1 : (t277 != 0) = true := bne_iff_ne.mpr c6
   simp only [Option.some.injEq, Prod.mk.injEq] at H
   obtain ⟨rfl, rfl⟩ := H
   go_enter Tryd.func44, Tryd.ntmps44
   go_wp2_with (first | ((with_reducible refine gate_dst (N := 2) rfl ?_); refine box_event ?hg (N := 2) ?hd (cs := #[.int .i64 a0_0, .slice A0_1 l0_1.length c0_1, .int .i64 a0_2, .slice A0_3 l0_3.length c0_3, .slice A0_4 l0_4.length c0_4]) (t := 64) ?hr ?_; (case hd => rfl); (case hg => rfl); (case hr => first | (go_simp; done) | (go_simp; rfl)); intro gb272 hg w26 hbox hb; have n0_ := Aside0.mk (below_step (by repeat (first | (with_reducible first | exact HB.out | apply below_alloc | apply pw_below_drewN | apply below_drew1) | exact HB.out)) hb); have n1_ := Aside0.mk (hbox); have n2_ := Aside0.mk ((by rw [hg]; exact (below_size (by repeat (first | (with_reducible first | exact HB.out | apply below_alloc | apply pw_below_drewN | apply below_drew1) | exact HB.out))) : w.heap.size ≤ gb272)); have n3_ := Aside0.mk ((by rw [hg]; exact (below_size (by repeat (first | (with_reducible first | exact HB.out | apply below_alloc | apply pw_below_drewN | apply below_drew1) | exact HB.out))) : w.heap.size ≤ gb272)); clear HB; have HB := n0_; have BK272 := n1_; have GW272 := n2_; have GE272 := n3_; clear n0_ n1_ n2_ n3_; clear hb hbox hg) | ((with_reducible refine gate_dst (N := 3) rfl ?_); refine box_event ?hg (N := 3) ?hd (cs := #[.int .i64 a1_0, .slice A1_1 l1_1.length c1_1, .int .i64 a1_2, .slice A1_3 l1_3.length c1_3, .slice A1_4 l1_4.length c1_4]) (t := 64) ?hr ?_; (case hd => rfl); (case hg => rfl); (case hr => first | (go_simp; done) | (go_simp; rfl)); intro gb273 hg w27 hbox hb; have n0_ := Aside0.mk (blk_below (g := gb272) (o := .cells #[.int .i64 a0_0, .slice A0_1 l0_1.length c0_1, .int .i64 a0_2, .slice A0_3 l0_3.length c0_3, .slice A0_4 l0_4.length c0_4] 64 (0, 0)) (by (with_reducible repeat (first | refine blk_drewN ?_ _ | refine blk_drew ?_ | refine blk_alloc ?_ _)); exact BK272.out) hb); have n1_ := Aside0.mk (below_step (by repeat (first | (with_reducible first | exact HB.out | apply below_alloc | apply pw_below_drewN | apply below_drew1 | refine below_set ?_ GE272.out) | exact HB.out)) hb); have n2_ := Aside0.mk (hbox); have n3_ := Aside0.mk ((by rw [hg]; exact (below_size (by repeat (first | (with_reducible first | exact HB.out | apply below_alloc | apply pw_below_drewN | apply below_drew1 | refine below_set ?_ GE272.out) | exact HB.out))) : w.heap.size ≤ gb273)); have n4_ := Aside0.mk ((by rw [hg]; exact (below_size (by repeat (first | (with_reducible first | exact HB.out | apply below_alloc | apply pw_below_drewN | apply below_drew1 | refine below_set ?_ GE272.out) | exact HB.out))) : w.heap.size ≤ gb273)); have n5_ := Aside0.mk ((by rw [hg]; exact Nat.ne_of_lt (blk_lt (g := gb272) (o := .cells #[.int .i64 a0_0, .slice A0_1 l0_1.length c0_1, .int .i64 a0_2, .slice A0_3 l0_3.length c0_3, .slice A0_4 l0_4.length c0_4] 64 (0, 0)) (by (with_reducible repeat (first | refine blk_drewN ?_ _ | refine blk_drew ?_ | refine blk_alloc ?_ _)); exact BK272.out)) : gb272 ≠ gb273)); have n6_ := Aside0.mk ((by rw [hg]; exact Nat.ne_of_gt (blk_lt (g := gb272) (o := .cells #[.int .i64 a0_0, .slice A0_1 l0_1.length c0_1, .int .i64 a0_2, .slice A0_3 l0_3.length c0_3, .slice A0_4 l0_4.length c0_4] 64 (0, 0)) (by (with_reducible repeat (first | refine blk_drewN ?_ _ | refine blk_drew ?_ | refine blk_alloc ?_ _)); exact BK272.out)) : gb273 ≠ gb272)); clear BK272; clear HB; have BK272 := n0_; have HB := n1_; have BK273 := n2_; have GW273 := n3_; have GE273 := n4_; have NB272_273 := n5_; have NB273_272 := n6_; clear n0_ n1_ n2_ n3_ n4_ n5_ n6_; clear hb hbox hg; have hnb28 := NB272_273.out; have hnc28 := NB273_272.out; have hcz29_0 : w27.cell? ⟨gb272, 0, none⟩ = some (.int .i64 a0_0) := (blk_cell BK272.out 0).trans rfl; have hcz29_1 : w27.cell? ⟨gb272, 1, none⟩ = some (.slice A0_1 l0_1.length c0_1) := (blk_cell BK272.out 1).trans rfl; have hcz29_2 : w27.cell? ⟨gb272, 2, none⟩ = some (.int .i64 a0_2) := (blk_cell BK272.out 2).trans rfl; have hcz29_3 : w27.cell? ⟨gb272, 3, none⟩ = some (.slice A0_3 l0_3.length c0_3) := (blk_cell BK272.out 3).trans rfl; have hcz29_4 : w27.cell? ⟨gb272, 4, none⟩ = some (.slice A0_4 l0_4.length c0_4) := (blk_cell BK272.out 4).trans rfl; have hfz29_0 := blk_frozen BK272.out 0; have hfz29_1 := blk_frozen BK272.out 1; have hfz29_2 := blk_frozen BK272.out 2; have hfz29_3 := blk_frozen BK272.out 3; have hfz29_4 := blk_frozen BK272.out 4) | ((with_reducible refine gate_callee (f := 42) rfl ?_); refine goesL_ (some 12) rfl rfl Tryd.func42 (by kernel_rfl) rfl #[.agg #[.int .i64 a0_0, .slice A0_1 l0_1.length c0_1, .int .i64 a0_2, .slice A0_3 l0_3.length c0_3, .slice A0_4 l0_4.length c0_4]] rfl (by (try simp only [List.map_toArray, List.map_cons, List.map_nil]); first | done | rfl | (simp only [List.length_drop, List.length_take]; rfl)) ?_; (with_reducible refine (risk_Loss.calls k a0_0 _ _ l0_1 a0_2 _ _ l0_3 _ _ l0_4 t274 t275 _ ?side1 ?side2 ?side3 ?side4 ?side5 ?side6 ?side7 A3.out).mono ?_); (case side1 => exact HG.below HGw.out (by repeat (first | (with_reducible first | exact HB.out | apply below_alloc | apply pw_below_drewN | apply below_drew1 | refine below_set ?_ GE272.out | refine below_set ?_ GE273.out) | exact HB.out))); (case side2 => repeat (first | exact (Kd.C_below HR0_1.out HB.out) | (with_reducible refine Kd.C_alloc ?_ _) | (with_reducible refine Kd.C_drewN ?_ _) | (with_reducible refine Kd.C_drew ?_))); (case side3 => exact HC0_1.out); (case side4 => repeat (first | exact (Kd.C_below HR0_3.out HB.out) | (with_reducible refine Kd.C_alloc ?_ _) | (with_reducible refine Kd.C_drewN ?_ _) | (with_reducible refine Kd.C_drew ?_))); (case side5 => exact HC0_3.out); (case side6 => repeat (first | exact (Kd.C_below HR0_4.out HB.out) | (with_reducible refine Kd.C_alloc ?_ _) | (with_reducible refine Kd.C_drewN ?_ _) | (with_reducible refine Kd.C_drew ?_))); (case side7 => exact HC0_4.out); rintro e w30 ⟨rfl, hb⟩; refine ⟨_, rfl, ?_⟩; have n0_ := Aside0.mk (blk_below (g := gb272) (o := .cells #[.int .i64 a0_0, .slice A0_1 l0_1.length c0_1, .int .i64 a0_2, .slice A0_3 l0_3.length c0_3, .slice A0_4 l0_4.length c0_4] 64 (0, 0)) (by (with_reducible repeat (first | refine blk_drewN ?_ _ | refine blk_drew ?_ | refine blk_alloc ?_ _)); exact BK272.out) hb); have n1_ := Aside0.mk (blk_below (g := gb273) (o := .cells #[.int .i64 a1_0, .slice A1_1 l1_1.length c1_1, .int .i64 a1_2, .slice A1_3 l1_3.length c1_3, .slice A1_4 l1_4.length c1_4] 64 (0, 0)) (by (with_reducible repeat (first | refine blk_drewN ?_ _ | refine blk_drew ?_ | refine blk_alloc ?_ _)); exact BK273.out) hb); have n2_ := Aside0.mk (below_step (by repeat (first | (with_reducible first | exact HB.out | apply below_alloc | apply pw_below_drewN | apply below_drew1 | refine below_set ?_ GE272.out | refine below_set ?_ GE273.out) | exact HB.out)) hb); clear BK272; clear BK273; clear HB; have BK272 := n0_; have BK273 := n1_; have HB := n2_; clear n0_ n1_ n2_; (try clear hb); (try clear hb2); (try clear hk); (try clear hi); have hcz31_0 : w30.cell? ⟨gb273, 0, none⟩ = some (.int .i64 a1_0) := (blk_cell BK273.out 0).trans rfl; have hcz31_1 : w30.cell? ⟨gb273, 1, none⟩ = some (.slice A1_1 l1_1.length c1_1) := (blk_cell BK273.out 1).trans rfl; have hcz31_2 : w30.cell? ⟨gb273, 2, none⟩ = some (.int .i64 a1_2) := (blk_cell BK273.out 2).trans rfl; have hcz31_3 : w30.cell? ⟨gb273, 3, none⟩ = some (.slice A1_3 l1_3.length c1_3) := (blk_cell BK273.out 3).trans rfl; have hcz31_4 : w30.cell? ⟨gb273, 4, none⟩ = some (.slice A1_4 l1_4.length c1_4) := (blk_cell BK273.out 4).trans rfl; have hfz31_0 := blk_frozen BK273.out 0; have hfz31_1 := blk_frozen BK273.out 1; have hfz31_2 := blk_frozen BK273.out 2; have hfz31_3 := blk_frozen BK273.out 3; have hfz31_4 := blk_frozen BK273.out 4) | ((with_reducible refine gate_callee (f := 42) rfl ?_); refine goesL_ (some 20) rfl rfl Tryd.func42 (by kernel_rfl) rfl #[.agg #[.int .i64 a1_0, .slice A1_1 l1_1.length c1_1, .int .i64 a1_2, .slice A1_3 l1_3.length c1_3, .slice A1_4 l1_4.length c1_4]] rfl (by (try simp only [List.map_toArray, List.map_cons, List.map_nil]); first | done | rfl | (simp only [List.length_drop, List.length_take]; rfl)) ?_; (with_reducible refine (risk_Loss.calls k a1_0 _ _ l1_1 a1_2 _ _ l1_3 _ _ l1_4 t276 t277 _ ?side1 ?side2 ?side3 ?side4 ?side5 ?side6 ?side7 A5.out).mono ?_); (case side1 => exact HG.below HGw.out (by repeat (first | (with_reducible first | exact HB.out | apply below_alloc | apply pw_below_drewN | apply below_drew1 | refine below_set ?_ GE272.out | refine below_set ?_ GE273.out) | exact HB.out))); (case side2 => repeat (first | exact (Kd.C_below HR1_1.out HB.out) | (with_reducible refine Kd.C_alloc ?_ _) | (with_reducible refine Kd.C_drewN ?_ _) | (with_reducible refine Kd.C_drew ?_))); (case side3 => exact HC1_1.out); (case side4 => repeat (first | exact (Kd.C_below HR1_3.out HB.out) | (with_reducible refine Kd.C_alloc ?_ _) | (with_reducible refine Kd.C_drewN ?_ _) | (with_reducible refine Kd.C_drew ?_))); (case side5 => exact HC1_3.out); (case side6 => repeat (first | exact (Kd.C_below HR1_4.out HB.out) | (with_reducible refine Kd.C_alloc ?_ _) | (with_reducible refine Kd.C_drewN ?_ _) | (with_reducible refine Kd.C_drew ?_))); (case side7 => exact HC1_4.out); rintro e w32 ⟨rfl, hb⟩; refine ⟨_, rfl, ?_⟩; have n0_ := Aside0.mk (blk_below (g := gb272) (o := .cells #[.int .i64 a0_0, .slice A0_1 l0_1.length c0_1, .int .i64 a0_2, .slice A0_3 l0_3.length c0_3, .slice A0_4 l0_4.length c0_4] 64 (0, 0)) (by (with_reducible repeat (first | refine blk_drewN ?_ _ | refine blk_drew ?_ | refine blk_alloc ?_ _)); exact BK272.out) hb); have n1_ := Aside0.mk (blk_below (g := gb273) (o := .cells #[.int .i64 a1_0, .slice A1_1 l1_1.length c1_1, .int .i64 a1_2, .slice A1_3 l1_3.length c1_3, .slice A1_4 l1_4.length c1_4] 64 (0, 0)) (by (with_reducible repeat (first | refine blk_drewN ?_ _ | refine blk_drew ?_ | refine blk_alloc ?_ _)); exact BK273.out) hb); have n2_ := Aside0.mk (below_step (by repeat (first | (with_reducible first | exact HB.out | apply below_alloc | apply pw_below_drewN | apply below_drew1 | refine below_set ?_ GE272.out | refine below_set ?_ GE273.out) | exact HB.out)) hb); clear BK272; clear BK273; clear HB; have BK272 := n0_; have BK273 := n1_; have HB := n2_; clear n0_ n1_ n2_; (try clear hb); (try clear hb2); (try clear hk); (try clear hi)))
   go_ret2
   exact ⟨by first | rfl | (simp [errW_none, errW_some] <;> rfl) | (simp [*, errW_none, errW_some] <;> rfl), by repeat (first | (with_reducible first | exact HB.out | apply below_alloc | apply pw_below_drewN | apply below_drew1 | refine below_set ?_ GE272.out | refine below_set ?_ GE273.out) | exact HB.out)⟩
 ·rw [if_neg c4] at H
  have c4b0 : (t275 == 0) = false := beq_eq_false_iff_ne.mpr c4
  have c4b1 : (t275 != 0) = true := bne_iff_ne.mpr c4
  simp only [Option.some.injEq, Prod.mk.injEq] at H
  obtain ⟨rfl, rfl⟩ := H
  go_enter Tryd.func44, Tryd.ntmps44
  go_wp2_with (first | ((with_reducible refine gate_dst (N := 2) rfl ?_); refine box_event ?hg (N := 2) ?hd (cs := #[.int .i64 a0_0, .slice A0_1 l0_1.length c0_1, .int .i64 a0_2, .slice A0_3 l0_3.length c0_3, .slice A0_4 l0_4.length c0_4]) (t := 64) ?hr ?_; (case hd => rfl); (case hg => rfl); (case hr => first | (go_simp; done) | (go_simp; rfl)); intro gb272 hg w33 hbox hb; have n0_ := Aside0.mk (below_step (by repeat (first | (with_reducible first | exact HB.out | apply below_alloc | apply pw_below_drewN | apply below_drew1) | exact HB.out)) hb); have n1_ := Aside0.mk (hbox); have n2_ := Aside0.mk ((by rw [hg]; exact (below_size (by repeat (first | (with_reducible first | exact HB.out | apply below_alloc | apply pw_below_drewN | apply below_drew1) | exact HB.out))) : w.heap.size ≤ gb272)); have n3_ := Aside0.mk ((by rw [hg]; exact (below_size (by repeat (first | (with_reducible first | exact HB.out | apply below_alloc | apply pw_below_drewN | apply below_drew1) | exact HB.out))) : w.heap.size ≤ gb272)); clear HB; have HB := n0_; have BK272 := n1_; have GW272 := n2_; have GE272 := n3_; clear n0_ n1_ n2_ n3_; clear hb hbox hg) | ((with_reducible refine gate_dst (N := 3) rfl ?_); refine box_event ?hg (N := 3) ?hd (cs := #[.int .i64 a1_0, .slice A1_1 l1_1.length c1_1, .int .i64 a1_2, .slice A1_3 l1_3.length c1_3, .slice A1_4 l1_4.length c1_4]) (t := 64) ?hr ?_; (case hd => rfl); (case hg => rfl); (case hr => first | (go_simp; done) | (go_simp; rfl)); intro gb273 hg w34 hbox hb; have n0_ := Aside0.mk (blk_below (g := gb272) (o := .cells #[.int .i64 a0_0, .slice A0_1 l0_1.length c0_1, .int .i64 a0_2, .slice A0_3 l0_3.length c0_3, .slice A0_4 l0_4.length c0_4] 64 (0, 0)) (by (with_reducible repeat (first | refine blk_drewN ?_ _ | refine blk_drew ?_ | refine blk_alloc ?_ _)); exact BK272.out) hb); have n1_ := Aside0.mk (below_step (by repeat (first | (with_reducible first | exact HB.out | apply below_alloc | apply pw_below_drewN | apply below_drew1 | refine below_set ?_ GE272.out) | exact HB.out)) hb); have n2_ := Aside0.mk (hbox); have n3_ := Aside0.mk ((by rw [hg]; exact (below_size (by repeat (first | (with_reducible first | exact HB.out | apply below_alloc | apply pw_below_drewN | apply below_drew1 | refine below_set ?_ GE272.out) | exact HB.out))) : w.heap.size ≤ gb273)); have n4_ := Aside0.mk ((by rw [hg]; exact (below_size (by repeat (first | (with_reducible first | exact HB.out | apply below_alloc | apply pw_below_drewN | apply below_drew1 | refine below_set ?_ GE272.out) | exact HB.out))) : w.heap.size ≤ gb273)); have n5_ := Aside0.mk ((by rw [hg]; exact Nat.ne_of_lt (blk_lt (g := gb272) (o := .cells #[.int .i64 a0_0, .slice A0_1 l0_1.length c0_1, .int .i64 a0_2, .slice A0_3 l0_3.length c0_3, .slice A0_4 l0_4.length c0_4] 64 (0, 0)) (by (with_reducible repeat (first | refine blk_drewN ?_ _ | refine blk_drew ?_ | refine blk_alloc ?_ _)); exact BK272.out)) : gb272 ≠ gb273)); have n6_ := Aside0.mk ((by rw [hg]; exact Nat.ne_of_gt (blk_lt (g := gb272) (o := .cells #[.int .i64 a0_0, .slice A0_1 l0_1.length c0_1, .int .i64 a0_2, .slice A0_3 l0_3.length c0_3, .slice A0_4 l0_4.length c0_4] 64 (0, 0)) (by (with_reducible repeat (first | refine blk_drewN ?_ _ | refine blk_drew ?_ | refine blk_alloc ?_ _)); exact BK272.out)) : gb273 ≠ gb272)); clear BK272; clear HB; have BK272 := n0_; have HB := n1_; have BK273 := n2_; have GW273 := n3_; have GE273 := n4_; have NB272_273 := n5_; have NB273_272 := n6_; clear n0_ n1_ n2_ n3_ n4_ n5_ n6_; clear hb hbox hg; have hnb35 := NB272_273.out; have hnc35 := NB273_272.out; have hcz36_0 : w34.cell? ⟨gb272, 0, none⟩ = some (.int .i64 a0_0) := (blk_cell BK272.out 0).trans rfl; have hcz36_1 : w34.cell? ⟨gb272, 1, none⟩ = some (.slice A0_1 l0_1.length c0_1) := (blk_cell BK272.out 1).trans rfl; have hcz36_2 : w34.cell? ⟨gb272, 2, none⟩ = some (.int .i64 a0_2) := (blk_cell BK272.out 2).trans rfl; have hcz36_3 : w34.cell? ⟨gb272, 3, none⟩ = some (.slice A0_3 l0_3.length c0_3) := (blk_cell BK272.out 3).trans rfl; have hcz36_4 : w34.cell? ⟨gb272, 4, none⟩ = some (.slice A0_4 l0_4.length c0_4) := (blk_cell BK272.out 4).trans rfl; have hfz36_0 := blk_frozen BK272.out 0; have hfz36_1 := blk_frozen BK272.out 1; have hfz36_2 := blk_frozen BK272.out 2; have hfz36_3 := blk_frozen BK272.out 3; have hfz36_4 := blk_frozen BK272.out 4) | ((with_reducible refine gate_callee (f := 42) rfl ?_); refine goesL_ (some 12) rfl rfl Tryd.func42 (by kernel_rfl) rfl #[.agg #[.int .i64 a0_0, .slice A0_1 l0_1.length c0_1, .int .i64 a0_2, .slice A0_3 l0_3.length c0_3, .slice A0_4 l0_4.length c0_4]] rfl (by (try simp only [List.map_toArray, List.map_cons, List.map_nil]); first | done | rfl | (simp only [List.length_drop, List.length_take]; rfl)) ?_; (with_reducible refine (risk_Loss.calls k a0_0 _ _ l0_1 a0_2 _ _ l0_3 _ _ l0_4 t274 t275 _ ?side1 ?side2 ?side3 ?side4 ?side5 ?side6 ?side7 A3.out).mono ?_); (case side1 => exact HG.below HGw.out (by repeat (first | (with_reducible first | exact HB.out | apply below_alloc | apply pw_below_drewN | apply below_drew1 | refine below_set ?_ GE272.out | refine below_set ?_ GE273.out) | exact HB.out))); (case side2 => repeat (first | exact (Kd.C_below HR0_1.out HB.out) | (with_reducible refine Kd.C_alloc ?_ _) | (with_reducible refine Kd.C_drewN ?_ _) | (with_reducible refine Kd.C_drew ?_))); (case side3 => exact HC0_1.out); (case side4 => repeat (first | exact (Kd.C_below HR0_3.out HB.out) | (with_reducible refine Kd.C_alloc ?_ _) | (with_reducible refine Kd.C_drewN ?_ _) | (with_reducible refine Kd.C_drew ?_))); (case side5 => exact HC0_3.out); (case side6 => repeat (first | exact (Kd.C_below HR0_4.out HB.out) | (with_reducible refine Kd.C_alloc ?_ _) | (with_reducible refine Kd.C_drewN ?_ _) | (with_reducible refine Kd.C_drew ?_))); (case side7 => exact HC0_4.out); rintro e w37 ⟨rfl, hb⟩; refine ⟨_, rfl, ?_⟩; have n0_ := Aside0.mk (blk_below (g := gb272) (o := .cells #[.int .i64 a0_0, .slice A0_1 l0_1.length c0_1, .int .i64 a0_2, .slice A0_3 l0_3.length c0_3, .slice A0_4 l0_4.length c0_4] 64 (0, 0)) (by (with_reducible repeat (first | refine blk_drewN ?_ _ | refine blk_drew ?_ | refine blk_alloc ?_ _)); exact BK272.out) hb); have n1_ := Aside0.mk (blk_below (g := gb273) (o := .cells #[.int .i64 a1_0, .slice A1_1 l1_1.length c1_1, .int .i64 a1_2, .slice A1_3 l1_3.length c1_3, .slice A1_4 l1_4.length c1_4] 64 (0, 0)) (by (with_reducible repeat (first | refine blk_drewN ?_ _ | refine blk_drew ?_ | refine blk_alloc ?_ _)); exact BK273.out) hb); have n2_ := Aside0.mk (below_step (by repeat (first | (with_reducible first | exact HB.out | apply below_alloc | apply pw_below_drewN | apply below_drew1 | refine below_set ?_ GE272.out | refine below_set ?_ GE273.out) | exact HB.out)) hb); clear BK272; clear BK273; clear HB; have BK272 := n0_; have BK273 := n1_; have HB := n2_; clear n0_ n1_ n2_; (try clear hb); (try clear hb2); (try clear hk); (try clear hi)))
  go_ret2
  exact ⟨by first | rfl | (simp [errW_none, errW_some] <;> rfl) | (simp [*, errW_none, errW_some] <;> rfl), by repeat (first | (with_reducible first | exact HB.out | apply below_alloc | apply pw_below_drewN | apply below_drew1 | refine below_set ?_ GE272.out | refine below_set ?_ GE273.out) | exact HB.out)⟩
end Go.Proofs.YtkadfidmfnpohaaDoor.XB
