/- The walk of FlagsGrants: true at every argument. The table of the lowest bits as the program lays it. -/
import Derived.Test.YtbgiciijiopklaaDoorKnown
namespace Go.Proofs.YtbgiciijiopklaaDoor
open Go.RowKit Go.Shelf
theorem rGrant_same (o t a : Nat) (ho : o < 4294967296) (ht : t < 4294967296) (ha : a < 4294967296) (w : World) : Calls Tryd.prog 28 #[.int .u32 (o : Int), .int .u32 (t : Int), .int .u32 (a : Int)] w (GrantPost o t a w) := by
  refine (rGrant_any o t a ho ht ha w).mono fun e w' h => ?_
  unfold GRefPost at h
  unfold GrantPost
  rw [grant_ref o t a ho ht]
  exact h
set_option maxHeartbeats 1600000 in
theorem lawGrants_any (o t a : Nat) (w : World) (hT : TabAt 0 Lib.deBruijn32tab w) (ho : o < 4294967296) (ht : t < 4294967296) (ha : a < 4294967296) : Calls Tryd.prog 7 #[.int .u32 (o : Int), .int .u32 (t : Int), .int .u32 (a : Int)] w fun e w' => e = .returned (.bool true) ∧ Ext w w' := by
  have HT := Lib.hid hT
  clear hT
  go_enter Tryd.func7, Tryd.ntmps7
  go_wp2_with (first | (go_at_call 27; (with_reducible refine (grant_any o t a ho ht ha _).mono ?_); rintro e w1 ⟨rfl, hx1⟩) | (go_at_call 28; (with_reducible refine (rGrant_same o t a ho ht ha _).mono ?_); rintro e w2 ⟨rfl, hx2⟩) | (go_at_call 16; (with_reducible refine (known_any _ (TabAt.ext HT.out (by repeat (first | exact Ext.refl _ | assumption | refine Ext.drew ?_ | refine Ext.alloc ?_ _ | refine Ext.setCell ?_ (by first | exact Nat.le_refl _ | (simp; done) | (simp; omega)) _ | refine Ext.trans ?_ (by assumption))))).mono ?_); rintro e w9 ⟨rfl, hx9⟩))
  go_ret
  exact ⟨by simp, (by repeat (first | exact Ext.refl _ | assumption | refine Ext.drew ?_ | refine Ext.alloc ?_ _ | refine Ext.setCell ?_ (by first | exact Nat.le_refl _ | (simp; done) | (simp; omega)) _ | refine Ext.trans ?_ (by assumption)))⟩
end Go.Proofs.YtbgiciijiopklaaDoor
