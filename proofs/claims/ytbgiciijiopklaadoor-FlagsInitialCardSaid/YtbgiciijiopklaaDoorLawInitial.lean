/- The walk of FlagsInitial: true at every argument. The table of the lowest bits as the program lays it. -/
import Derived.Test.YtbgiciijiopklaaDoorKnown
namespace Go.Proofs.YtbgiciijiopklaaDoor
open Go.RowKit Go.Shelf
set_option maxHeartbeats 1600000 in
theorem lawInitial_any (o a : Nat) (pre : Bool) (w : World) (hT : TabAt 0 Lib.deBruijn32tab w) (ho : o < 4294967296) (ha : a < 4294967296) : Calls Tryd.prog 6 #[.int .u32 (o : Int), .int .u32 (a : Int), .bool pre] w fun e w' => e = .returned (.bool true) ∧ Ext w w' := by
  have HT := Lib.hid hT
  clear hT
  go_enter Tryd.func6, Tryd.ntmps6
  go_wp2_with (first | (go_at_call 25; (with_reducible refine (initial_any o a pre ho ha _).mono ?_); rintro e w1 ⟨rfl, hx1⟩) | (go_at_call 26; (with_reducible refine (rFirst_any o a pre ho ha _).mono ?_); rintro e w2 ⟨rfl, hx2⟩) | (go_at_call 16; (with_reducible refine (known_any _ (TabAt.ext HT.out (by repeat (first | exact Ext.refl _ | assumption | refine Ext.drew ?_ | refine Ext.alloc ?_ _ | refine Ext.setCell ?_ (by first | exact Nat.le_refl _ | (simp; done) | (simp; omega)) _ | refine Ext.trans ?_ (by assumption))))).mono ?_); rintro e w9 ⟨rfl, hx9⟩))
  go_ret
  exact ⟨by simp, (by repeat (first | exact Ext.refl _ | assumption | refine Ext.drew ?_ | refine Ext.alloc ?_ _ | refine Ext.setCell ?_ (by first | exact Nat.le_refl _ | (simp; done) | (simp; omega)) _ | refine Ext.trans ?_ (by assumption)))⟩
end Go.Proofs.YtbgiciijiopklaaDoor
