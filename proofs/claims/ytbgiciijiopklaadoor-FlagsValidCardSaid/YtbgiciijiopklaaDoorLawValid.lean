/- The walk of FlagsValid: true at every argument. The table of the lowest bits as the program lays it. -/
import Derived.Test.YtbgiciijiopklaaDoorKnown
namespace Go.Proofs.YtbgiciijiopklaaDoor
open Go.RowKit Go.Shelf
set_option maxHeartbeats 1600000 in
theorem lawValid_any (f g : Nat) (w : World) (hT : TabAt 0 Lib.deBruijn32tab w) (hf : f < 4294967296) (hg : g < 4294967296) : Calls Tryd.prog 3 #[.int .u32 (f : Int), .int .u32 (g : Int)] w fun e w' => e = .returned (.bool true) ∧ Ext w w' := by
  have HT := Lib.hid hT
  have h1 := u32_and_nat f g hf hg
  have h2 := beq_nat (f &&& g) g
  have h3 := hasB_def f g
  rw [← h3] at h2
  generalize f &&& g = x at *
  clear hT h3
  go_enter Tryd.func3, Tryd.ntmps3
  go_wp2_with (first | (go_at_call 11; (with_reducible refine (ticket_any f hf _).mono ?_); rintro e w' ⟨rfl, rfl⟩) | (go_at_call 12; (with_reducible refine (rTicket_any f _).mono ?_); rintro e w' ⟨rfl, rfl⟩) | (go_at_call 13; (with_reducible refine (optionsOk_any f hf _).mono ?_); rintro e w1 ⟨rfl, hx1⟩) | (go_at_call 14; (with_reducible refine (rOptions_any f hf _).mono ?_); rintro e w' ⟨rfl, rfl⟩) | (go_at_call 15; (with_reducible refine (has_any f g hf hg _ rfl _).mono ?_); rintro e w' ⟨rfl, rfl⟩) | (go_at_call 16; (with_reducible refine (known_any _ (TabAt.ext HT.out (by repeat (first | exact Ext.refl _ | assumption | refine Ext.drew ?_ | refine Ext.alloc ?_ _ | refine Ext.setCell ?_ (by first | exact Nat.le_refl _ | (simp; done) | (simp; omega)) _ | refine Ext.trans ?_ (by assumption))))).mono ?_); rintro e w9 ⟨rfl, hx9⟩))
  go_ret
  exact ⟨by simp, (by repeat (first | exact Ext.refl _ | assumption | refine Ext.drew ?_ | refine Ext.alloc ?_ _ | refine Ext.setCell ?_ (by first | exact Nat.le_refl _ | (simp; done) | (simp; omega)) _ | refine Ext.trans ?_ (by assumption)))⟩
end Go.Proofs.YtbgiciijiopklaaDoor
