/- The walk of FlagsTexts: true at every argument. The table of the lowest bits as the program lays it. -/
import Derived.Test.YtbgiciijiopklaaDoorKnown
namespace Go.Proofs.YtbgiciijiopklaaDoor
open Go.RowKit Go.Shelf
theorem rParse_same (s : ByteArray) (hs : s.size ≤ 100000) (w : World) : Calls Tryd.prog 21 #[.string s] w (ParsePost s w) := by
  refine (rParse_any s hs w).mono fun e w' h => ?_
  unfold RParsePost at h
  unfold ParsePost
  rw [parse_ref s]
  exact h
theorem rText_same (f : Nat) (hf : f < 4294967296) (hn : namedB f = true) (w : World) : Calls Tryd.prog 19 #[.int .u32 (f : Int)] w fun e w' => e = .returned (.string (textB f)) ∧ Ext w w' := by
  refine (rText_any f w).mono fun e w' h => ?_
  rw [text_txt f hf hn]
  exact h
set_option maxHeartbeats 3200000 in
theorem lawTexts_any (f : Nat) (s : ByteArray) (w : World) (hT : TabAt 0 Lib.deBruijn32tab w) (hf : f < 4294967296) : Calls Tryd.prog 4 #[.int .u32 (f : Int), .string s] w fun e w' => e = .returned (.bool true) ∧ Ext w w' := by
  have HT := Lib.hid hT
  clear hT
  by_cases hs : s.size ≤ 200
  · cases hn : namedB f
    · have HN := Lib.hid hn
      have HX : Hid (textR f = (⟨#[]⟩, 2)) := by unfold textR; rw [hn]; exact rfl
      clear hn
      go_enter Tryd.func4, Tryd.ntmps4
      go_wp2_with (first | (go_at_call 17; (with_reducible refine (text_at f _ _ HX.out hf _ rfl _ (TabAt.ext HT.out (by repeat (first | exact Ext.refl _ | assumption | refine Ext.drew ?_ | refine Ext.alloc ?_ _ | refine Ext.setCell ?_ (by first | exact Nat.le_refl _ | (simp; done) | (simp; omega)) _ | refine Ext.trans ?_ (by assumption))))).mono ?_); rintro e w1 ⟨rfl, hx1⟩) | (go_at_call 18; (with_reducible refine (rNamed_any f hf _).mono ?_); rintro e w2 ⟨rfl, hx2⟩; rw [HN.out]) | (go_at_call 20; (with_reducible refine (parse_any s (by omega) _ (TabAt.ext HT.out (by repeat (first | exact Ext.refl _ | assumption | refine Ext.drew ?_ | refine Ext.alloc ?_ _ | refine Ext.setCell ?_ (by first | exact Nat.le_refl _ | (simp; done) | (simp; omega)) _ | refine Ext.trans ?_ (by assumption))))).mono ?_); rintro e w4 ⟨rfl, hx4⟩) | (go_at_call 21; (with_reducible refine (rParse_same s (by omega) _).mono ?_); rintro e w5 ⟨rfl, hx5⟩) | (go_at_call 16; (with_reducible refine (known_any _ (TabAt.ext HT.out (by repeat (first | exact Ext.refl _ | assumption | refine Ext.drew ?_ | refine Ext.alloc ?_ _ | refine Ext.setCell ?_ (by first | exact Nat.le_refl _ | (simp; done) | (simp; omega)) _ | refine Ext.trans ?_ (by assumption))))).mono ?_); rintro e w9 ⟨rfl, hx9⟩))
      go_ret
      exact ⟨by simp, (by repeat (first | exact Ext.refl _ | assumption | refine Ext.drew ?_ | refine Ext.alloc ?_ _ | refine Ext.setCell ?_ (by first | exact Nat.le_refl _ | (simp; done) | (simp; omega)) _ | refine Ext.trans ?_ (by assumption)))⟩
    · have HN := Lib.hid hn
      have HX : Hid (textR f = (textB f, 0)) := by unfold textR; rw [hn]; exact rfl
      clear hn
      go_enter Tryd.func4, Tryd.ntmps4
      go_wp2_with (first | (go_at_call 17; (with_reducible refine (text_at f _ _ HX.out hf _ rfl _ (TabAt.ext HT.out (by repeat (first | exact Ext.refl _ | assumption | refine Ext.drew ?_ | refine Ext.alloc ?_ _ | refine Ext.setCell ?_ (by first | exact Nat.le_refl _ | (simp; done) | (simp; omega)) _ | refine Ext.trans ?_ (by assumption))))).mono ?_); rintro e w1 ⟨rfl, hx1⟩) | (go_at_call 18; (with_reducible refine (rNamed_any f hf _).mono ?_); rintro e w2 ⟨rfl, hx2⟩; rw [HN.out]) | (go_at_call 19; (with_reducible refine (rText_same f hf HN.out _).mono ?_); rintro e w3 ⟨rfl, hx3⟩) | (go_at_call 20; (with_reducible refine (parse_any s (by omega) _ (TabAt.ext HT.out (by repeat (first | exact Ext.refl _ | assumption | refine Ext.drew ?_ | refine Ext.alloc ?_ _ | refine Ext.setCell ?_ (by first | exact Nat.le_refl _ | (simp; done) | (simp; omega)) _ | refine Ext.trans ?_ (by assumption))))).mono ?_); rintro e w4 ⟨rfl, hx4⟩) | (go_at_call 21; (with_reducible refine (rParse_same s (by omega) _).mono ?_); rintro e w5 ⟨rfl, hx5⟩) | (go_at_call 16; (with_reducible refine (known_any _ (TabAt.ext HT.out (by repeat (first | exact Ext.refl _ | assumption | refine Ext.drew ?_ | refine Ext.alloc ?_ _ | refine Ext.setCell ?_ (by first | exact Nat.le_refl _ | (simp; done) | (simp; omega)) _ | refine Ext.trans ?_ (by assumption))))).mono ?_); rintro e w9 ⟨rfl, hx9⟩))
      go_ret
      exact ⟨by simp, (by repeat (first | exact Ext.refl _ | assumption | refine Ext.drew ?_ | refine Ext.alloc ?_ _ | refine Ext.setCell ?_ (by first | exact Nat.le_refl _ | (simp; done) | (simp; omega)) _ | refine Ext.trans ?_ (by assumption)))⟩
  · go_enter Tryd.func4, Tryd.ntmps4
    go_wp2_with (first | (go_at_call 16; (with_reducible refine (known_any _ (TabAt.ext HT.out (by repeat (first | exact Ext.refl _ | assumption | refine Ext.drew ?_ | refine Ext.alloc ?_ _ | refine Ext.setCell ?_ (by first | exact Nat.le_refl _ | (simp; done) | (simp; omega)) _ | refine Ext.trans ?_ (by assumption))))).mono ?_); rintro e w9 ⟨rfl, hx9⟩))
    go_ret
    exact ⟨rfl, (by repeat (first | exact Ext.refl _ | assumption | refine Ext.drew ?_ | refine Ext.alloc ?_ _ | refine Ext.setCell ?_ (by first | exact Nat.le_refl _ | (simp; done) | (simp; omega)) _ | refine Ext.trans ?_ (by assumption)))⟩
end Go.Proofs.YtbgiciijiopklaaDoor
