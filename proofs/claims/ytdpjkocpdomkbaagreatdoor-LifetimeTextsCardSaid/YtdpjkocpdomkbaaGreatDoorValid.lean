/- Contracts of lifetime.Valid, Wish.valid, Limits.valid, Within. No condition. -/
import Derived.Test.YtdpjkocpdomkbaaGreatDoorTimes
namespace Go.Proofs.YtdpjkocpdomkbaaGreatDoor
open Go.RowKit
def validT (a s e r : Int) : Bool := okTimes [a, s, e, r] && decide (a ≤ s) && decide (s < e) && (decide (r = 0) || decide (e ≤ r))
theorem validT_def (a s e r : Int) : validT a s e r = (okTimes [a, s, e, r] && decide (a ≤ s) && decide (s < e) && (decide (r = 0) || decide (e ≤ r))) := rfl
attribute [irreducible] validT
def limitsOk (a b : Int) : Bool := decide (1 ≤ a) && decide (a ≤ 2147483648) && (decide (0 ≤ b) && decide (b ≤ 2147483648))
theorem limitsOk_def (a b : Int) : limitsOk a b = (decide (1 ≤ a) && decide (a ≤ 2147483648) && (decide (0 ≤ b) && decide (b ≤ 2147483648))) := rfl
attribute [irreducible] limitsOk
set_option maxHeartbeats 400000 in
theorem wishValid_any (a b c : Int) (w : World) :
    Calls Tryz.prog 37 #[.agg #[.int .i64 a, .int .i64 b, .int .i64 c]] w fun e w' => e = .returned (.bool (okTimes [a, b, c])) ∧ Ext w w' := by
  go_enter Tryz.func37, Tryz.ntmps37
  go_wp2_with fail
  refine (times_blk3 _ _ _ (heap_new2 _ _ _)).mono ?_
  rintro e w' ⟨rfl, rfl⟩
  go_wp2
  go_ret
  exact ⟨rfl, by repeat (first | exact Ext.refl _ | refine Ext.alloc ?_ _)⟩
set_option maxHeartbeats 400000 in
theorem limitsValid_any (a b : Int) (w : World) :
    Calls Tryz.prog 38 #[.agg #[.int .i64 a, .int .i64 b]] w fun e w' => e = .returned (.bool (limitsOk a b)) ∧ Ext w w' := by
  go_enter Tryz.func38, Tryz.ntmps38
  cases hb : (decide (1 ≤ a) && decide (a ≤ 2147483648))
  · have Hf : Hid (limitsOk a b = false) := by rw [limitsOk_def, hb]; rfl
    go_wp2_with (go_at_call 39; refine (between_any _ _ _ _).mono ?_; rintro e w' ⟨rfl, rfl⟩)
    go_ret
    exact ⟨ret_bool Hf.out.symm, by repeat (first | exact Ext.refl _ | refine Ext.alloc ?_ _)⟩
  · have Hf : Hid (limitsOk a b = (decide (0 ≤ b) && decide (b ≤ 2147483648))) := by rw [limitsOk_def, hb]; rfl
    go_wp2_with (go_at_call 39; refine (between_any _ _ _ _).mono ?_; rintro e w' ⟨rfl, rfl⟩)
    go_ret
    exact ⟨ret_bool Hf.out.symm, by repeat (first | exact Ext.refl _ | refine Ext.alloc ?_ _)⟩
set_option maxHeartbeats 400000 in
theorem valid_any (a s t r : Int) (w : World) :
    Calls Tryz.prog 13 #[.agg #[.int .i64 a, .int .i64 s, .int .i64 t, .int .i64 r]] w fun e w' => e = .returned (.bool (validT a s t r)) ∧ Ext w w' := by
  go_enter Tryz.func13, Tryz.ntmps13
  have Hv := Lib.hid (validT_def a s t r)
  cases hb : okTimes [a, s, t, r]
  all_goals
    have Hb := Lib.hid hb
    clear hb
    go_wp2_with fail
    refine (times_blk4 _ _ _ _ (heap_new2 _ _ _)).mono ?_
    rintro e w' ⟨rfl, rfl⟩
    rw [Hb.out]
    go_wp2
  all_goals go_ret
  all_goals exact ⟨ret_bool (by rw [Hv.out, Hb.out]; simp [*]; try omega), by repeat (first | exact Ext.refl _ | refine Ext.alloc ?_ _)⟩
end Go.Proofs.YtdpjkocpdomkbaaGreatDoor
