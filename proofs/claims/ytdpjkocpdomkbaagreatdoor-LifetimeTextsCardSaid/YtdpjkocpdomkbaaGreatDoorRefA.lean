/- Contracts of the reference's small functions (watchwordref13): Time, Skew, Limits, Valid, Usable, Renewable, least. No condition. -/
import Derived.Test.YtdpjkocpdomkbaaGreatDoorUsable
namespace Go.Proofs.YtdpjkocpdomkbaaGreatDoor
open Go.RowKit
set_option maxHeartbeats 400000 in
theorem refTime_any (t : Int) (w : World) :
    Calls Tryz.prog 26 #[.int .i64 t] w fun e w' => e = .returned (.bool (!badT t)) ∧ w = w' := by
  go_enter Tryz.func26, Tryz.ntmps26
  go_wp2
  all_goals go_ret
  all_goals exact ⟨ret_bool (by rw [badT_def, Bool.eq_iff_iff]; simp; omega), rfl⟩
theorem okTimes4 (a s t r : Int) : okTimes [a, s, t, r] = (!badT a && !badT s && !badT t && !badT r) := by
  rw [okTimes_def]; simp only [List.any_cons, List.any_nil]; generalize badT a = x1; generalize badT s = x2; generalize badT t = x3; generalize badT r = x4; cases x1 <;> cases x2 <;> cases x3 <;> cases x4 <;> rfl
theorem okTimes3 (a s t : Int) : okTimes [a, s, t] = (!badT a && !badT s && !badT t) := by
  rw [okTimes_def]; simp only [List.any_cons, List.any_nil]; generalize badT a = x1; generalize badT s = x2; generalize badT t = x3; cases x1 <;> cases x2 <;> cases x3 <;> rfl
theorem okTimes1 (a : Int) : okTimes [a] = !badT a := by
  rw [okTimes_def]; simp only [List.any_cons, List.any_nil]; generalize badT a = x1; cases x1 <;> rfl
set_option maxHeartbeats 1600000 in
theorem refValid_any (a s t r : Int) (w : World) :
    Calls Tryz.prog 8 #[.agg #[.int .i64 a, .int .i64 s, .int .i64 t, .int .i64 r]] w fun e w' => e = .returned (.bool (validT a s t r)) ∧ Ext w w' := by
  have Hv := Lib.hid ((validT_def a s t r).trans (by rw [okTimes4]))
  go_enter Tryz.func8, Tryz.ntmps8
  cases ha : badT a <;> cases hs : badT s <;> cases ht : badT t <;> cases hr : badT r
  all_goals
    go_wp2_with (go_at_call 26; refine (refTime_any _ _).mono ?_; rintro e w' ⟨rfl, rfl⟩)
  all_goals go_ret
  all_goals exact ⟨ret_bool (by rw [Hv.out, ha, hs, ht, hr, Bool.eq_iff_iff]; simp; try omega), by repeat (first | exact Ext.refl _ | refine Ext.alloc ?_ _)⟩
/-- Valid times are times, in order. -/
theorem validT_true {a s t r : Int} (h : validT a s t r = true) : (0 ≤ a ∧ a ≤ 1099511627776) ∧ (0 ≤ s ∧ s ≤ 1099511627776) ∧ (0 ≤ t ∧ t ≤ 1099511627776) ∧ (0 ≤ r ∧ r ≤ 1099511627776) ∧ a ≤ s ∧ s < t ∧ (r = 0 ∨ t ≤ r) := by
  rw [validT_def, okTimes4] at h
  simp [badT_def] at h
  omega
theorem okTimes1_true {a : Int} (h : okTimes [a] = true) : 0 ≤ a ∧ a ≤ 1099511627776 := by
  rw [okTimes1] at h
  simp [badT_def] at h
  omega
/-- What is handed back for times in use, without wraps: the numbers are small where it matters. -/
def usableR (a s t r now k : Int) : Int :=
  if (validT a s t r && okTimes [now] && (decide (0 ≤ k) && decide (k ≤ 86400))) = false then 2 else if now + k < s then 140 else if t < now - k then 141 else 0
theorem usableR_def (a s t r now k : Int) : usableR a s t r now k =
  if (validT a s t r && okTimes [now] && (decide (0 ≤ k) && decide (k ≤ 86400))) = false then 2 else if now + k < s then 140 else if t < now - k then 141 else 0 := rfl
attribute [irreducible] usableR
theorem usableE_eq (a s t r now k : Int) : usableE a s t r now k = usableR a s t r now k := by
  rw [usableE_def, usableR_def, firstErr3]
  by_cases h : (validT a s t r && okTimes [now] && (decide (0 ≤ k) && decide (k ≤ 86400))) = false
  · rw [if_pos h, if_pos h]
  · rw [if_neg h, if_neg h]
    simp only [Bool.not_eq_false, Bool.and_eq_true, decide_eq_true_eq] at h
    obtain ⟨⟨hv, hn⟩, hk0, hk1⟩ := h
    have h1 := validT_true hv
    have h2 := okTimes1_true hn
    rw [IntWalk.i64_in _ (by omega), IntWalk.i64_in _ (by omega)]
    simp only [decide_eq_false_iff_not]
    split <;> split <;> (try split) <;> omega
/-- Are times renewable? -/
def renewableR (a s t r now k : Int) : Bool := decide (usableR a s t r now k = 0) && (!decide (r = 0) && decide (now ≤ r + k))
theorem renewableR_def (a s t r now k : Int) : renewableR a s t r now k = (decide (usableR a s t r now k = 0) && (!decide (r = 0) && decide (now ≤ r + k))) := rfl
attribute [irreducible] renewableR
theorem usableR_zero {a s t r now k : Int} (h : usableR a s t r now k = 0) : validT a s t r = true ∧ (0 ≤ now ∧ now ≤ 1099511627776) ∧ (0 ≤ k ∧ k ≤ 86400) ∧ s ≤ now + k ∧ now - k ≤ t := by
  rw [usableR_def] at h
  by_cases g : (validT a s t r && okTimes [now] && (decide (0 ≤ k) && decide (k ≤ 86400))) = false
  · rw [if_pos g] at h; omega
  · rw [if_neg g] at h
    simp only [Bool.not_eq_false, Bool.and_eq_true, decide_eq_true_eq] at g
    have h2 := okTimes1_true g.1.2
    refine ⟨g.1.1, h2, g.2, ?_⟩
    repeat (first | omega | split at h)
end Go.Proofs.YtdpjkocpdomkbaaGreatDoor
