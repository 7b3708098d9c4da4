/- Contracts of the reference's Initial, Derive, Renew (watchwordref13). No condition. -/
import Derived.Test.YtdpjkocpdomkbaaGreatDoorRefB
namespace Go.Proofs.YtdpjkocpdomkbaaGreatDoor
open Go.RowKit
/-- The first of some tests that fails, or none. -/
theorem chain2 (b1 b2 : Bool) : (b1 = false) ∨ (b1 = true ∧ b2 = false) ∨ (b1 = true ∧ b2 = true) := by
  cases b1 <;> cases b2 <;> simp
/-- The first of some tests that fails, or none. -/
theorem chain3 (b1 b2 b3 : Bool) : (b1 = false) ∨ (b1 = true ∧ b2 = false) ∨ (b1 = true ∧ b2 = true ∧ b3 = false) ∨ (b1 = true ∧ b2 = true ∧ b3 = true) := by
  cases b1 <;> cases b2 <;> cases b3 <;> simp
/-- The first of some tests that fails, or none. -/
theorem chain4 (b1 b2 b3 b4 : Bool) : (b1 = false) ∨ (b1 = true ∧ b2 = false) ∨ (b1 = true ∧ b2 = true ∧ b3 = false) ∨ (b1 = true ∧ b2 = true ∧ b3 = true ∧ b4 = false) ∨ (b1 = true ∧ b2 = true ∧ b3 = true ∧ b4 = true) := by
  cases b1 <;> cases b2 <;> cases b3 <;> cases b4 <;> simp
/-- The first of some tests that fails, or none. -/
theorem chain5 (b1 b2 b3 b4 b5 : Bool) : (b1 = false) ∨ (b1 = true ∧ b2 = false) ∨ (b1 = true ∧ b2 = true ∧ b3 = false) ∨ (b1 = true ∧ b2 = true ∧ b3 = true ∧ b4 = false) ∨ (b1 = true ∧ b2 = true ∧ b3 = true ∧ b4 = true ∧ b5 = false) ∨ (b1 = true ∧ b2 = true ∧ b3 = true ∧ b4 = true ∧ b5 = true) := by
  cases b1 <;> cases b2 <;> cases b3 <;> cases b4 <;> cases b5 <;> simp
/-- The first of some tests that fails, or none. -/
theorem chain6 (b1 b2 b3 b4 b5 b6 : Bool) : (b1 = false) ∨ (b1 = true ∧ b2 = false) ∨ (b1 = true ∧ b2 = true ∧ b3 = false) ∨ (b1 = true ∧ b2 = true ∧ b3 = true ∧ b4 = false) ∨ (b1 = true ∧ b2 = true ∧ b3 = true ∧ b4 = true ∧ b5 = false) ∨ (b1 = true ∧ b2 = true ∧ b3 = true ∧ b4 = true ∧ b5 = true ∧ b6 = false) ∨ (b1 = true ∧ b2 = true ∧ b3 = true ∧ b4 = true ∧ b5 = true ∧ b6 = true) := by
  cases b1 <;> cases b2 <;> cases b3 <;> cases b4 <;> cases b5 <;> cases b6 <;> simp
/-- Limits, wish and clock are fit. -/
def okInit (f till wish life renew now k : Int) : Bool := okTimes [f, till, wish] && limitsOk life renew && okTimes [now] && (decide (0 ≤ k) && decide (k ≤ 86400))
/-- The initial times, or the error. -/
def initialR (f till wish life renew now k : Int) : (Int × Int × Int × Int) × Int :=
  if okInit f till wish life renew now k = true then freshR now (if now + k < f then f else now) till wish life renew 1099511627776 1099511627776 else ((0, 0, 0, 0), 2)
theorem initialR_bad {f till wish life renew now k : Int} (h : okInit f till wish life renew now k = false) : initialR f till wish life renew now k = ((0, 0, 0, 0), 2) := by
  unfold initialR; rw [if_neg (by simp [h])]
theorem initialR_ok {f till wish life renew now k s : Int} (h : okInit f till wish life renew now k = true) (hs : s = if now + k < f then f else now) : initialR f till wish life renew now k = freshR now s till wish life renew 1099511627776 1099511627776 := by
  unfold initialR; rw [if_pos h, hs]
theorem badT_false {x : Int} (h : (!badT x) = true) : 0 ≤ x ∧ x ≤ 1099511627776 := by
  simp [badT_def] at h; omega
theorem limitsOk_true {a b : Int} (h : limitsOk a b = true) : 1 ≤ a ∧ a ≤ 2147483648 ∧ 0 ≤ b ∧ b ≤ 2147483648 := by
  simp [limitsOk_def] at h; omega
theorem okInit_eq (f till wish life renew now k : Int) : okInit f till wish life renew now k = ((!badT f) && (!badT till) && (!badT wish) && limitsOk life renew && (!badT now) && (decide (0 ≤ k) && decide (k ≤ 86400))) := by
  unfold okInit; rw [okTimes3, okTimes1]
attribute [irreducible] initialR okInit
/-- Limits and wish are fit. -/
def okWish (f till wish life renew : Int) : Bool := okTimes [f, till, wish] && limitsOk life renew
theorem okWish_eq (f till wish life renew : Int) : okWish f till wish life renew = ((!badT f) && (!badT till) && (!badT wish) && limitsOk life renew) := by
  unfold okWish; rw [okTimes3]
/-- The derived times, or the error. -/
def deriveR (a s t r f till wish life renew now k : Int) : (Int × Int × Int × Int) × Int :=
  if okWish f till wish life renew = false then ((0, 0, 0, 0), 2) else if usableR a s t r now k ≠ 0 then ((0, 0, 0, 0), usableR a s t r now k)
  else freshR a (if now + k < f then f else max now a) till wish life renew t r
theorem deriveR_bad {a s t r f till wish life renew now k : Int} (h : okWish f till wish life renew = false) : deriveR a s t r f till wish life renew now k = ((0, 0, 0, 0), 2) := by
  unfold deriveR; rw [if_pos h]
theorem deriveR_un {a s t r f till wish life renew now k : Int} (h : okWish f till wish life renew = true) (hu : usableR a s t r now k ≠ 0) : deriveR a s t r f till wish life renew now k = ((0, 0, 0, 0), usableR a s t r now k) := by
  unfold deriveR; rw [if_neg (by simp [h]), if_pos hu]
theorem deriveR_ok {a s t r f till wish life renew now k st : Int} (h : okWish f till wish life renew = true) (hu : usableR a s t r now k = 0) (hs : st = if now + k < f then f else max now a) : deriveR a s t r f till wish life renew now k = freshR a st till wish life renew t r := by
  unfold deriveR; rw [if_neg (by simp [h]), if_neg (by simp [hu]), hs]
attribute [irreducible] deriveR okWish
/-- The renewed times, or the error. -/
def renewR (a s t r now k : Int) : (Int × Int × Int × Int) × Int :=
  if usableR a s t r now k ≠ 0 then ((0, 0, 0, 0), usableR a s t r now k) else if renewableR a s t r now k = false then ((0, 0, 0, 0), 142)
  else if min (max now a + t - s) r ≤ max now a then ((0, 0, 0, 0), 143) else ((a, max now a, min (max now a + t - s) r, r), 0)
theorem renewR_un {a s t r now k : Int} (hu : usableR a s t r now k ≠ 0) : renewR a s t r now k = ((0, 0, 0, 0), usableR a s t r now k) := by
  unfold renewR; rw [if_pos hu]
theorem renewR_not {a s t r now k : Int} (hu : usableR a s t r now k = 0) (hr : renewableR a s t r now k = false) : renewR a s t r now k = ((0, 0, 0, 0), 142) := by
  unfold renewR; rw [if_neg (by simp [hu]), if_pos hr]
theorem renewR_never {a s t r now k st en : Int} (hu : usableR a s t r now k = 0) (hr : renewableR a s t r now k = true) (h1 : st = max now a) (h2 : en = min (st + t - s) r) (h3 : en ≤ st) : renewR a s t r now k = ((0, 0, 0, 0), 143) := by
  unfold renewR; rw [if_neg (by simp [hu]), if_neg (by simp [hr]), ← h1, ← h2, if_pos h3]
theorem renewR_ok {a s t r now k st en : Int} (hu : usableR a s t r now k = 0) (hr : renewableR a s t r now k = true) (h1 : st = max now a) (h2 : en = min (st + t - s) r) (h3 : ¬ en ≤ st) : renewR a s t r now k = ((a, st, en, r), 0) := by
  unfold renewR; rw [if_neg (by simp [hu]), if_neg (by simp [hr]), ← h1, ← h2, if_neg h3]
attribute [irreducible] renewR
end Go.Proofs.YtdpjkocpdomkbaaGreatDoor
