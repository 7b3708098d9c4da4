/- What the examples of the chapter come to, reckoned. No condition. -/
import Derived.Test.YtdpjkocpdomkbaaGreatDoorMake
import Derived.Test.YtdpjkocpdomkbaaGreatDoorRefC
import Derived.Test.YtdpjkocpdomkbaaGreatDoorText
namespace Go.Proofs.YtdpjkocpdomkbaaGreatDoor
open Go.RowKit
theorem okTimes_cons (x : Int) (l : List Int) : okTimes (x :: l) = (!badT x && okTimes l) := by
  rw [okTimes_def, okTimes_def]; simp only [List.any_cons, Bool.not_or]
theorem okTimes_nil : okTimes [] = true := by rw [okTimes_def]; rfl
theorem ki0 : initialR 0 0 0 100 1000 50 5 = ((50, 50, 150, 0), 0) := by
  first | (simp [initialR, okInit, okTimes_cons, okTimes_nil, badT_def, limitsOk_def, freshR_def, endR, renR]; done) | (simp [initialR, okInit, okTimes_cons, okTimes_nil, badT_def, limitsOk_def, freshR_def, endR, renR]; decide)
theorem ki1 : initialR 0 120 500 100 1000 50 5 = ((50, 50, 120, 500), 0) := by
  first | (simp [initialR, okInit, okTimes_cons, okTimes_nil, badT_def, limitsOk_def, freshR_def, endR, renR]; done) | (simp [initialR, okInit, okTimes_cons, okTimes_nil, badT_def, limitsOk_def, freshR_def, endR, renR]; decide)
theorem ki2 : initialR 55 0 0 100 1000 50 5 = ((50, 50, 150, 0), 0) := by
  first | (simp [initialR, okInit, okTimes_cons, okTimes_nil, badT_def, limitsOk_def, freshR_def, endR, renR]; done) | (simp [initialR, okInit, okTimes_cons, okTimes_nil, badT_def, limitsOk_def, freshR_def, endR, renR]; decide)
theorem ki3 : initialR 56 0 0 100 1000 50 5 = ((50, 56, 156, 0), 0) := by
  first | (simp [initialR, okInit, okTimes_cons, okTimes_nil, badT_def, limitsOk_def, freshR_def, endR, renR]; done) | (simp [initialR, okInit, okTimes_cons, okTimes_nil, badT_def, limitsOk_def, freshR_def, endR, renR]; decide)
theorem ki4 : initialR 0 50 0 100 1000 50 5 = ((0, 0, 0, 0), 143) := by
  first | (simp [initialR, okInit, okTimes_cons, okTimes_nil, badT_def, limitsOk_def, freshR_def, endR, renR]; done) | (simp [initialR, okInit, okTimes_cons, okTimes_nil, badT_def, limitsOk_def, freshR_def, endR, renR]; decide)
theorem kd0 : deriveR 10 40 90 300 0 0 400 100 1000 50 5 = ((10, 50, 90, 300), 0) := by
  first | (simp [deriveR, okWish, usableR_def, validT_def, okTimes_cons, okTimes_nil, badT_def, limitsOk_def, freshR_def, endR, renR]; done) | (simp [deriveR, okWish, usableR_def, validT_def, okTimes_cons, okTimes_nil, badT_def, limitsOk_def, freshR_def, endR, renR]; decide)
theorem kd1 : deriveR 10 40 90 300 0 80 60 100 1000 50 5 = ((10, 50, 80, 0), 0) := by
  first | (simp [deriveR, okWish, usableR_def, validT_def, okTimes_cons, okTimes_nil, badT_def, limitsOk_def, freshR_def, endR, renR]; done) | (simp [deriveR, okWish, usableR_def, validT_def, okTimes_cons, okTimes_nil, badT_def, limitsOk_def, freshR_def, endR, renR]; decide)
theorem kd2 : deriveR 10 40 44 0 0 0 0 100 1000 50 5 = ((0, 0, 0, 0), 141) := by
  first | (simp [deriveR, okWish, usableR_def, validT_def, okTimes_cons, okTimes_nil, badT_def, limitsOk_def]; done) | (simp [deriveR, okWish, usableR_def, validT_def, okTimes_cons, okTimes_nil, badT_def, limitsOk_def]; decide)
theorem kd3 : deriveR 10 56 90 0 0 0 0 100 1000 50 5 = ((0, 0, 0, 0), 140) := by
  first | (simp [deriveR, okWish, usableR_def, validT_def, okTimes_cons, okTimes_nil, badT_def, limitsOk_def]; done) | (simp [deriveR, okWish, usableR_def, validT_def, okTimes_cons, okTimes_nil, badT_def, limitsOk_def]; decide)
theorem kr0 : renewR 10 20 90 300 50 5 = ((10, 50, 120, 300), 0) := by
  first | (simp [renewR, renewableR_def, usableR_def, validT_def, okTimes_cons, okTimes_nil, badT_def]; done) | (simp [renewR, renewableR_def, usableR_def, validT_def, okTimes_cons, okTimes_nil, badT_def]; decide)
theorem kr1 : renewR 10 20 90 100 50 5 = ((10, 50, 100, 100), 0) := by
  first | (simp [renewR, renewableR_def, usableR_def, validT_def, okTimes_cons, okTimes_nil, badT_def]; done) | (simp [renewR, renewableR_def, usableR_def, validT_def, okTimes_cons, okTimes_nil, badT_def]; decide)
theorem kr2 : renewR 10 20 90 0 50 5 = ((0, 0, 0, 0), 142) := by
  first | (simp [renewR, renewableR_def, usableR_def, validT_def, okTimes_cons, okTimes_nil, badT_def]; done) | (simp [renewR, renewableR_def, usableR_def, validT_def, okTimes_cons, okTimes_nil, badT_def]; decide)
theorem ku0 : usableR 10 55 60 0 50 5 = 0 := by simp [usableR_def, validT_def, okTimes_cons, okTimes_nil, badT_def]
theorem ku1 : usableR 10 56 60 0 50 5 = 140 := by simp [usableR_def, validT_def, okTimes_cons, okTimes_nil, badT_def]
theorem ku2 : usableR 10 20 45 0 50 5 = 0 := by simp [usableR_def, validT_def, okTimes_cons, okTimes_nil, badT_def]
theorem ku3 : usableR 10 20 44 0 50 5 = 141 := by simp [usableR_def, validT_def, okTimes_cons, okTimes_nil, badT_def]
theorem kt (a s t r : Int) (b : ByteArray) (h : validT a s t r = true) (hb : (Lib.join ([a, s, t, r].map Lib.itoa) [32]).toArray = b.data) : textR a s t r = (b, 0) := by
  rw [textR_ok h, textT_def, hb]
theorem kt0 : textR 50 50 150 0 = (⟨#[53, 48, 32, 53, 48, 32, 49, 53, 48, 32, 48]⟩, 0) :=
  kt _ _ _ _ _ (by simp [validT_def, okTimes_cons, okTimes_nil, badT_def]) (by simp [Lib.itoa, Lib.decDigits, Lib.join, List.intercalate, List.intersperse])
theorem kt1 : textR 50 50 120 500 = (⟨#[53, 48, 32, 53, 48, 32, 49, 50, 48, 32, 53, 48, 48]⟩, 0) :=
  kt _ _ _ _ _ (by simp [validT_def, okTimes_cons, okTimes_nil, badT_def]) (by simp [Lib.itoa, Lib.decDigits, Lib.join, List.intercalate, List.intersperse])
theorem kt2 : textR 50 56 156 0 = (⟨#[53, 48, 32, 53, 54, 32, 49, 53, 54, 32, 48]⟩, 0) :=
  kt _ _ _ _ _ (by simp [validT_def, okTimes_cons, okTimes_nil, badT_def]) (by simp [Lib.itoa, Lib.decDigits, Lib.join, List.intercalate, List.intersperse])
theorem kt3 : textR 10 50 90 300 = (⟨#[49, 48, 32, 53, 48, 32, 57, 48, 32, 51, 48, 48]⟩, 0) :=
  kt _ _ _ _ _ (by simp [validT_def, okTimes_cons, okTimes_nil, badT_def]) (by simp [Lib.itoa, Lib.decDigits, Lib.join, List.intercalate, List.intersperse])
theorem kt4 : textR 10 50 80 0 = (⟨#[49, 48, 32, 53, 48, 32, 56, 48, 32, 48]⟩, 0) :=
  kt _ _ _ _ _ (by simp [validT_def, okTimes_cons, okTimes_nil, badT_def]) (by simp [Lib.itoa, Lib.decDigits, Lib.join, List.intercalate, List.intersperse])
theorem kt5 : textR 10 50 120 300 = (⟨#[49, 48, 32, 53, 48, 32, 49, 50, 48, 32, 51, 48, 48]⟩, 0) :=
  kt _ _ _ _ _ (by simp [validT_def, okTimes_cons, okTimes_nil, badT_def]) (by simp [Lib.itoa, Lib.decDigits, Lib.join, List.intercalate, List.intersperse])
theorem kt6 : textR 10 50 100 100 = (⟨#[49, 48, 32, 53, 48, 32, 49, 48, 48, 32, 49, 48, 48]⟩, 0) :=
  kt _ _ _ _ _ (by simp [validT_def, okTimes_cons, okTimes_nil, badT_def]) (by simp [Lib.itoa, Lib.decDigits, Lib.join, List.intercalate, List.intersperse])
end Go.Proofs.YtdpjkocpdomkbaaGreatDoor
