/- Contracts for the examples of the chapter: limits, result, and each call that 'known' makes. The table of powers of ten as the program lays it. -/
import Derived.Test.YtdpjkocpdomkbaaGreatDoorFacts
import Derived.Test.YtdpjkocpdomkbaaGreatDoorGrant
namespace Go.Proofs.YtdpjkocpdomkbaaGreatDoor
open Go.RowKit
set_option maxHeartbeats 800000 in
theorem limits_any (w : World) : Calls Tryz.prog 16 #[] w fun e w' => e = .returned (.agg #[.int .i64 100, .int .i64 1000]) ∧ Ext w w' := by
  go_enter Tryz.func16, Tryz.ntmps16
  go_wp2
  go_returns
  exact ⟨rfl, (by repeat (first | exact Ext.refl _ | assumption | refine Ext.drew ?_ | refine Ext.alloc ?_ _ | refine Ext.setCell ?_ (by first | exact Nat.le_refl _ | (simp; done) | (simp; omega)) _ | refine Ext.trans ?_ (by assumption)))⟩
set_option maxHeartbeats 1600000 in
theorem result_T (a s t r : Int) (want : ByteArray) (w : World) (h : textR a s t r = (want, 0)) (htab : Lib.TabIs Tryz.prog w "internal/strconv.uint64pow10" .u64 Lib.pow10Tab) :
    Calls Tryz.prog 17 #[.agg #[.int .i64 a, .int .i64 s, .int .i64 t, .int .i64 r], .int .i64 0, .string want, .int .i64 0] w fun e' w' => e' = .returned (.bool true) ∧ Ext w w' := by
  have Htab := Lib.hid htab
  have H := Lib.hid h
  clear htab h
  go_enter Tryz.func17, Tryz.ntmps17
  have hx0 : Ext w (w.alloc (.cells #[.int .i64 a, .int .i64 s, .int .i64 t, .int .i64 r] 23)) := (Ext.refl _).alloc _
  go_wp2_with (go_at_call 6; (refine (text_any _ _ _ _ _ (Ext.tab hx0 pow10_g Htab.out)).mono ?_); rintro e w_text ⟨rfl, hx_text⟩; rw [H.out]; dsimp only)
  all_goals go_ret
  all_goals exact ⟨rfl, (by repeat (first | exact Ext.refl _ | assumption | refine Ext.drew ?_ | refine Ext.alloc ?_ _ | refine Ext.setCell ?_ (by first | exact Nat.le_refl _ | (simp; done) | (simp; omega)) _ | refine Ext.trans ?_ (by assumption)))⟩
set_option maxHeartbeats 1600000 in
theorem result_E (no : Int) (want : ByteArray) (w : World) (h : no ≠ 0) :
    Calls Tryz.prog 17 #[.agg #[.int .i64 0, .int .i64 0, .int .i64 0, .int .i64 0], .int .i64 no, .string want, .int .i64 no] w fun e' w' => e' = .returned (.bool true) ∧ Ext w w' := by
  have h1 : ((no : Int) != 0) = true := by simpa using h
  go_enter Tryz.func17, Tryz.ntmps17
  go_wp2_with fail
  all_goals go_ret
  all_goals exact ⟨rfl, (by repeat (first | exact Ext.refl _ | assumption | refine Ext.drew ?_ | refine Ext.alloc ?_ _ | refine Ext.setCell ?_ (by first | exact Nat.le_refl _ | (simp; done) | (simp; omega)) _ | refine Ext.trans ?_ (by assumption)))⟩
theorem of_times {x : (Int × Int × Int × Int) × Int} {w w' : World} {e : Ending} {a s t r er : Int} (h : TimesPost x w e w') (hx : x = ((a, s, t, r), er)) : e = .returned (.tuple #[.agg #[.int .i64 a, .int .i64 s, .int .i64 t, .int .i64 r], .int .i64 er]) ∧ Ext w w' := by
  obtain ⟨a', s', t', r', er', rfl, hq, hw⟩ := h
  have := hq.out.symm.trans hx
  simp only [Prod.mk.injEq] at this
  obtain ⟨⟨rfl, rfl, rfl, rfl⟩, rfl⟩ := this
  exact ⟨rfl, hw⟩
theorem c_ki0 (w : World) : Calls Tryz.prog 15 #[.agg #[.int .i64 0, .int .i64 0, .int .i64 0], .agg #[.int .i64 100, .int .i64 1000], .int .i64 50, .int .i64 5] w fun e w' => e = .returned (.tuple #[.agg #[.int .i64 50, .int .i64 50, .int .i64 150, .int .i64 0], .int .i64 0]) ∧ Ext w w' :=
  (initial_any _ _ _ _ _ _ _ w).mono fun _ _ h => of_times h ki0
theorem c_ki1 (w : World) : Calls Tryz.prog 15 #[.agg #[.int .i64 0, .int .i64 120, .int .i64 500], .agg #[.int .i64 100, .int .i64 1000], .int .i64 50, .int .i64 5] w fun e w' => e = .returned (.tuple #[.agg #[.int .i64 50, .int .i64 50, .int .i64 120, .int .i64 500], .int .i64 0]) ∧ Ext w w' :=
  (initial_any _ _ _ _ _ _ _ w).mono fun _ _ h => of_times h ki1
theorem c_ki2 (w : World) : Calls Tryz.prog 15 #[.agg #[.int .i64 55, .int .i64 0, .int .i64 0], .agg #[.int .i64 100, .int .i64 1000], .int .i64 50, .int .i64 5] w fun e w' => e = .returned (.tuple #[.agg #[.int .i64 50, .int .i64 50, .int .i64 150, .int .i64 0], .int .i64 0]) ∧ Ext w w' :=
  (initial_any _ _ _ _ _ _ _ w).mono fun _ _ h => of_times h ki2
theorem c_ki3 (w : World) : Calls Tryz.prog 15 #[.agg #[.int .i64 56, .int .i64 0, .int .i64 0], .agg #[.int .i64 100, .int .i64 1000], .int .i64 50, .int .i64 5] w fun e w' => e = .returned (.tuple #[.agg #[.int .i64 50, .int .i64 56, .int .i64 156, .int .i64 0], .int .i64 0]) ∧ Ext w w' :=
  (initial_any _ _ _ _ _ _ _ w).mono fun _ _ h => of_times h ki3
theorem c_ki4 (w : World) : Calls Tryz.prog 15 #[.agg #[.int .i64 0, .int .i64 50, .int .i64 0], .agg #[.int .i64 100, .int .i64 1000], .int .i64 50, .int .i64 5] w fun e w' => e = .returned (.tuple #[.agg #[.int .i64 0, .int .i64 0, .int .i64 0, .int .i64 0], .int .i64 143]) ∧ Ext w w' :=
  (initial_any _ _ _ _ _ _ _ w).mono fun _ _ h => of_times h ki4
theorem c_kd0 (w : World) : Calls Tryz.prog 18 #[.agg #[.int .i64 10, .int .i64 40, .int .i64 90, .int .i64 300], .agg #[.int .i64 0, .int .i64 0, .int .i64 400], .agg #[.int .i64 100, .int .i64 1000], .int .i64 50, .int .i64 5] w fun e w' => e = .returned (.tuple #[.agg #[.int .i64 10, .int .i64 50, .int .i64 90, .int .i64 300], .int .i64 0]) ∧ Ext w w' :=
  (derive_any _ _ _ _ _ _ _ _ _ _ _ w).mono fun _ _ h => of_times h kd0
theorem c_kd1 (w : World) : Calls Tryz.prog 18 #[.agg #[.int .i64 10, .int .i64 40, .int .i64 90, .int .i64 300], .agg #[.int .i64 0, .int .i64 80, .int .i64 60], .agg #[.int .i64 100, .int .i64 1000], .int .i64 50, .int .i64 5] w fun e w' => e = .returned (.tuple #[.agg #[.int .i64 10, .int .i64 50, .int .i64 80, .int .i64 0], .int .i64 0]) ∧ Ext w w' :=
  (derive_any _ _ _ _ _ _ _ _ _ _ _ w).mono fun _ _ h => of_times h kd1
theorem c_kd2 (w : World) : Calls Tryz.prog 18 #[.agg #[.int .i64 10, .int .i64 40, .int .i64 44, .int .i64 0], .agg #[.int .i64 0, .int .i64 0, .int .i64 0], .agg #[.int .i64 100, .int .i64 1000], .int .i64 50, .int .i64 5] w fun e w' => e = .returned (.tuple #[.agg #[.int .i64 0, .int .i64 0, .int .i64 0, .int .i64 0], .int .i64 141]) ∧ Ext w w' :=
  (derive_any _ _ _ _ _ _ _ _ _ _ _ w).mono fun _ _ h => of_times h kd2
theorem c_kd3 (w : World) : Calls Tryz.prog 18 #[.agg #[.int .i64 10, .int .i64 56, .int .i64 90, .int .i64 0], .agg #[.int .i64 0, .int .i64 0, .int .i64 0], .agg #[.int .i64 100, .int .i64 1000], .int .i64 50, .int .i64 5] w fun e w' => e = .returned (.tuple #[.agg #[.int .i64 0, .int .i64 0, .int .i64 0, .int .i64 0], .int .i64 140]) ∧ Ext w w' :=
  (derive_any _ _ _ _ _ _ _ _ _ _ _ w).mono fun _ _ h => of_times h kd3
theorem c_kr0 (w : World) : Calls Tryz.prog 19 #[.agg #[.int .i64 10, .int .i64 20, .int .i64 90, .int .i64 300], .int .i64 50, .int .i64 5] w fun e w' => e = .returned (.tuple #[.agg #[.int .i64 10, .int .i64 50, .int .i64 120, .int .i64 300], .int .i64 0]) ∧ Ext w w' :=
  (renew_any _ _ _ _ _ _ w).mono fun _ _ h => of_times h kr0
theorem c_kr1 (w : World) : Calls Tryz.prog 19 #[.agg #[.int .i64 10, .int .i64 20, .int .i64 90, .int .i64 100], .int .i64 50, .int .i64 5] w fun e w' => e = .returned (.tuple #[.agg #[.int .i64 10, .int .i64 50, .int .i64 100, .int .i64 100], .int .i64 0]) ∧ Ext w w' :=
  (renew_any _ _ _ _ _ _ w).mono fun _ _ h => of_times h kr1
theorem c_kr2 (w : World) : Calls Tryz.prog 19 #[.agg #[.int .i64 10, .int .i64 20, .int .i64 90, .int .i64 0], .int .i64 50, .int .i64 5] w fun e w' => e = .returned (.tuple #[.agg #[.int .i64 0, .int .i64 0, .int .i64 0, .int .i64 0], .int .i64 142]) ∧ Ext w w' :=
  (renew_any _ _ _ _ _ _ w).mono fun _ _ h => of_times h kr2
theorem c_ku0 (w : World) : Calls Tryz.prog 20 #[.agg #[.int .i64 10, .int .i64 55, .int .i64 60, .int .i64 0], .int .i64 50, .int .i64 5] w fun e w' => e = .returned (.int .i64 0) ∧ Ext w w' := by
  have h := usable_r 10 55 60 0 50 5 w
  rw [ku0] at h; exact h
theorem c_ku1 (w : World) : Calls Tryz.prog 20 #[.agg #[.int .i64 10, .int .i64 56, .int .i64 60, .int .i64 0], .int .i64 50, .int .i64 5] w fun e w' => e = .returned (.int .i64 140) ∧ Ext w w' := by
  have h := usable_r 10 56 60 0 50 5 w
  rw [ku1] at h; exact h
theorem c_ku2 (w : World) : Calls Tryz.prog 20 #[.agg #[.int .i64 10, .int .i64 20, .int .i64 45, .int .i64 0], .int .i64 50, .int .i64 5] w fun e w' => e = .returned (.int .i64 0) ∧ Ext w w' := by
  have h := usable_r 10 20 45 0 50 5 w
  rw [ku2] at h; exact h
theorem c_ku3 (w : World) : Calls Tryz.prog 20 #[.agg #[.int .i64 10, .int .i64 20, .int .i64 44, .int .i64 0], .int .i64 50, .int .i64 5] w fun e w' => e = .returned (.int .i64 141) ∧ Ext w w' := by
  have h := usable_r 10 20 44 0 50 5 w
  rw [ku3] at h; exact h
end Go.Proofs.YtdpjkocpdomkbaaGreatDoor
