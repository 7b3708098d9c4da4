/- The law LifetimeWithin: every call returns true. The table of powers of ten as the program lays it. -/
import Derived.Test.YtdpjkocpdomkbaaDoorKnown
namespace Go.Proofs.YtdpjkocpdomkbaaDoor
open Go.RowKit
set_option maxHeartbeats 3200000 in
theorem lawWithin_any (a b k : Int) (w : World) (htab : Lib.TabIs Tryd.prog w "internal/strconv.uint64pow10" .u64 Lib.pow10Tab) :
    Calls Tryd.prog 7 #[.int .i64 a, .int .i64 b, .int .i64 k] w fun e w' => e = .returned (.bool true) ∧ Ext w w' := by
  have Htab := Lib.hid htab
  clear htab
  go_enter Tryd.func7, Tryd.ntmps7
  rcases chain3 (!badT a) (!badT b) (decide (0 ≤ k) && decide (k ≤ 86400)) with h | ⟨h1, h⟩ | ⟨h1, h2, h⟩ | ⟨h1, h2, h3⟩
  case' inr.inr.inr =>
    obtain ⟨_, _⟩ := badT_false h1
    obtain ⟨_, _⟩ := badT_false h2
    obtain ⟨_, _⟩ : 0 ≤ k ∧ k ≤ 86400 := by simpa using h3
    have ho : okTimes [a, b] = true := by rw [okTimes_cons, okTimes_cons, okTimes_nil, h1, h2]; rfl
    by_cases hk1 : a - b ≤ k
  case' inl => have ho : okTimes [a, b] = false := by rw [okTimes_cons, h]; rfl
  case' inr.inl => have ho : okTimes [a, b] = false := by rw [okTimes_cons, okTimes_cons, h, h1]; rfl
  case' inr.inr.inl => have ho : okTimes [a, b] = true := by rw [okTimes_cons, okTimes_cons, okTimes_nil, h1, h2]; rfl
  all_goals
    go_wp2_with (first | (go_at_call 12; refine (known_any _ (Ext.tab ((by repeat (first | exact Ext.refl _ | assumption | refine Ext.drew ?_ | refine Ext.alloc ?_ _ | refine Ext.setCell ?_ (by first | exact Nat.le_refl _ | (simp; done) | (simp; omega)) _ | refine Ext.trans ?_ (by assumption)))) pow10_g Htab.out)).mono ?_; rintro e w_known ⟨rfl, hx_known⟩) | (go_at_call 20; (with_reducible refine (refTime_any _ _).mono ?_); rintro e w' ⟨rfl, rfl⟩) | (go_at_call 21; (with_reducible refine (refSkew_any _ _).mono ?_); rintro e w' ⟨rfl, rfl⟩) | (go_at_call 22; (with_reducible refine (within_any _ _ _ _).mono ?_); rintro e w_within ⟨rfl, hx_within⟩; have hc_within := hx_within.cells; have hf_within := hx_within.frozens))
  all_goals go_ret
  all_goals first | exact ⟨rfl, (by repeat (first | exact Ext.refl _ | assumption | refine Ext.drew ?_ | refine Ext.alloc ?_ _ | refine Ext.setCell ?_ (by first | exact Nat.le_refl _ | (simp; done) | (simp; omega)) _ | refine Ext.trans ?_ (by assumption)))⟩ | exact ⟨ret_bool (by show (_ || _) = true; simp; omega), (by repeat (first | exact Ext.refl _ | assumption | refine Ext.drew ?_ | refine Ext.alloc ?_ _ | refine Ext.setCell ?_ (by first | exact Nat.le_refl _ | (simp; done) | (simp; omega)) _ | refine Ext.trans ?_ (by assumption)))⟩
end Go.Proofs.YtdpjkocpdomkbaaDoor
