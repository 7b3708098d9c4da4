/- Contracts of the reference's Initial, Derive, Renew (watchwordref13). No condition. -/
import Derived.Test.YtdpjkocpdomkbaaDoorRefB
namespace Go.Proofs.YtdpjkocpdomkbaaDoor
open Go.RowKit
/-- The first of some tests that fails, or none. -/
theorem chain2 (b1 b2 : Bool) : (b1 = false) ∨ (b1 = true ∧ b2 = false) ∨ (b1 = true ∧ b2 = true) := by
  cases b1 <;> cases b2 <;> simp
/-- The first of some tests that fails, or none. -/
theorem chain3 (b1 b2 b3 : Bool) : (b1 = false) ∨ (b1 = true ∧ b2 = false) ∨ (b1 = true ∧ b2 = true ∧ b3 = false) ∨ (b1 = true ∧ b2 = true ∧ b3 = true) := by
  cases b1 <;> cases b2 <;> cases b3 <;> simp
/-- The first of some tests that fails, or none. -/
theorem chain4 (b1 b2 b3 b4 : Bool) : (b1 = false) ∨ (b1 = true ∧ b2 = false) ∨ (b1 = true ∧ b2 = true ∧ b3 = false) ∨ (b1 = true ∧ b2 = true ∧ b3 = true ∧ b4 = false) ∨ (b1 = true ∧ b2 = true ∧ b3 = true ∧ b4 = true) := by
  cases b1 <;> cases b2 <;> cases b3 <;> cases b4 <;> simp
/-- The first of some tests that fails, or none. -/
theorem chain5 (b1 b2 b3 b4 b5 : Bool) : (b1 = false) ∨ (b1 = true ∧ b2 = false) ∨ (b1 = true ∧ b2 = true ∧ b3 = false) ∨ (b1 = true ∧ b2 = true ∧ b3 = true ∧ b4 = false) ∨ (b1 = true ∧ b2 = true ∧ b3 = true ∧ b4 = true ∧ b5 = false) ∨ (b1 = true ∧ b2 = true ∧ b3 = true ∧ b4 = true ∧ b5 = true) := by
  cases b1 <;> cases b2 <;> cases b3 <;> cases b4 <;> cases b5 <;> simp
/-- The first of some tests that fails, or none. -/
theorem chain6 (b1 b2 b3 b4 b5 b6 : Bool) : (b1 = false) ∨ (b1 = true ∧ b2 = false) ∨ (b1 = true ∧ b2 = true ∧ b3 = false) ∨ (b1 = true ∧ b2 = true ∧ b3 = true ∧ b4 = false) ∨ (b1 = true ∧ b2 = true ∧ b3 = true ∧ b4 = true ∧ b5 = false) ∨ (b1 = true ∧ b2 = true ∧ b3 = true ∧ b4 = true ∧ b5 = true ∧ b6 = false) ∨ (b1 = true ∧ b2 = true ∧ b3 = true ∧ b4 = true ∧ b5 = true ∧ b6 = true) := by
  cases b1 <;> cases b2 <;> cases b3 <;> cases b4 <;> cases b5 <;> cases b6 <;> simp
/-- Limits, wish and clock are fit. -/
def okInit (f till wish life renew now k : Int) : Bool := okTimes [f, till, wish] && limitsOk life renew && okTimes [now] && (decide (0 ≤ k) && decide (k ≤ 86400))
/-- The initial times, or the error. -/
def initialR (f till wish life renew now k : Int) : (Int × Int × Int × Int) × Int :=
  if okInit f till wish life renew now k = true then freshR now (if now + k < f then f else now) till wish life renew 1099511627776 1099511627776 else ((0, 0, 0, 0), 2)
theorem initialR_bad {f till wish life renew now k : Int} (h : okInit f till wish life renew now k = false) : initialR f till wish life renew now k = ((0, 0, 0, 0), 2) := by
  unfold initialR; rw [if_neg (by simp [h])]
theorem initialR_ok {f till wish life renew now k s : Int} (h : okInit f till wish life renew now k = true) (hs : s = if now + k < f then f else now) : initialR f till wish life renew now k = freshR now s till wish life renew 1099511627776 1099511627776 := by
  unfold initialR; rw [if_pos h, hs]
theorem badT_false {x : Int} (h : (!badT x) = true) : 0 ≤ x ∧ x ≤ 1099511627776 := by
  simp [badT_def] at h; omega
theorem limitsOk_true {a b : Int} (h : limitsOk a b = true) : 1 ≤ a ∧ a ≤ 2147483648 ∧ 0 ≤ b ∧ b ≤ 2147483648 := by
  simp [limitsOk_def] at h; omega
theorem okInit_eq (f till wish life renew now k : Int) : okInit f till wish life renew now k = ((!badT f) && (!badT till) && (!badT wish) && limitsOk life renew && (!badT now) && (decide (0 ≤ k) && decide (k ≤ 86400))) := by
  unfold okInit; rw [okTimes3, okTimes1]
attribute [irreducible] initialR okInit
set_option maxHeartbeats 3200000 in
theorem refInitial_any (f till wish life renew now k : Int) (w : World) :
    Calls Tryd.prog 11 #[.int .i64 f, .int .i64 till, .int .i64 wish, .int .i64 life, .int .i64 renew, .int .i64 now, .int .i64 k] w (TimesPost (initialR f till wish life renew now k) w) := by
  have Ho := Lib.hid (okInit_eq f till wish life renew now k)
  go_enter Tryd.func11, Tryd.ntmps11
  rcases chain6 (!badT f) (!badT till) (!badT wish) (limitsOk life renew) (!badT now) (decide (0 ≤ k) && decide (k ≤ 86400)) with h | ⟨h1, h⟩ | ⟨h1, h2, h⟩ | ⟨h1, h2, h3, h⟩ | ⟨h1, h2, h3, h4, h⟩ | ⟨h1, h2, h3, h4, h5, h⟩ | ⟨h1, h2, h3, h4, h5, h6⟩
  case' inr.inr.inr.inr.inr.inr =>
    have ho : okInit f till wish life renew now k = true := by rw [Ho.out, h1, h2, h3, h4, h5, h6]; rfl
    obtain ⟨_, _⟩ := badT_false h1
    obtain ⟨_, _⟩ := badT_false h5
    obtain ⟨_, _, _, _⟩ := limitsOk_true h4
    obtain ⟨_, _⟩ : 0 ≤ k ∧ k ≤ 86400 := by simpa using h6
    by_cases hl : now + k < f
  case' inl => have ho : okInit f till wish life renew now k = false := by rw [Ho.out, h]; rfl
  case' inr.inl => have ho : okInit f till wish life renew now k = false := by rw [Ho.out, h1, h]; rfl
  case' inr.inr.inl => have ho : okInit f till wish life renew now k = false := by rw [Ho.out, h1, h2, h]; rfl
  case' inr.inr.inr.inl => have ho : okInit f till wish life renew now k = false := by rw [Ho.out, h1, h2, h3, h]; rfl
  case' inr.inr.inr.inr.inl => have ho : okInit f till wish life renew now k = false := by rw [Ho.out, h1, h2, h3, h4, h]; rfl
  case' inr.inr.inr.inr.inr.inl => have ho : okInit f till wish life renew now k = false := by rw [Ho.out, h1, h2, h3, h4, h5, h]; rfl
  all_goals
    have HO := Lib.hid ho
    clear ho
    go_wp2_with (first | (go_at_call 20; (with_reducible refine (refTime_any _ _).mono ?_); rintro e w' ⟨rfl, rfl⟩) | (go_at_call 21; (with_reducible refine (refSkew_any _ _).mono ?_); rintro e w' ⟨rfl, rfl⟩) | (go_at_call 38; (with_reducible refine (refLimits_any _ _ _).mono ?_); rintro e w' ⟨rfl, rfl⟩) | (go_at_call 39; (with_reducible refine (fresh_any _ _ _ _ _ _ _ _ _ (by omega) (by omega) (by omega) (by omega) (by omega) (by omega)).mono ?_); rintro e w_fresh ⟨ta, ts, tt, tr, te, rfl, hq, hx_fresh⟩; have hc_fresh := hx_fresh.cells; have hf_fresh := hx_fresh.frozens))
  all_goals first | go_returns | refine bodyPost_ret (v := .tuple #[.agg #[.int .i64 ta, .int .i64 ts, .int .i64 tt, .int .i64 tr], .int .i64 te]) (by simp [results, Tryd.results11, go_sem, hc_fresh]) rfl ?_
  all_goals refine ⟨_, _, _, _, _, rfl, ?_, (by repeat (first | exact Ext.refl _ | assumption | refine Ext.drew ?_ | refine Ext.alloc ?_ _ | refine Ext.setCell ?_ (by first | exact Nat.le_refl _ | (simp; done) | (simp; omega)) _ | refine Ext.trans ?_ (by assumption)))⟩
  all_goals first
    | exact initialR_bad HO.out
    | (refine (initialR_ok HO.out ?_).trans hq.out; split <;> omega)
/-- Limits and wish are fit. -/
def okWish (f till wish life renew : Int) : Bool := okTimes [f, till, wish] && limitsOk life renew
theorem okWish_eq (f till wish life renew : Int) : okWish f till wish life renew = ((!badT f) && (!badT till) && (!badT wish) && limitsOk life renew) := by
  unfold okWish; rw [okTimes3]
/-- The derived times, or the error. -/
def deriveR (a s t r f till wish life renew now k : Int) : (Int × Int × Int × Int) × Int :=
  if okWish f till wish life renew = false then ((0, 0, 0, 0), 2) else if usableR a s t r now k ≠ 0 then ((0, 0, 0, 0), usableR a s t r now k)
  else freshR a (if now + k < f then f else max now a) till wish life renew t r
theorem deriveR_bad {a s t r f till wish life renew now k : Int} (h : okWish f till wish life renew = false) : deriveR a s t r f till wish life renew now k = ((0, 0, 0, 0), 2) := by
  unfold deriveR; rw [if_pos h]
theorem deriveR_un {a s t r f till wish life renew now k : Int} (h : okWish f till wish life renew = true) (hu : usableR a s t r now k ≠ 0) : deriveR a s t r f till wish life renew now k = ((0, 0, 0, 0), usableR a s t r now k) := by
  unfold deriveR; rw [if_neg (by simp [h]), if_pos hu]
theorem deriveR_ok {a s t r f till wish life renew now k st : Int} (h : okWish f till wish life renew = true) (hu : usableR a s t r now k = 0) (hs : st = if now + k < f then f else max now a) : deriveR a s t r f till wish life renew now k = freshR a st till wish life renew t r := by
  unfold deriveR; rw [if_neg (by simp [h]), if_neg (by simp [hu]), hs]
attribute [irreducible] deriveR okWish
set_option maxHeartbeats 3200000 in
theorem refDerive_any (a s t r f till wish life renew now k : Int) (w : World) :
    Calls Tryd.prog 14 #[.agg #[.int .i64 a, .int .i64 s, .int .i64 t, .int .i64 r], .int .i64 f, .int .i64 till, .int .i64 wish, .int .i64 life, .int .i64 renew, .int .i64 now, .int .i64 k] w (TimesPost (deriveR a s t r f till wish life renew now k) w) := by
  have Ho := Lib.hid (okWish_eq f till wish life renew)
  go_enter Tryd.func14, Tryd.ntmps14
  rcases chain4 (!badT f) (!badT till) (!badT wish) (limitsOk life renew) with h | ⟨h1, h⟩ | ⟨h1, h2, h⟩ | ⟨h1, h2, h3, h⟩ | ⟨h1, h2, h3, h4⟩
  case' inr.inr.inr.inr =>
    have ho : okWish f till wish life renew = true := by rw [Ho.out, h1, h2, h3, h4]; rfl
    obtain ⟨_, _⟩ := badT_false h1
    obtain ⟨_, _, _, _⟩ := limitsOk_true h4
    by_cases hu : usableR a s t r now k = 0
  case' pos =>
    have h0 := usableR_zero hu
    have h1' := validT_true h0.1
    obtain ⟨_, ⟨_, _⟩, ⟨_, _⟩, _, _⟩ := h0
    obtain ⟨⟨_, _⟩, ⟨_, _⟩, ⟨_, _⟩, ⟨_, _⟩, _, _, h3'⟩ := h1'
    clear h3'
    by_cases hl : now + k < f
  case' inl => have ho : okWish f till wish life renew = false := by rw [Ho.out, h]; rfl
  case' inr.inl => have ho : okWish f till wish life renew = false := by rw [Ho.out, h1, h]; rfl
  case' inr.inr.inl => have ho : okWish f till wish life renew = false := by rw [Ho.out, h1, h2, h]; rfl
  case' inr.inr.inr.inl => have ho : okWish f till wish life renew = false := by rw [Ho.out, h1, h2, h3, h]; rfl
  all_goals
    have HO := Lib.hid ho
    clear ho
    go_wp2_with (first | (go_at_call 20; (with_reducible refine (refTime_any _ _).mono ?_); rintro e w' ⟨rfl, rfl⟩) | (go_at_call 24; (with_reducible refine (refUsable_any _ _ _ _ _ _ _).mono ?_); rintro e w_refUsable ⟨rfl, hx_refUsable⟩; try (have hz0_refUsable : w.heap.size < w_refUsable.heap.size := (by have := hx_refUsable.sz; (try simp at this); omega)); try (have hr0_refUsable := fun i => hx_refUsable.cells (w.heap.size) i (by first | assumption | (simp; done) | (simp; omega))); try (have hf0_refUsable := fun i => hx_refUsable.frozens (w.heap.size) i (by first | assumption | (simp; done) | (simp; omega))); try (have hz1_refUsable : w.heap.size + 1 < w_refUsable.heap.size := (by have := hx_refUsable.sz; (try simp at this); omega)); try (have hr1_refUsable := fun i => hx_refUsable.cells (w.heap.size + 1) i (by first | assumption | (simp; done) | (simp; omega))); try (have hf1_refUsable := fun i => hx_refUsable.frozens (w.heap.size + 1) i (by first | assumption | (simp; done) | (simp; omega)))) | (go_at_call 38; (with_reducible refine (refLimits_any _ _ _).mono ?_); rintro e w' ⟨rfl, rfl⟩) | (go_at_call 39; (with_reducible refine (fresh_any _ _ _ _ _ _ _ _ _ (by omega) (by omega) (by omega) (by omega) (by omega) (by omega)).mono ?_); rintro e w_fresh ⟨ta, ts, tt, tr, te, rfl, hq, hx_fresh⟩; try (have hz0_fresh : w.heap.size < w_fresh.heap.size := (by have := hx_fresh.sz; (try simp at this); omega)); try (have hr0_fresh := fun i => hx_fresh.cells (w.heap.size) i (by first | assumption | (simp; done) | (simp; omega))); try (have hf0_fresh := fun i => hx_fresh.frozens (w.heap.size) i (by first | assumption | (simp; done) | (simp; omega))); try (have hz1_fresh : w.heap.size + 1 < w_fresh.heap.size := (by have := hx_fresh.sz; (try simp at this); omega)); try (have hr1_fresh := fun i => hx_fresh.cells (w.heap.size + 1) i (by first | assumption | (simp; done) | (simp; omega))); try (have hf1_fresh := fun i => hx_fresh.frozens (w.heap.size + 1) i (by first | assumption | (simp; done) | (simp; omega)))))
  all_goals first | go_returns | refine bodyPost_ret (v := .tuple #[.agg #[.int .i64 ta, .int .i64 ts, .int .i64 tt, .int .i64 tr], .int .i64 te]) (by simp [results, Tryd.results14, go_sem, hr1_fresh, hr1_refUsable]) rfl ?_ | refine bodyPost_ret (by simp [results, Tryd.results14, go_sem, hr1_refUsable]; try rfl) rfl ?_
  all_goals refine ⟨_, _, _, _, _, rfl, ?_, (by repeat (first | exact Ext.refl _ | assumption | refine Ext.drew ?_ | refine Ext.alloc ?_ _ | refine Ext.setCell ?_ (by first | exact Nat.le_refl _ | (simp; done) | (simp; omega)) _ | refine Ext.trans ?_ (by assumption)))⟩
  all_goals first
    | exact deriveR_bad HO.out
    | exact deriveR_un HO.out (by assumption)
    | (refine (deriveR_ok HO.out (by assumption) ?_).trans hq.out; split <;> omega)
/-- The renewed times, or the error. -/
def renewR (a s t r now k : Int) : (Int × Int × Int × Int) × Int :=
  if usableR a s t r now k ≠ 0 then ((0, 0, 0, 0), usableR a s t r now k) else if renewableR a s t r now k = false then ((0, 0, 0, 0), 142)
  else if min (max now a + t - s) r ≤ max now a then ((0, 0, 0, 0), 143) else ((a, max now a, min (max now a + t - s) r, r), 0)
theorem renewR_un {a s t r now k : Int} (hu : usableR a s t r now k ≠ 0) : renewR a s t r now k = ((0, 0, 0, 0), usableR a s t r now k) := by
  unfold renewR; rw [if_pos hu]
theorem renewR_not {a s t r now k : Int} (hu : usableR a s t r now k = 0) (hr : renewableR a s t r now k = false) : renewR a s t r now k = ((0, 0, 0, 0), 142) := by
  unfold renewR; rw [if_neg (by simp [hu]), if_pos hr]
theorem renewR_never {a s t r now k st en : Int} (hu : usableR a s t r now k = 0) (hr : renewableR a s t r now k = true) (h1 : st = max now a) (h2 : en = min (st + t - s) r) (h3 : en ≤ st) : renewR a s t r now k = ((0, 0, 0, 0), 143) := by
  unfold renewR; rw [if_neg (by simp [hu]), if_neg (by simp [hr]), ← h1, ← h2, if_pos h3]
theorem renewR_ok {a s t r now k st en : Int} (hu : usableR a s t r now k = 0) (hr : renewableR a s t r now k = true) (h1 : st = max now a) (h2 : en = min (st + t - s) r) (h3 : ¬ en ≤ st) : renewR a s t r now k = ((a, st, en, r), 0) := by
  unfold renewR; rw [if_neg (by simp [hu]), if_neg (by simp [hr]), ← h1, ← h2, if_neg h3]
attribute [irreducible] renewR
set_option maxHeartbeats 3200000 in
theorem refRenew_any (a s t r now k : Int) (w : World) :
    Calls Tryd.prog 16 #[.agg #[.int .i64 a, .int .i64 s, .int .i64 t, .int .i64 r], .int .i64 now, .int .i64 k] w (TimesPost (renewR a s t r now k) w) := by
  go_enter Tryd.func16, Tryd.ntmps16
  by_cases hu : usableR a s t r now k = 0
  case neg =>
    go_wp2_with (first | (go_at_call 24; (with_reducible refine (refUsable_any _ _ _ _ _ _ _).mono ?_); rintro e w_refUsable ⟨rfl, hx_refUsable⟩; try (have hz0_refUsable : w.heap.size < w_refUsable.heap.size := (by have := hx_refUsable.sz; (try simp at this); omega)); try (have hr0_refUsable := fun i => hx_refUsable.cells (w.heap.size) i (by first | assumption | (simp; done) | (simp; omega))); try (have hf0_refUsable := fun i => hx_refUsable.frozens (w.heap.size) i (by first | assumption | (simp; done) | (simp; omega))); try (have hz1_refUsable : w.heap.size + 1 < w_refUsable.heap.size := (by have := hx_refUsable.sz; (try simp at this); omega)); try (have hr1_refUsable := fun i => hx_refUsable.cells (w.heap.size + 1) i (by first | assumption | (simp; done) | (simp; omega))); try (have hf1_refUsable := fun i => hx_refUsable.frozens (w.heap.size + 1) i (by first | assumption | (simp; done) | (simp; omega)))))
    refine bodyPost_ret (by simp [results, Tryd.results16, go_sem, hr1_refUsable]; try rfl) rfl ?_
    exact ⟨_, _, _, _, _, rfl, renewR_un hu, (by repeat (first | exact Ext.refl _ | assumption | refine Ext.drew ?_ | refine Ext.alloc ?_ _ | refine Ext.setCell ?_ (by first | exact Nat.le_refl _ | (simp; done) | (simp; omega)) _ | refine Ext.trans ?_ (by assumption)))⟩
  case pos =>
    have h0 := usableR_zero hu
    have h1' := validT_true h0.1
    obtain ⟨_, ⟨_, _⟩, ⟨_, _⟩, _, _⟩ := h0
    obtain ⟨⟨_, _⟩, ⟨_, _⟩, ⟨_, _⟩, ⟨_, _⟩, _, _, h3'⟩ := h1'
    clear h3'
    cases hr : renewableR a s t r now k
    case' true => by_cases hna : now < a
    all_goals go_wp2_with (first | (go_at_call 24; (with_reducible refine (refUsable_any _ _ _ _ _ _ _).mono ?_); rintro e w_refUsable ⟨rfl, hx_refUsable⟩; try (have hz0_refUsable : w.heap.size < w_refUsable.heap.size := (by have := hx_refUsable.sz; (try simp at this); omega)); try (have hr0_refUsable := fun i => hx_refUsable.cells (w.heap.size) i (by first | assumption | (simp; done) | (simp; omega))); try (have hf0_refUsable := fun i => hx_refUsable.frozens (w.heap.size) i (by first | assumption | (simp; done) | (simp; omega))); try (have hz1_refUsable : w.heap.size + 1 < w_refUsable.heap.size := (by have := hx_refUsable.sz; (try simp at this); omega)); try (have hr1_refUsable := fun i => hx_refUsable.cells (w.heap.size + 1) i (by first | assumption | (simp; done) | (simp; omega))); try (have hf1_refUsable := fun i => hx_refUsable.frozens (w.heap.size + 1) i (by first | assumption | (simp; done) | (simp; omega)))) | (go_at_call 25; (with_reducible refine (refRenewable_any _ _ _ _ _ _ _).mono ?_); rintro e w_refRenewable ⟨rfl, hx_refRenewable⟩; try (have hz0_refRenewable : w.heap.size < w_refRenewable.heap.size := (by have := hx_refRenewable.sz; (try simp at this); omega)); try (have hr0_refRenewable := fun i => hx_refRenewable.cells (w.heap.size) i (by first | assumption | (simp; done) | (simp; omega))); try (have hf0_refRenewable := fun i => hx_refRenewable.frozens (w.heap.size) i (by first | assumption | (simp; done) | (simp; omega))); try (have hz1_refRenewable : w.heap.size + 1 < w_refRenewable.heap.size := (by have := hx_refRenewable.sz; (try simp at this); omega)); try (have hr1_refRenewable := fun i => hx_refRenewable.cells (w.heap.size + 1) i (by first | assumption | (simp; done) | (simp; omega))); try (have hf1_refRenewable := fun i => hx_refRenewable.frozens (w.heap.size + 1) i (by first | assumption | (simp; done) | (simp; omega)))) | (go_at_call 43; (with_reducible refine (least_blk2 _ _ (by first | with_reducible exact heap_new _ _ | with_reducible exact heap_new2 _ _ _ | with_reducible exact heap_new3 _ _ _ _ | with_reducible exact heap_new4 _ _ _ _ _ | with_reducible exact heap_new5 _ _ _ _ _ _ | with_reducible exact heap_new6 _ _ _ _ _ _ _ | with_reducible exact heap_new7 _ _ _ _ _ _ _ _ | with_reducible exact heap_new8 _ _ _ _ _ _ _ _ _ | with_reducible exact heap_new9 _ _ _ _ _ _ _ _ _ _ | with_reducible exact heap_new10 _ _ _ _ _ _ _ _ _ _ _)).mono ?_); rintro e w' ⟨rfl, rfl⟩))
    all_goals refine bodyPost_ret (by simp [results, Tryd.results16, go_sem, hr1_refUsable, hr1_refRenewable, hz1_refRenewable]; try rfl) rfl ?_
    all_goals refine ⟨_, _, _, _, _, rfl, ?_, (by repeat (first | exact Ext.refl _ | assumption | refine Ext.drew ?_ | refine Ext.alloc ?_ _ | refine Ext.setCell ?_ (by first | exact Nat.le_refl _ | (simp; done) | (simp; omega)) _ | refine Ext.trans ?_ (by assumption)))⟩
    all_goals first
      | exact renewR_not (by assumption) (by assumption)
      | exact renewR_never (st := a) (by assumption) (by assumption) (by omega) (leastL_2 _ _) (by assumption)
      | exact renewR_never (st := now) (by assumption) (by assumption) (by omega) (leastL_2 _ _) (by assumption)
      | exact renewR_ok (by assumption) (by assumption) (by omega) (leastL_2 _ _) (by omega)
end Go.Proofs.YtdpjkocpdomkbaaDoor
