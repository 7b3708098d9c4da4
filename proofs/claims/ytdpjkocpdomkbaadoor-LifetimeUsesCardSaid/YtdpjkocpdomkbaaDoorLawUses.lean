/- The law LifetimeUses: every call returns true. The table of powers of ten as the program lays it. -/
import Derived.Test.YtdpjkocpdomkbaaDoorKnown
namespace Go.Proofs.YtdpjkocpdomkbaaDoor
open Go.RowKit
def leftR (a s t r now : Int) : Int := if (validT a s t r && okTimes [now]) = true then max 0 (t - now) else 0
theorem leftR_def (a s t r now : Int) : leftR a s t r now = if (validT a s t r && okTimes [now]) = true then max 0 (t - now) else 0 := rfl
attribute [irreducible] leftR
theorem left_eq (a s t r now x : Int) (h : leftR a s t r now = x) (w : World) :
    Calls Tryd.prog 26 #[.agg #[.int .i64 a, .int .i64 s, .int .i64 t, .int .i64 r], .int .i64 now] w fun e w' => e = .returned (.int .i64 x) ∧ Ext w w' :=
  (left_any a s t r now w).mono fun e w' q => by rw [← h, leftR_def]; exact q
set_option maxRecDepth 8000 in
set_option maxHeartbeats 6400000 in
theorem lawUses_any (a s t r now k : Int) (w : World) (htab : Lib.TabIs Tryd.prog w "internal/strconv.uint64pow10" .u64 Lib.pow10Tab) :
    Calls Tryd.prog 8 #[.agg #[.int .i64 a, .int .i64 s, .int .i64 t, .int .i64 r], .int .i64 now, .int .i64 k] w fun e w' => e = .returned (.bool true) ∧ Ext w w' := by
  have Htab := Lib.hid htab
  clear htab
  go_enter Tryd.func8, Tryd.ntmps8
  rcases chain3 (validT a s t r) (!badT now) (decide (now < t)) with h | ⟨h1, h⟩ | ⟨h1, h2, h⟩ | ⟨h1, h2, h3⟩
  case' inl => have hL : leftR a s t r now = 0 := by rw [leftR_def, h]; rfl
  case' inr.inl => have hL : leftR a s t r now = 0 := by rw [leftR_def, h1, okTimes1, h]; rfl
  case' inr.inr.inl => have hL : leftR a s t r now = 0 := by rw [leftR_def, h1, okTimes1, h2]; simp at h; simp; omega
  case' inr.inr.inr => have hL : leftR a s t r now = t - now := by rw [leftR_def, h1, okTimes1, h2]; simp at h3; simp; omega
  case' inr.inr.inr =>
    obtain ⟨_, _, ⟨_, _⟩, _⟩ := validT_true h1
    obtain ⟨_, _⟩ : 0 ≤ now ∧ now ≤ 1099511627776 := by simp [badT_def] at h2; omega
  all_goals
    have HL := Lib.hid hL
    clear hL
    go_upto_region 4 with (first | (go_at_call 23; (with_reducible refine (refValid_any _ _ _ _ _).mono ?_); rintro e w_refValid ⟨rfl, hx_refValid⟩; try (have hz0_refValid : w.heap.size < w_refValid.heap.size := (by have := hx_refValid.sz; (try simp at this); omega)); try (have hr0_refValid := fun i => hx_refValid.cells (w.heap.size) i (by first | assumption | (simp; done) | (simp; omega))); try (have hf0_refValid := fun i => hx_refValid.frozens (w.heap.size) i (by first | assumption | (simp; done) | (simp; omega))); try (have hz1_refValid : w.heap.size + 1 < w_refValid.heap.size := (by have := hx_refValid.sz; (try simp at this); omega)); try (have hr1_refValid := fun i => hx_refValid.cells (w.heap.size + 1) i (by first | assumption | (simp; done) | (simp; omega))); try (have hf1_refValid := fun i => hx_refValid.frozens (w.heap.size + 1) i (by first | assumption | (simp; done) | (simp; omega))); try (have hz2_refValid : w.heap.size + 1 + 1 < w_refValid.heap.size := (by have := hx_refValid.sz; (try simp at this); omega)); try (have hr2_refValid := fun i => hx_refValid.cells (w.heap.size + 1 + 1) i (by first | assumption | (simp; done) | (simp; omega))); try (have hf2_refValid := fun i => hx_refValid.frozens (w.heap.size + 1 + 1) i (by first | assumption | (simp; done) | (simp; omega))); try (have hz3_refValid : w.heap.size + 1 + 1 + 1 < w_refValid.heap.size := (by have := hx_refValid.sz; (try simp at this); omega)); try (have hr3_refValid := fun i => hx_refValid.cells (w.heap.size + 1 + 1 + 1) i (by first | assumption | (simp; done) | (simp; omega))); try (have hf3_refValid := fun i => hx_refValid.frozens (w.heap.size + 1 + 1 + 1) i (by first | assumption | (simp; done) | (simp; omega)))) | (go_at_call 20; (with_reducible refine (refTime_any _ _).mono ?_); rintro e w' ⟨rfl, rfl⟩))
    have hB : BoxAt w_refValid w.heap.size #[.int .i64 a, .int .i64 s, .int .i64 t, .int .i64 r] := (BoxAt.new w #[.int .i64 a, .int .i64 s, .int .i64 t, .int .i64 r] 27).ext hx_refValid
  focus
    refine Dag.wp_region_facts [.val (.agg #[.int .i64 a, .int .i64 s, .int .i64 t, .int .i64 r]), .val (.bool (validT a s t r)), .val (.agg #[.int .i64 a, .int .i64 s, .int .i64 t, .int .i64 r]), .val (.bool (validT a s t r)), .val (.bool true), .val (.bool true), .val (.agg #[.int .i64 a, .int .i64 s, .int .i64 t, .int .i64 r]), .val (.int .i64 now), .val (.int .i64 k), .val (.int .i64 (usableR a s t r now k)), .val (.agg #[.int .i64 a, .int .i64 s, .int .i64 t, .int .i64 r]), .val (.int .i64 now), .val (.int .i64 k), .val (.int .i64 (usableR a s t r now k)), .val (.bool true), .val (.bool true), .val (.bool true), .val (.agg #[.int .i64 a, .int .i64 s, .int .i64 t, .int .i64 r]), .val (.int .i64 now), .val (.int .i64 k), .val (.bool (renewableR a s t r now k)), .val (.agg #[.int .i64 a, .int .i64 s, .int .i64 t, .int .i64 r]), .val (.int .i64 now), .val (.int .i64 k), .val (.bool (renewableR a s t r now k)), .val (.bool true), .val (.bool true), .val (.bool true), .val (.agg #[.int .i64 a, .int .i64 s, .int .i64 t, .int .i64 r]), .val (.int .i64 now), .val (.int .i64 (t - now)), .val (.int .i64 (t - now)), .val (.bool true), .val (.bool true), .val (.bool true), .val (.bool true), .val (.bool true), .val (.bool true)] [some 24, some 25, some 26, some 27, some 28, some 29, some 30, some 31, some 32, some 33, some 34, some 35, some 36, some 37, some 38, some 39, some 40, some 41, some 42, some 43, some 44, some 45, some 46, some 47, some 48, some 49, some 50, some 51, some 52, some 53, some 54, some 55, some 56, some 57, some 58, some 59, some 60, some 6] (by kernel_rfl) (by kernel_rfl) (by kernel_rfl) ⟨?_, ?_, ?_, ?_, ?_, ?_, ?_, ?_, ?_, ?_, ?_, ?_, ?_, ?_, ?_, ?_, ?_, ?_, ?_, ?_, ?_, ?_, ?_, ?_, ?_, ?_, ?_, ?_, ?_, ?_, ?_, ?_, ?_, ?_, ?_, ?_, ?_, ?_, trivial⟩ ?_
    · intro a' w' K hext hsees hK
      have y3 : a'.tmps[3]? = some (.pointer (some ⟨w.heap.size, 0, none⟩)) := (hsees.old (t := 3) (by kernel_rfl) (by kernel_rfl)).trans rfl
      have e3 := Dag.eval_of y3
      refine Dag.wpOp_lit rfl ?_
      have hb2 := (hB.ext (by first | exact (Ext.refl _).drew.trans hext | exact (Ext.refl _).drew.drew.trans hext)).2
      go_simp
      exact hK _ _ rfl (Ext.refl _)
    · intro a' w' K hext hsees hK
      obtain ⟨v24, y24, f24⟩ := hsees.new (t := 24) (j := 0) (by kernel_rfl) (by kernel_rfl)
      obtain rfl : v24 = (.agg #[.int .i64 a, .int .i64 s, .int .i64 t, .int .i64 r]) := f24
      have e24 := Dag.eval_of y24
      refine Dag.wpOp_lit rfl ?_
      go_simp
      refine (valid_any _ _ _ _ _).mono ?_
      rintro e w_c ⟨rfl, hx_c⟩
      exact hK _ _ rfl hx_c
    · intro a' w' K hext hsees hK
      have y3 : a'.tmps[3]? = some (.pointer (some ⟨w.heap.size, 0, none⟩)) := (hsees.old (t := 3) (by kernel_rfl) (by kernel_rfl)).trans rfl
      have e3 := Dag.eval_of y3
      refine Dag.wpOp_lit rfl ?_
      have hb2 := (hB.ext (by first | exact (Ext.refl _).drew.trans hext | exact (Ext.refl _).drew.drew.trans hext)).2
      go_simp
      exact hK _ _ rfl (Ext.refl _)
    · intro a' w' K hext hsees hK
      obtain ⟨v26, y26, f26⟩ := hsees.new (t := 26) (j := 2) (by kernel_rfl) (by kernel_rfl)
      obtain rfl : v26 = (.agg #[.int .i64 a, .int .i64 s, .int .i64 t, .int .i64 r]) := f26
      have e26 := Dag.eval_of y26
      refine Dag.wpOp_lit rfl ?_
      go_simp
      refine (refValid_any _ _ _ _ _).mono ?_
      rintro e w_c ⟨rfl, hx_c⟩
      exact hK _ _ rfl hx_c
    · intro a' w' K hext hsees hK
      obtain ⟨v25, y25, f25⟩ := hsees.new (t := 25) (j := 1) (by kernel_rfl) (by kernel_rfl)
      obtain rfl : v25 = (.bool (validT a s t r)) := f25
      have e25 := Dag.eval_of y25
      obtain ⟨v27, y27, f27⟩ := hsees.new (t := 27) (j := 3) (by kernel_rfl) (by kernel_rfl)
      obtain rfl : v27 = (.bool (validT a s t r)) := f27
      have e27 := Dag.eval_of y27
      refine Dag.wpOp_lit rfl ?_
      go_simp
      exact hK _ _ rfl (Ext.refl _)
    · intro a' w' K hext hsees hK
      obtain ⟨v28, y28, f28⟩ := hsees.new (t := 28) (j := 4) (by kernel_rfl) (by kernel_rfl)
      obtain rfl : v28 = (.bool true) := f28
      have e28 := Dag.eval_of y28
      refine Dag.wpOp_lit rfl ?_
      go_simp
      exact hK _ _ rfl (Ext.refl _)
    · intro a' w' K hext hsees hK
      have y3 : a'.tmps[3]? = some (.pointer (some ⟨w.heap.size, 0, none⟩)) := (hsees.old (t := 3) (by kernel_rfl) (by kernel_rfl)).trans rfl
      have e3 := Dag.eval_of y3
      obtain ⟨v29, y29, f29⟩ := hsees.new (t := 29) (j := 5) (by kernel_rfl) (by kernel_rfl)
      obtain rfl : v29 = (.bool true) := f29
      have e29 := Dag.eval_of y29
      refine Dag.wpOp_lit rfl ?_
      have hb2 := (hB.ext (by first | exact (Ext.refl _).drew.trans hext | exact (Ext.refl _).drew.drew.trans hext)).2
      go_simp
      exact hK _ _ rfl (Ext.refl _)
    · intro a' w' K hext hsees hK
      have y1 : a'.tmps[1]? = some (.int .i64 now) := (hsees.old (t := 1) (by kernel_rfl) (by kernel_rfl)).trans rfl
      have e1 := Dag.eval_of y1
      obtain ⟨v29, y29, f29⟩ := hsees.new (t := 29) (j := 5) (by kernel_rfl) (by kernel_rfl)
      obtain rfl : v29 = (.bool true) := f29
      have e29 := Dag.eval_of y29
      refine Dag.wpOp_lit rfl ?_
      go_simp
      exact hK _ _ rfl (Ext.refl _)
    · intro a' w' K hext hsees hK
      have y2 : a'.tmps[2]? = some (.int .i64 k) := (hsees.old (t := 2) (by kernel_rfl) (by kernel_rfl)).trans rfl
      have e2 := Dag.eval_of y2
      obtain ⟨v29, y29, f29⟩ := hsees.new (t := 29) (j := 5) (by kernel_rfl) (by kernel_rfl)
      obtain rfl : v29 = (.bool true) := f29
      have e29 := Dag.eval_of y29
      refine Dag.wpOp_lit rfl ?_
      go_simp
      exact hK _ _ rfl (Ext.refl _)
    · intro a' w' K hext hsees hK
      obtain ⟨v30, y30, f30⟩ := hsees.new (t := 30) (j := 6) (by kernel_rfl) (by kernel_rfl)
      obtain rfl : v30 = (.agg #[.int .i64 a, .int .i64 s, .int .i64 t, .int .i64 r]) := f30
      have e30 := Dag.eval_of y30
      obtain ⟨v31, y31, f31⟩ := hsees.new (t := 31) (j := 7) (by kernel_rfl) (by kernel_rfl)
      obtain rfl : v31 = (.int .i64 now) := f31
      have e31 := Dag.eval_of y31
      obtain ⟨v32, y32, f32⟩ := hsees.new (t := 32) (j := 8) (by kernel_rfl) (by kernel_rfl)
      obtain rfl : v32 = (.int .i64 k) := f32
      have e32 := Dag.eval_of y32
      obtain ⟨v29, y29, f29⟩ := hsees.new (t := 29) (j := 5) (by kernel_rfl) (by kernel_rfl)
      obtain rfl : v29 = (.bool true) := f29
      have e29 := Dag.eval_of y29
      refine Dag.wpOp_lit rfl ?_
      go_simp
      refine (usable_r _ _ _ _ _ _ _).mono ?_
      rintro e w_c ⟨rfl, hx_c⟩
      exact hK _ _ rfl hx_c
    · intro a' w' K hext hsees hK
      have y3 : a'.tmps[3]? = some (.pointer (some ⟨w.heap.size, 0, none⟩)) := (hsees.old (t := 3) (by kernel_rfl) (by kernel_rfl)).trans rfl
      have e3 := Dag.eval_of y3
      obtain ⟨v29, y29, f29⟩ := hsees.new (t := 29) (j := 5) (by kernel_rfl) (by kernel_rfl)
      obtain rfl : v29 = (.bool true) := f29
      have e29 := Dag.eval_of y29
      refine Dag.wpOp_lit rfl ?_
      have hb2 := (hB.ext (by first | exact (Ext.refl _).drew.trans hext | exact (Ext.refl _).drew.drew.trans hext)).2
      go_simp
      exact hK _ _ rfl (Ext.refl _)
    · intro a' w' K hext hsees hK
      have y1 : a'.tmps[1]? = some (.int .i64 now) := (hsees.old (t := 1) (by kernel_rfl) (by kernel_rfl)).trans rfl
      have e1 := Dag.eval_of y1
      obtain ⟨v29, y29, f29⟩ := hsees.new (t := 29) (j := 5) (by kernel_rfl) (by kernel_rfl)
      obtain rfl : v29 = (.bool true) := f29
      have e29 := Dag.eval_of y29
      refine Dag.wpOp_lit rfl ?_
      go_simp
      exact hK _ _ rfl (Ext.refl _)
    · intro a' w' K hext hsees hK
      have y2 : a'.tmps[2]? = some (.int .i64 k) := (hsees.old (t := 2) (by kernel_rfl) (by kernel_rfl)).trans rfl
      have e2 := Dag.eval_of y2
      obtain ⟨v29, y29, f29⟩ := hsees.new (t := 29) (j := 5) (by kernel_rfl) (by kernel_rfl)
      obtain rfl : v29 = (.bool true) := f29
      have e29 := Dag.eval_of y29
      refine Dag.wpOp_lit rfl ?_
      go_simp
      exact hK _ _ rfl (Ext.refl _)
    · intro a' w' K hext hsees hK
      obtain ⟨v34, y34, f34⟩ := hsees.new (t := 34) (j := 10) (by kernel_rfl) (by kernel_rfl)
      obtain rfl : v34 = (.agg #[.int .i64 a, .int .i64 s, .int .i64 t, .int .i64 r]) := f34
      have e34 := Dag.eval_of y34
      obtain ⟨v35, y35, f35⟩ := hsees.new (t := 35) (j := 11) (by kernel_rfl) (by kernel_rfl)
      obtain rfl : v35 = (.int .i64 now) := f35
      have e35 := Dag.eval_of y35
      obtain ⟨v36, y36, f36⟩ := hsees.new (t := 36) (j := 12) (by kernel_rfl) (by kernel_rfl)
      obtain rfl : v36 = (.int .i64 k) := f36
      have e36 := Dag.eval_of y36
      obtain ⟨v29, y29, f29⟩ := hsees.new (t := 29) (j := 5) (by kernel_rfl) (by kernel_rfl)
      obtain rfl : v29 = (.bool true) := f29
      have e29 := Dag.eval_of y29
      refine Dag.wpOp_lit rfl ?_
      go_simp
      refine (refUsable_any _ _ _ _ _ _ _).mono ?_
      rintro e w_c ⟨rfl, hx_c⟩
      exact hK _ _ rfl hx_c
    · intro a' w' K hext hsees hK
      obtain ⟨v33, y33, f33⟩ := hsees.new (t := 33) (j := 9) (by kernel_rfl) (by kernel_rfl)
      obtain rfl : v33 = (.int .i64 (usableR a s t r now k)) := f33
      have e33 := Dag.eval_of y33
      obtain ⟨v37, y37, f37⟩ := hsees.new (t := 37) (j := 13) (by kernel_rfl) (by kernel_rfl)
      obtain rfl : v37 = (.int .i64 (usableR a s t r now k)) := f37
      have e37 := Dag.eval_of y37
      obtain ⟨v29, y29, f29⟩ := hsees.new (t := 29) (j := 5) (by kernel_rfl) (by kernel_rfl)
      obtain rfl : v29 = (.bool true) := f29
      have e29 := Dag.eval_of y29
      refine Dag.wpOp_lit rfl ?_
      go_simp
      exact hK _ _ rfl (Ext.refl _)
    · intro a' w' K hext hsees hK
      obtain ⟨v29, y29, f29⟩ := hsees.new (t := 29) (j := 5) (by kernel_rfl) (by kernel_rfl)
      obtain rfl : v29 = (.bool true) := f29
      have e29 := Dag.eval_of y29
      obtain ⟨v38, y38, f38⟩ := hsees.new (t := 38) (j := 14) (by kernel_rfl) (by kernel_rfl)
      obtain rfl : v38 = (.bool true) := f38
      have e38 := Dag.eval_of y38
      refine Dag.wpOp_lit rfl ?_
      go_simp
      exact hK _ _ rfl (Ext.refl _)
    · intro a' w' K hext hsees hK
      obtain ⟨v39, y39, f39⟩ := hsees.new (t := 39) (j := 15) (by kernel_rfl) (by kernel_rfl)
      obtain rfl : v39 = (.bool true) := f39
      have e39 := Dag.eval_of y39
      refine Dag.wpOp_lit rfl ?_
      go_simp
      exact hK _ _ rfl (Ext.refl _)
    · intro a' w' K hext hsees hK
      have y3 : a'.tmps[3]? = some (.pointer (some ⟨w.heap.size, 0, none⟩)) := (hsees.old (t := 3) (by kernel_rfl) (by kernel_rfl)).trans rfl
      have e3 := Dag.eval_of y3
      obtain ⟨v40, y40, f40⟩ := hsees.new (t := 40) (j := 16) (by kernel_rfl) (by kernel_rfl)
      obtain rfl : v40 = (.bool true) := f40
      have e40 := Dag.eval_of y40
      refine Dag.wpOp_lit rfl ?_
      have hb2 := (hB.ext (by first | exact (Ext.refl _).drew.trans hext | exact (Ext.refl _).drew.drew.trans hext)).2
      go_simp
      exact hK _ _ rfl (Ext.refl _)
    · intro a' w' K hext hsees hK
      have y1 : a'.tmps[1]? = some (.int .i64 now) := (hsees.old (t := 1) (by kernel_rfl) (by kernel_rfl)).trans rfl
      have e1 := Dag.eval_of y1
      obtain ⟨v40, y40, f40⟩ := hsees.new (t := 40) (j := 16) (by kernel_rfl) (by kernel_rfl)
      obtain rfl : v40 = (.bool true) := f40
      have e40 := Dag.eval_of y40
      refine Dag.wpOp_lit rfl ?_
      go_simp
      exact hK _ _ rfl (Ext.refl _)
    · intro a' w' K hext hsees hK
      have y2 : a'.tmps[2]? = some (.int .i64 k) := (hsees.old (t := 2) (by kernel_rfl) (by kernel_rfl)).trans rfl
      have e2 := Dag.eval_of y2
      obtain ⟨v40, y40, f40⟩ := hsees.new (t := 40) (j := 16) (by kernel_rfl) (by kernel_rfl)
      obtain rfl : v40 = (.bool true) := f40
      have e40 := Dag.eval_of y40
      refine Dag.wpOp_lit rfl ?_
      go_simp
      exact hK _ _ rfl (Ext.refl _)
    · intro a' w' K hext hsees hK
      obtain ⟨v41, y41, f41⟩ := hsees.new (t := 41) (j := 17) (by kernel_rfl) (by kernel_rfl)
      obtain rfl : v41 = (.agg #[.int .i64 a, .int .i64 s, .int .i64 t, .int .i64 r]) := f41
      have e41 := Dag.eval_of y41
      obtain ⟨v42, y42, f42⟩ := hsees.new (t := 42) (j := 18) (by kernel_rfl) (by kernel_rfl)
      obtain rfl : v42 = (.int .i64 now) := f42
      have e42 := Dag.eval_of y42
      obtain ⟨v43, y43, f43⟩ := hsees.new (t := 43) (j := 19) (by kernel_rfl) (by kernel_rfl)
      obtain rfl : v43 = (.int .i64 k) := f43
      have e43 := Dag.eval_of y43
      obtain ⟨v40, y40, f40⟩ := hsees.new (t := 40) (j := 16) (by kernel_rfl) (by kernel_rfl)
      obtain rfl : v40 = (.bool true) := f40
      have e40 := Dag.eval_of y40
      refine Dag.wpOp_lit rfl ?_
      go_simp
      refine (renewable_any _ _ _ _ _ _ _).mono ?_
      rintro e w_c ⟨rfl, hx_c⟩
      exact hK _ _ rfl hx_c
    · intro a' w' K hext hsees hK
      have y3 : a'.tmps[3]? = some (.pointer (some ⟨w.heap.size, 0, none⟩)) := (hsees.old (t := 3) (by kernel_rfl) (by kernel_rfl)).trans rfl
      have e3 := Dag.eval_of y3
      obtain ⟨v40, y40, f40⟩ := hsees.new (t := 40) (j := 16) (by kernel_rfl) (by kernel_rfl)
      obtain rfl : v40 = (.bool true) := f40
      have e40 := Dag.eval_of y40
      refine Dag.wpOp_lit rfl ?_
      have hb2 := (hB.ext (by first | exact (Ext.refl _).drew.trans hext | exact (Ext.refl _).drew.drew.trans hext)).2
      go_simp
      exact hK _ _ rfl (Ext.refl _)
    · intro a' w' K hext hsees hK
      have y1 : a'.tmps[1]? = some (.int .i64 now) := (hsees.old (t := 1) (by kernel_rfl) (by kernel_rfl)).trans rfl
      have e1 := Dag.eval_of y1
      obtain ⟨v40, y40, f40⟩ := hsees.new (t := 40) (j := 16) (by kernel_rfl) (by kernel_rfl)
      obtain rfl : v40 = (.bool true) := f40
      have e40 := Dag.eval_of y40
      refine Dag.wpOp_lit rfl ?_
      go_simp
      exact hK _ _ rfl (Ext.refl _)
    · intro a' w' K hext hsees hK
      have y2 : a'.tmps[2]? = some (.int .i64 k) := (hsees.old (t := 2) (by kernel_rfl) (by kernel_rfl)).trans rfl
      have e2 := Dag.eval_of y2
      obtain ⟨v40, y40, f40⟩ := hsees.new (t := 40) (j := 16) (by kernel_rfl) (by kernel_rfl)
      obtain rfl : v40 = (.bool true) := f40
      have e40 := Dag.eval_of y40
      refine Dag.wpOp_lit rfl ?_
      go_simp
      exact hK _ _ rfl (Ext.refl _)
    · intro a' w' K hext hsees hK
      obtain ⟨v45, y45, f45⟩ := hsees.new (t := 45) (j := 21) (by kernel_rfl) (by kernel_rfl)
      obtain rfl : v45 = (.agg #[.int .i64 a, .int .i64 s, .int .i64 t, .int .i64 r]) := f45
      have e45 := Dag.eval_of y45
      obtain ⟨v46, y46, f46⟩ := hsees.new (t := 46) (j := 22) (by kernel_rfl) (by kernel_rfl)
      obtain rfl : v46 = (.int .i64 now) := f46
      have e46 := Dag.eval_of y46
      obtain ⟨v47, y47, f47⟩ := hsees.new (t := 47) (j := 23) (by kernel_rfl) (by kernel_rfl)
      obtain rfl : v47 = (.int .i64 k) := f47
      have e47 := Dag.eval_of y47
      obtain ⟨v40, y40, f40⟩ := hsees.new (t := 40) (j := 16) (by kernel_rfl) (by kernel_rfl)
      obtain rfl : v40 = (.bool true) := f40
      have e40 := Dag.eval_of y40
      refine Dag.wpOp_lit rfl ?_
      go_simp
      refine (refRenewable_any _ _ _ _ _ _ _).mono ?_
      rintro e w_c ⟨rfl, hx_c⟩
      exact hK _ _ rfl hx_c
    · intro a' w' K hext hsees hK
      obtain ⟨v44, y44, f44⟩ := hsees.new (t := 44) (j := 20) (by kernel_rfl) (by kernel_rfl)
      obtain rfl : v44 = (.bool (renewableR a s t r now k)) := f44
      have e44 := Dag.eval_of y44
      obtain ⟨v48, y48, f48⟩ := hsees.new (t := 48) (j := 24) (by kernel_rfl) (by kernel_rfl)
      obtain rfl : v48 = (.bool (renewableR a s t r now k)) := f48
      have e48 := Dag.eval_of y48
      obtain ⟨v40, y40, f40⟩ := hsees.new (t := 40) (j := 16) (by kernel_rfl) (by kernel_rfl)
      obtain rfl : v40 = (.bool true) := f40
      have e40 := Dag.eval_of y40
      refine Dag.wpOp_lit rfl ?_
      go_simp
      exact hK _ _ rfl (Ext.refl _)
    · intro a' w' K hext hsees hK
      obtain ⟨v40, y40, f40⟩ := hsees.new (t := 40) (j := 16) (by kernel_rfl) (by kernel_rfl)
      obtain rfl : v40 = (.bool true) := f40
      have e40 := Dag.eval_of y40
      obtain ⟨v49, y49, f49⟩ := hsees.new (t := 49) (j := 25) (by kernel_rfl) (by kernel_rfl)
      obtain rfl : v49 = (.bool true) := f49
      have e49 := Dag.eval_of y49
      refine Dag.wpOp_lit rfl ?_
      go_simp
      exact hK _ _ rfl (Ext.refl _)
    · intro a' w' K hext hsees hK
      obtain ⟨v50, y50, f50⟩ := hsees.new (t := 50) (j := 26) (by kernel_rfl) (by kernel_rfl)
      obtain rfl : v50 = (.bool true) := f50
      have e50 := Dag.eval_of y50
      refine Dag.wpOp_lit rfl ?_
      go_simp
      exact hK _ _ rfl (Ext.refl _)
    · intro a' w' K hext hsees hK
      have y3 : a'.tmps[3]? = some (.pointer (some ⟨w.heap.size, 0, none⟩)) := (hsees.old (t := 3) (by kernel_rfl) (by kernel_rfl)).trans rfl
      have e3 := Dag.eval_of y3
      obtain ⟨v51, y51, f51⟩ := hsees.new (t := 51) (j := 27) (by kernel_rfl) (by kernel_rfl)
      obtain rfl : v51 = (.bool true) := f51
      have e51 := Dag.eval_of y51
      refine Dag.wpOp_lit rfl ?_
      have hb2 := (hB.ext (by first | exact (Ext.refl _).drew.trans hext | exact (Ext.refl _).drew.drew.trans hext)).2
      go_simp
      exact hK _ _ rfl (Ext.refl _)
    · intro a' w' K hext hsees hK
      have y1 : a'.tmps[1]? = some (.int .i64 now) := (hsees.old (t := 1) (by kernel_rfl) (by kernel_rfl)).trans rfl
      have e1 := Dag.eval_of y1
      obtain ⟨v51, y51, f51⟩ := hsees.new (t := 51) (j := 27) (by kernel_rfl) (by kernel_rfl)
      obtain rfl : v51 = (.bool true) := f51
      have e51 := Dag.eval_of y51
      refine Dag.wpOp_lit rfl ?_
      go_simp
      exact hK _ _ rfl (Ext.refl _)
    · intro a' w' K hext hsees hK
      obtain ⟨v52, y52, f52⟩ := hsees.new (t := 52) (j := 28) (by kernel_rfl) (by kernel_rfl)
      obtain rfl : v52 = (.agg #[.int .i64 a, .int .i64 s, .int .i64 t, .int .i64 r]) := f52
      have e52 := Dag.eval_of y52
      obtain ⟨v53, y53, f53⟩ := hsees.new (t := 53) (j := 29) (by kernel_rfl) (by kernel_rfl)
      obtain rfl : v53 = (.int .i64 now) := f53
      have e53 := Dag.eval_of y53
      obtain ⟨v51, y51, f51⟩ := hsees.new (t := 51) (j := 27) (by kernel_rfl) (by kernel_rfl)
      obtain rfl : v51 = (.bool true) := f51
      have e51 := Dag.eval_of y51
      refine Dag.wpOp_lit rfl ?_
      go_simp
      refine (left_eq _ _ _ _ _ _ HL.out _).mono ?_
      rintro e w_c ⟨rfl, hx_c⟩
      exact hK _ _ rfl hx_c
    · intro a' w' K hext hsees hK
      have y7 : a'.tmps[7]? = some (.int .i64 (t - now)) := (hsees.old (t := 7) (by kernel_rfl) (by kernel_rfl)).trans rfl
      have e7 := Dag.eval_of y7
      obtain ⟨v51, y51, f51⟩ := hsees.new (t := 51) (j := 27) (by kernel_rfl) (by kernel_rfl)
      obtain rfl : v51 = (.bool true) := f51
      have e51 := Dag.eval_of y51
      refine Dag.wpOp_lit rfl ?_
      go_simp
      exact hK _ _ rfl (Ext.refl _)
    · intro a' w' K hext hsees hK
      obtain ⟨v54, y54, f54⟩ := hsees.new (t := 54) (j := 30) (by kernel_rfl) (by kernel_rfl)
      obtain rfl : v54 = (.int .i64 (t - now)) := f54
      have e54 := Dag.eval_of y54
      obtain ⟨v55, y55, f55⟩ := hsees.new (t := 55) (j := 31) (by kernel_rfl) (by kernel_rfl)
      obtain rfl : v55 = (.int .i64 (t - now)) := f55
      have e55 := Dag.eval_of y55
      obtain ⟨v51, y51, f51⟩ := hsees.new (t := 51) (j := 27) (by kernel_rfl) (by kernel_rfl)
      obtain rfl : v51 = (.bool true) := f51
      have e51 := Dag.eval_of y51
      refine Dag.wpOp_lit rfl ?_
      go_simp
      exact hK _ _ rfl (Ext.refl _)
    · intro a' w' K hext hsees hK
      obtain ⟨v51, y51, f51⟩ := hsees.new (t := 51) (j := 27) (by kernel_rfl) (by kernel_rfl)
      obtain rfl : v51 = (.bool true) := f51
      have e51 := Dag.eval_of y51
      obtain ⟨v56, y56, f56⟩ := hsees.new (t := 56) (j := 32) (by kernel_rfl) (by kernel_rfl)
      obtain rfl : v56 = (.bool true) := f56
      have e56 := Dag.eval_of y56
      refine Dag.wpOp_lit rfl ?_
      go_simp
      exact hK _ _ rfl (Ext.refl _)
    · intro a' w' K hext hsees hK
      obtain ⟨v57, y57, f57⟩ := hsees.new (t := 57) (j := 33) (by kernel_rfl) (by kernel_rfl)
      obtain rfl : v57 = (.bool true) := f57
      have e57 := Dag.eval_of y57
      refine Dag.wpOp_lit rfl ?_
      go_simp
      exact hK _ _ rfl (Ext.refl _)
    · intro a' w' K hext hsees hK
      obtain ⟨v58, y58, f58⟩ := hsees.new (t := 58) (j := 34) (by kernel_rfl) (by kernel_rfl)
      obtain rfl : v58 = (.bool true) := f58
      have e58 := Dag.eval_of y58
      refine Dag.wpOp_lit rfl ?_
      go_simp
      refine (known_any _ (Ext.tab (show Ext w w' from (by repeat (first | exact Ext.refl _ | assumption | refine Ext.drew ?_ | refine Ext.alloc ?_ _ | refine Ext.setCell ?_ (by first | exact Nat.le_refl _ | (simp; done) | (simp; omega)) _ | refine Ext.trans ?_ (by assumption)))) pow10_g Htab.out)).mono ?_
      rintro e w_c ⟨rfl, hx_c⟩
      exact hK _ _ rfl hx_c
    · intro a' w' K hext hsees hK
      obtain ⟨v58, y58, f58⟩ := hsees.new (t := 58) (j := 34) (by kernel_rfl) (by kernel_rfl)
      obtain rfl : v58 = (.bool true) := f58
      have e58 := Dag.eval_of y58
      obtain ⟨v59, y59, f59⟩ := hsees.new (t := 59) (j := 35) (by kernel_rfl) (by kernel_rfl)
      obtain rfl : v59 = (.bool true) := f59
      have e59 := Dag.eval_of y59
      refine Dag.wpOp_lit rfl ?_
      go_simp
      exact hK _ _ rfl (Ext.refl _)
    · intro a' w' K hext hsees hK
      obtain ⟨v60, y60, f60⟩ := hsees.new (t := 60) (j := 36) (by kernel_rfl) (by kernel_rfl)
      obtain rfl : v60 = (.bool true) := f60
      have e60 := Dag.eval_of y60
      refine Dag.wpOp_lit rfl ?_
      go_simp
      exact hK _ _ rfl (Ext.refl _)
    intro vs w' hw' hv
    have h37 : vs 37 = (.bool true) := hv 37 (by decide)
    simp only [Dag.putL, Act.put, List.setIfInBounds_toArray, List.set_cons_zero, List.set_cons_succ, h37]
    go_wp2_with fail
    go_ret
    exact ⟨rfl, (by repeat (first | exact Ext.refl _ | assumption | refine Ext.drew ?_ | refine Ext.alloc ?_ _ | refine Ext.setCell ?_ (by first | exact Nat.le_refl _ | (simp; done) | (simp; omega)) _ | refine Ext.trans ?_ (by assumption)))⟩
  all_goals
    refine Dag.wp_region_facts [.val (.agg #[.int .i64 a, .int .i64 s, .int .i64 t, .int .i64 r]), .val (.bool (validT a s t r)), .val (.agg #[.int .i64 a, .int .i64 s, .int .i64 t, .int .i64 r]), .val (.bool (validT a s t r)), .val (.bool true), .val (.bool true), .val (.agg #[.int .i64 a, .int .i64 s, .int .i64 t, .int .i64 r]), .val (.int .i64 now), .val (.int .i64 k), .val (.int .i64 (usableR a s t r now k)), .val (.agg #[.int .i64 a, .int .i64 s, .int .i64 t, .int .i64 r]), .val (.int .i64 now), .val (.int .i64 k), .val (.int .i64 (usableR a s t r now k)), .val (.bool true), .val (.bool true), .val (.bool true), .val (.agg #[.int .i64 a, .int .i64 s, .int .i64 t, .int .i64 r]), .val (.int .i64 now), .val (.int .i64 k), .val (.bool (renewableR a s t r now k)), .val (.agg #[.int .i64 a, .int .i64 s, .int .i64 t, .int .i64 r]), .val (.int .i64 now), .val (.int .i64 k), .val (.bool (renewableR a s t r now k)), .val (.bool true), .val (.bool true), .val (.bool true), .val (.agg #[.int .i64 a, .int .i64 s, .int .i64 t, .int .i64 r]), .val (.int .i64 now), .val (.int .i64 0), .val (.int .i64 0), .val (.bool true), .val (.bool true), .val (.bool true), .val (.bool true), .val (.bool true), .val (.bool true)] [some 24, some 25, some 26, some 27, some 28, some 29, some 30, some 31, some 32, some 33, some 34, some 35, some 36, some 37, some 38, some 39, some 40, some 41, some 42, some 43, some 44, some 45, some 46, some 47, some 48, some 49, some 50, some 51, some 52, some 53, some 54, some 55, some 56, some 57, some 58, some 59, some 60, some 6] (by kernel_rfl) (by kernel_rfl) (by kernel_rfl) ⟨?_, ?_, ?_, ?_, ?_, ?_, ?_, ?_, ?_, ?_, ?_, ?_, ?_, ?_, ?_, ?_, ?_, ?_, ?_, ?_, ?_, ?_, ?_, ?_, ?_, ?_, ?_, ?_, ?_, ?_, ?_, ?_, ?_, ?_, ?_, ?_, ?_, ?_, trivial⟩ ?_
    · intro a' w' K hext hsees hK
      have y3 : a'.tmps[3]? = some (.pointer (some ⟨w.heap.size, 0, none⟩)) := (hsees.old (t := 3) (by kernel_rfl) (by kernel_rfl)).trans rfl
      have e3 := Dag.eval_of y3
      refine Dag.wpOp_lit rfl ?_
      have hb2 := (hB.ext (by first | exact (Ext.refl _).drew.trans hext | exact (Ext.refl _).drew.drew.trans hext)).2
      go_simp
      exact hK _ _ rfl (Ext.refl _)
    · intro a' w' K hext hsees hK
      obtain ⟨v24, y24, f24⟩ := hsees.new (t := 24) (j := 0) (by kernel_rfl) (by kernel_rfl)
      obtain rfl : v24 = (.agg #[.int .i64 a, .int .i64 s, .int .i64 t, .int .i64 r]) := f24
      have e24 := Dag.eval_of y24
      refine Dag.wpOp_lit rfl ?_
      go_simp
      refine (valid_any _ _ _ _ _).mono ?_
      rintro e w_c ⟨rfl, hx_c⟩
      exact hK _ _ rfl hx_c
    · intro a' w' K hext hsees hK
      have y3 : a'.tmps[3]? = some (.pointer (some ⟨w.heap.size, 0, none⟩)) := (hsees.old (t := 3) (by kernel_rfl) (by kernel_rfl)).trans rfl
      have e3 := Dag.eval_of y3
      refine Dag.wpOp_lit rfl ?_
      have hb2 := (hB.ext (by first | exact (Ext.refl _).drew.trans hext | exact (Ext.refl _).drew.drew.trans hext)).2
      go_simp
      exact hK _ _ rfl (Ext.refl _)
    · intro a' w' K hext hsees hK
      obtain ⟨v26, y26, f26⟩ := hsees.new (t := 26) (j := 2) (by kernel_rfl) (by kernel_rfl)
      obtain rfl : v26 = (.agg #[.int .i64 a, .int .i64 s, .int .i64 t, .int .i64 r]) := f26
      have e26 := Dag.eval_of y26
      refine Dag.wpOp_lit rfl ?_
      go_simp
      refine (refValid_any _ _ _ _ _).mono ?_
      rintro e w_c ⟨rfl, hx_c⟩
      exact hK _ _ rfl hx_c
    · intro a' w' K hext hsees hK
      obtain ⟨v25, y25, f25⟩ := hsees.new (t := 25) (j := 1) (by kernel_rfl) (by kernel_rfl)
      obtain rfl : v25 = (.bool (validT a s t r)) := f25
      have e25 := Dag.eval_of y25
      obtain ⟨v27, y27, f27⟩ := hsees.new (t := 27) (j := 3) (by kernel_rfl) (by kernel_rfl)
      obtain rfl : v27 = (.bool (validT a s t r)) := f27
      have e27 := Dag.eval_of y27
      refine Dag.wpOp_lit rfl ?_
      go_simp
      exact hK _ _ rfl (Ext.refl _)
    · intro a' w' K hext hsees hK
      obtain ⟨v28, y28, f28⟩ := hsees.new (t := 28) (j := 4) (by kernel_rfl) (by kernel_rfl)
      obtain rfl : v28 = (.bool true) := f28
      have e28 := Dag.eval_of y28
      refine Dag.wpOp_lit rfl ?_
      go_simp
      exact hK _ _ rfl (Ext.refl _)
    · intro a' w' K hext hsees hK
      have y3 : a'.tmps[3]? = some (.pointer (some ⟨w.heap.size, 0, none⟩)) := (hsees.old (t := 3) (by kernel_rfl) (by kernel_rfl)).trans rfl
      have e3 := Dag.eval_of y3
      obtain ⟨v29, y29, f29⟩ := hsees.new (t := 29) (j := 5) (by kernel_rfl) (by kernel_rfl)
      obtain rfl : v29 = (.bool true) := f29
      have e29 := Dag.eval_of y29
      refine Dag.wpOp_lit rfl ?_
      have hb2 := (hB.ext (by first | exact (Ext.refl _).drew.trans hext | exact (Ext.refl _).drew.drew.trans hext)).2
      go_simp
      exact hK _ _ rfl (Ext.refl _)
    · intro a' w' K hext hsees hK
      have y1 : a'.tmps[1]? = some (.int .i64 now) := (hsees.old (t := 1) (by kernel_rfl) (by kernel_rfl)).trans rfl
      have e1 := Dag.eval_of y1
      obtain ⟨v29, y29, f29⟩ := hsees.new (t := 29) (j := 5) (by kernel_rfl) (by kernel_rfl)
      obtain rfl : v29 = (.bool true) := f29
      have e29 := Dag.eval_of y29
      refine Dag.wpOp_lit rfl ?_
      go_simp
      exact hK _ _ rfl (Ext.refl _)
    · intro a' w' K hext hsees hK
      have y2 : a'.tmps[2]? = some (.int .i64 k) := (hsees.old (t := 2) (by kernel_rfl) (by kernel_rfl)).trans rfl
      have e2 := Dag.eval_of y2
      obtain ⟨v29, y29, f29⟩ := hsees.new (t := 29) (j := 5) (by kernel_rfl) (by kernel_rfl)
      obtain rfl : v29 = (.bool true) := f29
      have e29 := Dag.eval_of y29
      refine Dag.wpOp_lit rfl ?_
      go_simp
      exact hK _ _ rfl (Ext.refl _)
    · intro a' w' K hext hsees hK
      obtain ⟨v30, y30, f30⟩ := hsees.new (t := 30) (j := 6) (by kernel_rfl) (by kernel_rfl)
      obtain rfl : v30 = (.agg #[.int .i64 a, .int .i64 s, .int .i64 t, .int .i64 r]) := f30
      have e30 := Dag.eval_of y30
      obtain ⟨v31, y31, f31⟩ := hsees.new (t := 31) (j := 7) (by kernel_rfl) (by kernel_rfl)
      obtain rfl : v31 = (.int .i64 now) := f31
      have e31 := Dag.eval_of y31
      obtain ⟨v32, y32, f32⟩ := hsees.new (t := 32) (j := 8) (by kernel_rfl) (by kernel_rfl)
      obtain rfl : v32 = (.int .i64 k) := f32
      have e32 := Dag.eval_of y32
      obtain ⟨v29, y29, f29⟩ := hsees.new (t := 29) (j := 5) (by kernel_rfl) (by kernel_rfl)
      obtain rfl : v29 = (.bool true) := f29
      have e29 := Dag.eval_of y29
      refine Dag.wpOp_lit rfl ?_
      go_simp
      refine (usable_r _ _ _ _ _ _ _).mono ?_
      rintro e w_c ⟨rfl, hx_c⟩
      exact hK _ _ rfl hx_c
    · intro a' w' K hext hsees hK
      have y3 : a'.tmps[3]? = some (.pointer (some ⟨w.heap.size, 0, none⟩)) := (hsees.old (t := 3) (by kernel_rfl) (by kernel_rfl)).trans rfl
      have e3 := Dag.eval_of y3
      obtain ⟨v29, y29, f29⟩ := hsees.new (t := 29) (j := 5) (by kernel_rfl) (by kernel_rfl)
      obtain rfl : v29 = (.bool true) := f29
      have e29 := Dag.eval_of y29
      refine Dag.wpOp_lit rfl ?_
      have hb2 := (hB.ext (by first | exact (Ext.refl _).drew.trans hext | exact (Ext.refl _).drew.drew.trans hext)).2
      go_simp
      exact hK _ _ rfl (Ext.refl _)
    · intro a' w' K hext hsees hK
      have y1 : a'.tmps[1]? = some (.int .i64 now) := (hsees.old (t := 1) (by kernel_rfl) (by kernel_rfl)).trans rfl
      have e1 := Dag.eval_of y1
      obtain ⟨v29, y29, f29⟩ := hsees.new (t := 29) (j := 5) (by kernel_rfl) (by kernel_rfl)
      obtain rfl : v29 = (.bool true) := f29
      have e29 := Dag.eval_of y29
      refine Dag.wpOp_lit rfl ?_
      go_simp
      exact hK _ _ rfl (Ext.refl _)
    · intro a' w' K hext hsees hK
      have y2 : a'.tmps[2]? = some (.int .i64 k) := (hsees.old (t := 2) (by kernel_rfl) (by kernel_rfl)).trans rfl
      have e2 := Dag.eval_of y2
      obtain ⟨v29, y29, f29⟩ := hsees.new (t := 29) (j := 5) (by kernel_rfl) (by kernel_rfl)
      obtain rfl : v29 = (.bool true) := f29
      have e29 := Dag.eval_of y29
      refine Dag.wpOp_lit rfl ?_
      go_simp
      exact hK _ _ rfl (Ext.refl _)
    · intro a' w' K hext hsees hK
      obtain ⟨v34, y34, f34⟩ := hsees.new (t := 34) (j := 10) (by kernel_rfl) (by kernel_rfl)
      obtain rfl : v34 = (.agg #[.int .i64 a, .int .i64 s, .int .i64 t, .int .i64 r]) := f34
      have e34 := Dag.eval_of y34
      obtain ⟨v35, y35, f35⟩ := hsees.new (t := 35) (j := 11) (by kernel_rfl) (by kernel_rfl)
      obtain rfl : v35 = (.int .i64 now) := f35
      have e35 := Dag.eval_of y35
      obtain ⟨v36, y36, f36⟩ := hsees.new (t := 36) (j := 12) (by kernel_rfl) (by kernel_rfl)
      obtain rfl : v36 = (.int .i64 k) := f36
      have e36 := Dag.eval_of y36
      obtain ⟨v29, y29, f29⟩ := hsees.new (t := 29) (j := 5) (by kernel_rfl) (by kernel_rfl)
      obtain rfl : v29 = (.bool true) := f29
      have e29 := Dag.eval_of y29
      refine Dag.wpOp_lit rfl ?_
      go_simp
      refine (refUsable_any _ _ _ _ _ _ _).mono ?_
      rintro e w_c ⟨rfl, hx_c⟩
      exact hK _ _ rfl hx_c
    · intro a' w' K hext hsees hK
      obtain ⟨v33, y33, f33⟩ := hsees.new (t := 33) (j := 9) (by kernel_rfl) (by kernel_rfl)
      obtain rfl : v33 = (.int .i64 (usableR a s t r now k)) := f33
      have e33 := Dag.eval_of y33
      obtain ⟨v37, y37, f37⟩ := hsees.new (t := 37) (j := 13) (by kernel_rfl) (by kernel_rfl)
      obtain rfl : v37 = (.int .i64 (usableR a s t r now k)) := f37
      have e37 := Dag.eval_of y37
      obtain ⟨v29, y29, f29⟩ := hsees.new (t := 29) (j := 5) (by kernel_rfl) (by kernel_rfl)
      obtain rfl : v29 = (.bool true) := f29
      have e29 := Dag.eval_of y29
      refine Dag.wpOp_lit rfl ?_
      go_simp
      exact hK _ _ rfl (Ext.refl _)
    · intro a' w' K hext hsees hK
      obtain ⟨v29, y29, f29⟩ := hsees.new (t := 29) (j := 5) (by kernel_rfl) (by kernel_rfl)
      obtain rfl : v29 = (.bool true) := f29
      have e29 := Dag.eval_of y29
      obtain ⟨v38, y38, f38⟩ := hsees.new (t := 38) (j := 14) (by kernel_rfl) (by kernel_rfl)
      obtain rfl : v38 = (.bool true) := f38
      have e38 := Dag.eval_of y38
      refine Dag.wpOp_lit rfl ?_
      go_simp
      exact hK _ _ rfl (Ext.refl _)
    · intro a' w' K hext hsees hK
      obtain ⟨v39, y39, f39⟩ := hsees.new (t := 39) (j := 15) (by kernel_rfl) (by kernel_rfl)
      obtain rfl : v39 = (.bool true) := f39
      have e39 := Dag.eval_of y39
      refine Dag.wpOp_lit rfl ?_
      go_simp
      exact hK _ _ rfl (Ext.refl _)
    · intro a' w' K hext hsees hK
      have y3 : a'.tmps[3]? = some (.pointer (some ⟨w.heap.size, 0, none⟩)) := (hsees.old (t := 3) (by kernel_rfl) (by kernel_rfl)).trans rfl
      have e3 := Dag.eval_of y3
      obtain ⟨v40, y40, f40⟩ := hsees.new (t := 40) (j := 16) (by kernel_rfl) (by kernel_rfl)
      obtain rfl : v40 = (.bool true) := f40
      have e40 := Dag.eval_of y40
      refine Dag.wpOp_lit rfl ?_
      have hb2 := (hB.ext (by first | exact (Ext.refl _).drew.trans hext | exact (Ext.refl _).drew.drew.trans hext)).2
      go_simp
      exact hK _ _ rfl (Ext.refl _)
    · intro a' w' K hext hsees hK
      have y1 : a'.tmps[1]? = some (.int .i64 now) := (hsees.old (t := 1) (by kernel_rfl) (by kernel_rfl)).trans rfl
      have e1 := Dag.eval_of y1
      obtain ⟨v40, y40, f40⟩ := hsees.new (t := 40) (j := 16) (by kernel_rfl) (by kernel_rfl)
      obtain rfl : v40 = (.bool true) := f40
      have e40 := Dag.eval_of y40
      refine Dag.wpOp_lit rfl ?_
      go_simp
      exact hK _ _ rfl (Ext.refl _)
    · intro a' w' K hext hsees hK
      have y2 : a'.tmps[2]? = some (.int .i64 k) := (hsees.old (t := 2) (by kernel_rfl) (by kernel_rfl)).trans rfl
      have e2 := Dag.eval_of y2
      obtain ⟨v40, y40, f40⟩ := hsees.new (t := 40) (j := 16) (by kernel_rfl) (by kernel_rfl)
      obtain rfl : v40 = (.bool true) := f40
      have e40 := Dag.eval_of y40
      refine Dag.wpOp_lit rfl ?_
      go_simp
      exact hK _ _ rfl (Ext.refl _)
    · intro a' w' K hext hsees hK
      obtain ⟨v41, y41, f41⟩ := hsees.new (t := 41) (j := 17) (by kernel_rfl) (by kernel_rfl)
      obtain rfl : v41 = (.agg #[.int .i64 a, .int .i64 s, .int .i64 t, .int .i64 r]) := f41
      have e41 := Dag.eval_of y41
      obtain ⟨v42, y42, f42⟩ := hsees.new (t := 42) (j := 18) (by kernel_rfl) (by kernel_rfl)
      obtain rfl : v42 = (.int .i64 now) := f42
      have e42 := Dag.eval_of y42
      obtain ⟨v43, y43, f43⟩ := hsees.new (t := 43) (j := 19) (by kernel_rfl) (by kernel_rfl)
      obtain rfl : v43 = (.int .i64 k) := f43
      have e43 := Dag.eval_of y43
      obtain ⟨v40, y40, f40⟩ := hsees.new (t := 40) (j := 16) (by kernel_rfl) (by kernel_rfl)
      obtain rfl : v40 = (.bool true) := f40
      have e40 := Dag.eval_of y40
      refine Dag.wpOp_lit rfl ?_
      go_simp
      refine (renewable_any _ _ _ _ _ _ _).mono ?_
      rintro e w_c ⟨rfl, hx_c⟩
      exact hK _ _ rfl hx_c
    · intro a' w' K hext hsees hK
      have y3 : a'.tmps[3]? = some (.pointer (some ⟨w.heap.size, 0, none⟩)) := (hsees.old (t := 3) (by kernel_rfl) (by kernel_rfl)).trans rfl
      have e3 := Dag.eval_of y3
      obtain ⟨v40, y40, f40⟩ := hsees.new (t := 40) (j := 16) (by kernel_rfl) (by kernel_rfl)
      obtain rfl : v40 = (.bool true) := f40
      have e40 := Dag.eval_of y40
      refine Dag.wpOp_lit rfl ?_
      have hb2 := (hB.ext (by first | exact (Ext.refl _).drew.trans hext | exact (Ext.refl _).drew.drew.trans hext)).2
      go_simp
      exact hK _ _ rfl (Ext.refl _)
    · intro a' w' K hext hsees hK
      have y1 : a'.tmps[1]? = some (.int .i64 now) := (hsees.old (t := 1) (by kernel_rfl) (by kernel_rfl)).trans rfl
      have e1 := Dag.eval_of y1
      obtain ⟨v40, y40, f40⟩ := hsees.new (t := 40) (j := 16) (by kernel_rfl) (by kernel_rfl)
      obtain rfl : v40 = (.bool true) := f40
      have e40 := Dag.eval_of y40
      refine Dag.wpOp_lit rfl ?_
      go_simp
      exact hK _ _ rfl (Ext.refl _)
    · intro a' w' K hext hsees hK
      have y2 : a'.tmps[2]? = some (.int .i64 k) := (hsees.old (t := 2) (by kernel_rfl) (by kernel_rfl)).trans rfl
      have e2 := Dag.eval_of y2
      obtain ⟨v40, y40, f40⟩ := hsees.new (t := 40) (j := 16) (by kernel_rfl) (by kernel_rfl)
      obtain rfl : v40 = (.bool true) := f40
      have e40 := Dag.eval_of y40
      refine Dag.wpOp_lit rfl ?_
      go_simp
      exact hK _ _ rfl (Ext.refl _)
    · intro a' w' K hext hsees hK
      obtain ⟨v45, y45, f45⟩ := hsees.new (t := 45) (j := 21) (by kernel_rfl) (by kernel_rfl)
      obtain rfl : v45 = (.agg #[.int .i64 a, .int .i64 s, .int .i64 t, .int .i64 r]) := f45
      have e45 := Dag.eval_of y45
      obtain ⟨v46, y46, f46⟩ := hsees.new (t := 46) (j := 22) (by kernel_rfl) (by kernel_rfl)
      obtain rfl : v46 = (.int .i64 now) := f46
      have e46 := Dag.eval_of y46
      obtain ⟨v47, y47, f47⟩ := hsees.new (t := 47) (j := 23) (by kernel_rfl) (by kernel_rfl)
      obtain rfl : v47 = (.int .i64 k) := f47
      have e47 := Dag.eval_of y47
      obtain ⟨v40, y40, f40⟩ := hsees.new (t := 40) (j := 16) (by kernel_rfl) (by kernel_rfl)
      obtain rfl : v40 = (.bool true) := f40
      have e40 := Dag.eval_of y40
      refine Dag.wpOp_lit rfl ?_
      go_simp
      refine (refRenewable_any _ _ _ _ _ _ _).mono ?_
      rintro e w_c ⟨rfl, hx_c⟩
      exact hK _ _ rfl hx_c
    · intro a' w' K hext hsees hK
      obtain ⟨v44, y44, f44⟩ := hsees.new (t := 44) (j := 20) (by kernel_rfl) (by kernel_rfl)
      obtain rfl : v44 = (.bool (renewableR a s t r now k)) := f44
      have e44 := Dag.eval_of y44
      obtain ⟨v48, y48, f48⟩ := hsees.new (t := 48) (j := 24) (by kernel_rfl) (by kernel_rfl)
      obtain rfl : v48 = (.bool (renewableR a s t r now k)) := f48
      have e48 := Dag.eval_of y48
      obtain ⟨v40, y40, f40⟩ := hsees.new (t := 40) (j := 16) (by kernel_rfl) (by kernel_rfl)
      obtain rfl : v40 = (.bool true) := f40
      have e40 := Dag.eval_of y40
      refine Dag.wpOp_lit rfl ?_
      go_simp
      exact hK _ _ rfl (Ext.refl _)
    · intro a' w' K hext hsees hK
      obtain ⟨v40, y40, f40⟩ := hsees.new (t := 40) (j := 16) (by kernel_rfl) (by kernel_rfl)
      obtain rfl : v40 = (.bool true) := f40
      have e40 := Dag.eval_of y40
      obtain ⟨v49, y49, f49⟩ := hsees.new (t := 49) (j := 25) (by kernel_rfl) (by kernel_rfl)
      obtain rfl : v49 = (.bool true) := f49
      have e49 := Dag.eval_of y49
      refine Dag.wpOp_lit rfl ?_
      go_simp
      exact hK _ _ rfl (Ext.refl _)
    · intro a' w' K hext hsees hK
      obtain ⟨v50, y50, f50⟩ := hsees.new (t := 50) (j := 26) (by kernel_rfl) (by kernel_rfl)
      obtain rfl : v50 = (.bool true) := f50
      have e50 := Dag.eval_of y50
      refine Dag.wpOp_lit rfl ?_
      go_simp
      exact hK _ _ rfl (Ext.refl _)
    · intro a' w' K hext hsees hK
      have y3 : a'.tmps[3]? = some (.pointer (some ⟨w.heap.size, 0, none⟩)) := (hsees.old (t := 3) (by kernel_rfl) (by kernel_rfl)).trans rfl
      have e3 := Dag.eval_of y3
      obtain ⟨v51, y51, f51⟩ := hsees.new (t := 51) (j := 27) (by kernel_rfl) (by kernel_rfl)
      obtain rfl : v51 = (.bool true) := f51
      have e51 := Dag.eval_of y51
      refine Dag.wpOp_lit rfl ?_
      have hb2 := (hB.ext (by first | exact (Ext.refl _).drew.trans hext | exact (Ext.refl _).drew.drew.trans hext)).2
      go_simp
      exact hK _ _ rfl (Ext.refl _)
    · intro a' w' K hext hsees hK
      have y1 : a'.tmps[1]? = some (.int .i64 now) := (hsees.old (t := 1) (by kernel_rfl) (by kernel_rfl)).trans rfl
      have e1 := Dag.eval_of y1
      obtain ⟨v51, y51, f51⟩ := hsees.new (t := 51) (j := 27) (by kernel_rfl) (by kernel_rfl)
      obtain rfl : v51 = (.bool true) := f51
      have e51 := Dag.eval_of y51
      refine Dag.wpOp_lit rfl ?_
      go_simp
      exact hK _ _ rfl (Ext.refl _)
    · intro a' w' K hext hsees hK
      obtain ⟨v52, y52, f52⟩ := hsees.new (t := 52) (j := 28) (by kernel_rfl) (by kernel_rfl)
      obtain rfl : v52 = (.agg #[.int .i64 a, .int .i64 s, .int .i64 t, .int .i64 r]) := f52
      have e52 := Dag.eval_of y52
      obtain ⟨v53, y53, f53⟩ := hsees.new (t := 53) (j := 29) (by kernel_rfl) (by kernel_rfl)
      obtain rfl : v53 = (.int .i64 now) := f53
      have e53 := Dag.eval_of y53
      obtain ⟨v51, y51, f51⟩ := hsees.new (t := 51) (j := 27) (by kernel_rfl) (by kernel_rfl)
      obtain rfl : v51 = (.bool true) := f51
      have e51 := Dag.eval_of y51
      refine Dag.wpOp_lit rfl ?_
      go_simp
      refine (left_eq _ _ _ _ _ _ HL.out _).mono ?_
      rintro e w_c ⟨rfl, hx_c⟩
      exact hK _ _ rfl hx_c
    · intro a' w' K hext hsees hK
      have y7 : a'.tmps[7]? = some (.int .i64 0) := (hsees.old (t := 7) (by kernel_rfl) (by kernel_rfl)).trans rfl
      have e7 := Dag.eval_of y7
      obtain ⟨v51, y51, f51⟩ := hsees.new (t := 51) (j := 27) (by kernel_rfl) (by kernel_rfl)
      obtain rfl : v51 = (.bool true) := f51
      have e51 := Dag.eval_of y51
      refine Dag.wpOp_lit rfl ?_
      go_simp
      exact hK _ _ rfl (Ext.refl _)
    · intro a' w' K hext hsees hK
      obtain ⟨v54, y54, f54⟩ := hsees.new (t := 54) (j := 30) (by kernel_rfl) (by kernel_rfl)
      obtain rfl : v54 = (.int .i64 0) := f54
      have e54 := Dag.eval_of y54
      obtain ⟨v55, y55, f55⟩ := hsees.new (t := 55) (j := 31) (by kernel_rfl) (by kernel_rfl)
      obtain rfl : v55 = (.int .i64 0) := f55
      have e55 := Dag.eval_of y55
      obtain ⟨v51, y51, f51⟩ := hsees.new (t := 51) (j := 27) (by kernel_rfl) (by kernel_rfl)
      obtain rfl : v51 = (.bool true) := f51
      have e51 := Dag.eval_of y51
      refine Dag.wpOp_lit rfl ?_
      go_simp
      exact hK _ _ rfl (Ext.refl _)
    · intro a' w' K hext hsees hK
      obtain ⟨v51, y51, f51⟩ := hsees.new (t := 51) (j := 27) (by kernel_rfl) (by kernel_rfl)
      obtain rfl : v51 = (.bool true) := f51
      have e51 := Dag.eval_of y51
      obtain ⟨v56, y56, f56⟩ := hsees.new (t := 56) (j := 32) (by kernel_rfl) (by kernel_rfl)
      obtain rfl : v56 = (.bool true) := f56
      have e56 := Dag.eval_of y56
      refine Dag.wpOp_lit rfl ?_
      go_simp
      exact hK _ _ rfl (Ext.refl _)
    · intro a' w' K hext hsees hK
      obtain ⟨v57, y57, f57⟩ := hsees.new (t := 57) (j := 33) (by kernel_rfl) (by kernel_rfl)
      obtain rfl : v57 = (.bool true) := f57
      have e57 := Dag.eval_of y57
      refine Dag.wpOp_lit rfl ?_
      go_simp
      exact hK _ _ rfl (Ext.refl _)
    · intro a' w' K hext hsees hK
      obtain ⟨v58, y58, f58⟩ := hsees.new (t := 58) (j := 34) (by kernel_rfl) (by kernel_rfl)
      obtain rfl : v58 = (.bool true) := f58
      have e58 := Dag.eval_of y58
      refine Dag.wpOp_lit rfl ?_
      go_simp
      refine (known_any _ (Ext.tab (show Ext w w' from (by repeat (first | exact Ext.refl _ | assumption | refine Ext.drew ?_ | refine Ext.alloc ?_ _ | refine Ext.setCell ?_ (by first | exact Nat.le_refl _ | (simp; done) | (simp; omega)) _ | refine Ext.trans ?_ (by assumption)))) pow10_g Htab.out)).mono ?_
      rintro e w_c ⟨rfl, hx_c⟩
      exact hK _ _ rfl hx_c
    · intro a' w' K hext hsees hK
      obtain ⟨v58, y58, f58⟩ := hsees.new (t := 58) (j := 34) (by kernel_rfl) (by kernel_rfl)
      obtain rfl : v58 = (.bool true) := f58
      have e58 := Dag.eval_of y58
      obtain ⟨v59, y59, f59⟩ := hsees.new (t := 59) (j := 35) (by kernel_rfl) (by kernel_rfl)
      obtain rfl : v59 = (.bool true) := f59
      have e59 := Dag.eval_of y59
      refine Dag.wpOp_lit rfl ?_
      go_simp
      exact hK _ _ rfl (Ext.refl _)
    · intro a' w' K hext hsees hK
      obtain ⟨v60, y60, f60⟩ := hsees.new (t := 60) (j := 36) (by kernel_rfl) (by kernel_rfl)
      obtain rfl : v60 = (.bool true) := f60
      have e60 := Dag.eval_of y60
      refine Dag.wpOp_lit rfl ?_
      go_simp
      exact hK _ _ rfl (Ext.refl _)
    intro vs w' hw' hv
    have h37 : vs 37 = (.bool true) := hv 37 (by decide)
    simp only [Dag.putL, Act.put, List.setIfInBounds_toArray, List.set_cons_zero, List.set_cons_succ, h37]
    go_wp2_with fail
    go_ret
    exact ⟨rfl, (by repeat (first | exact Ext.refl _ | assumption | refine Ext.drew ?_ | refine Ext.alloc ?_ _ | refine Ext.setCell ?_ (by first | exact Nat.le_refl _ | (simp; done) | (simp; omega)) _ | refine Ext.trans ?_ (by assumption)))⟩
end Go.Proofs.YtdpjkocpdomkbaaDoor
