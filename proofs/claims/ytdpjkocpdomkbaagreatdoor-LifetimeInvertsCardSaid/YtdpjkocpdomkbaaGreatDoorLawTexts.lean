/- The law LifetimeTexts: every call returns true. The table of powers of ten and the library's variables as the program lays them. -/
import Derived.Test.YtdpjkocpdomkbaaGreatDoorKnown
import Derived.Test.YtdpjkocpdomkbaaGreatDoorLifeF
import Derived.Test.YtdpjkocpdomkbaaGreatDoorRefParse
namespace Go.Proofs.YtdpjkocpdomkbaaGreatDoor
open Go.RowKit
theorem parse13_at {s : ByteArray} {a b c d er : Int} (h : parseR s = ((a, b, c, d), er)) (hs : s.size ≤ 100000) (w : World) (hV : VarsAt w) (htab : Lib.TabIs Tryz.prog w "internal/strconv.uint64pow10" .u64 Lib.pow10Tab) :
    Calls Tryz.prog 11 #[.string s] w fun e w' => e = .returned (.tuple #[.agg #[.int .i64 a, .int .i64 b, .int .i64 c, .int .i64 d], .int .i64 er]) ∧ Ext w w' := by
  refine (parse13_any s hs w hV htab).mono fun e w' ⟨a', b', c', d', er', h1, he, hx⟩ => ?_
  rw [h] at h1
  simp only [Prod.mk.injEq] at h1
  obtain ⟨⟨rfl, rfl, rfl, rfl⟩, rfl⟩ := h1
  exact ⟨he, hx⟩
theorem rParse13_at {s : ByteArray} {a b c d er : Int} (h : parseR s = ((a, b, c, d), er)) (hs : s.size ≤ 100000) (w : World) :
    Calls Tryz.prog 12 #[.string s] w fun e w' => e = .returned (.tuple #[.agg #[.int .i64 a, .int .i64 b, .int .i64 c, .int .i64 d], .int .i64 er]) ∧ Ext w w' := by
  refine (rParse13_any s hs w).mono fun e w' ⟨a', b', c', d', er', h1, he, hx⟩ => ?_
  rw [parse_same, h] at h1
  simp only [Prod.mk.injEq] at h1
  obtain ⟨⟨rfl, rfl, rfl, rfl⟩, rfl⟩ := h1
  exact ⟨he, hx⟩
theorem text_at {a s t r er : Int} {x : ByteArray} (h : textR a s t r = (x, er)) (w : World) (htab : Lib.TabIs Tryz.prog w "internal/strconv.uint64pow10" .u64 Lib.pow10Tab) :
    Calls Tryz.prog 6 #[.agg #[.int .i64 a, .int .i64 s, .int .i64 t, .int .i64 r]] w fun e w' => e = .returned (.tuple #[.string x, .int .i64 er]) ∧ Ext w w' := by
  refine (text_any a s t r w htab).mono fun e w' hp => ?_
  unfold TextPost at hp
  rw [h] at hp
  exact hp
set_option maxHeartbeats 1600000 in
theorem encode13_bad (a s t r : Int) (w : World) (hv : validT a s t r = false) : Calls Tryz.prog 7 #[.agg #[.int .i64 a, .int .i64 s, .int .i64 t, .int .i64 r]] w fun e w' => e = .returned (.tuple #[.slice none 0 0, .int .i64 2]) ∧ Ext w w' := by
  have HV := Lib.hid hv
  have hx0 := (Ext.refl w).alloc (.cells #[.int .i64 a, .int .i64 s, .int .i64 t, .int .i64 r] 23)
  clear hv
  go_enter Tryz.func7, Tryz.ntmps7
  go_wp2_with fail
  (go_at_call 13; (with_reducible refine (valid_any a s t r _).mono ?_); rintro e w1 ⟨rfl, hx1⟩; rw [HV.out])
  go_wp2
  go_ret2
  exact ⟨rfl, (by repeat (first | exact Ext.refl _ | assumption | refine Ext.drew ?_ | refine Ext.alloc ?_ _ | refine Ext.setCell ?_ (by first | exact Nat.le_refl _ | (simp; done) | (simp; omega)) _ | refine Ext.trans ?_ (by assumption)))⟩
set_option maxRecDepth 8000 in
set_option maxHeartbeats 12800000 in
theorem lawTexts_any (a s t r : Int) (x : ByteArray) (w : World) (htab : Lib.TabIs Tryz.prog w "internal/strconv.uint64pow10" .u64 Lib.pow10Tab) (hV : VarsAt w) :
    Calls Tryz.prog 3 #[.agg #[.int .i64 a, .int .i64 s, .int .i64 t, .int .i64 r], .string x] w fun e w' => e = .returned (.bool true) ∧ Ext w w' := by
  have Htab := Lib.hid htab
  have HV := Lib.hid hV
  clear htab hV
  by_cases h100 : (100 : Int) < (x.size : Int)
  · go_enter Tryz.func3, Tryz.ntmps3
    go_wp2_with (go_at_call 5; refine (known_any _ (Ext.tab ((by repeat (first | exact Ext.refl _ | assumption | refine Ext.drew ?_ | refine Ext.alloc ?_ _ | refine Ext.setCell ?_ (by first | exact Nat.le_refl _ | (simp; done) | (simp; omega)) _ | refine Ext.trans ?_ (by assumption)))) pow10_g Htab.out)).mono ?_; rintro e w_known ⟨rfl, hx_known⟩)
    go_ret
    exact ⟨rfl, (by repeat (first | exact Ext.refl _ | assumption | refine Ext.drew ?_ | refine Ext.alloc ?_ _ | refine Ext.setCell ?_ (by first | exact Nat.le_refl _ | (simp; done) | (simp; omega)) _ | refine Ext.trans ?_ (by assumption)))⟩
  have hxs : x.size ≤ 100000 := by omega
  rcases hP : parseR x with ⟨⟨pa, pb, pc, pd⟩, pe⟩
  have HP := Lib.hid hP
  have bs1 : decide ((100 : Int) < (x.size : Int)) = false := by simpa using h100
  have bs2 : decide (100 < x.size) = false := by simp; omega
  clear hP
  cases hv : validT a s t r
  · have HT := Lib.hid (textR_bad hv)
    have HB := Lib.hid hv
    have HH := Lib.hid (heap_new w (.cells #[.int .i64 a, .int .i64 s, .int .i64 t, .int .i64 r] 23))
    clear hv
    go_enter Tryz.func3, Tryz.ntmps3
    go_wp2_with fail
    (go_at_call 6; (with_reducible refine (text_at HT.out _ (Ext.tab ((by repeat (first | exact Ext.refl _ | assumption | refine Ext.drew ?_ | refine Ext.alloc ?_ _ | refine Ext.setCell ?_ (by first | exact Nat.le_refl _ | (simp; done) | (simp; omega)) _ | refine Ext.trans ?_ (by assumption)))) pow10_g Htab.out)).mono ?_); rintro e w1 ⟨rfl, hx1⟩)
    obtain ⟨k0, k1, k2, k3, _, _, _, _⟩ := four_cells (hx1.heap HH.out)
    go_wp2_with fail
    (go_at_call 7; (with_reducible refine (encode13_bad a s t r _ HB.out).mono ?_); rintro e w2 ⟨rfl, hx2⟩)
    clear k0 k1 k2 k3
    obtain ⟨k0, k1, k2, k3, _, _, _, _⟩ := four_cells ((hx1.trans hx2).heap HH.out)
    go_wp2_with fail
    (go_at_call 8; (with_reducible refine (refValid_any a s t r _).mono ?_); rintro e w3 ⟨rfl, hx3⟩; rw [HB.out])
    clear k0 k1 k2 k3
    have X8 := (((Ext.refl w).alloc (.cells #[.int .i64 a, .int .i64 s, .int .i64 t, .int .i64 r] 23)).trans hx1).trans (hx2.trans hx3)
    clear hx1 hx2 hx3
    go_wp2_with fail
    (go_at_call 11; (with_reducible refine (parse13_at HP.out hxs _ (HV.out.ext (by repeat (first | exact Ext.refl _ | assumption | refine Ext.drew ?_ | refine Ext.alloc ?_ _ | refine Ext.setCell ?_ (by first | exact Nat.le_refl _ | (simp; done) | (simp; omega)) _ | refine Ext.trans ?_ (by assumption)))) (Ext.tab ((by repeat (first | exact Ext.refl _ | assumption | refine Ext.drew ?_ | refine Ext.alloc ?_ _ | refine Ext.setCell ?_ (by first | exact Nat.le_refl _ | (simp; done) | (simp; omega)) _ | refine Ext.trans ?_ (by assumption)))) pow10_g Htab.out)).mono ?_); rintro e w4 ⟨rfl, hx4⟩)
    have HC := Lib.hid (heap_new w4 (.cells #[.int .i64 pa, .int .i64 pb, .int .i64 pc, .int .i64 pd] 23))
    go_wp2_with fail
    (go_at_call 12; (with_reducible refine (rParse13_at HP.out hxs _).mono ?_); rintro e w5 ⟨rfl, hx5⟩)
    obtain ⟨j0, j1, j2, j3, _, _, _, _⟩ := four_cells (hx5.heap HC.out)
    have hlt5 : w4.heap.size < w5.heap.size := by have := hx5.sz; simp at this; omega
    go_wp2_with (go_at_call 5; refine (known_any _ (Ext.tab ((by repeat (first | exact Ext.refl _ | assumption | refine Ext.drew ?_ | refine Ext.alloc ?_ _ | refine Ext.setCell ?_ (by first | exact Nat.le_refl _ | (simp; done) | (simp; omega)) _ | refine Ext.trans ?_ (by assumption)))) pow10_g Htab.out)).mono ?_; rintro e w_known ⟨rfl, hx_known⟩)
    go_ret
    exact ⟨rfl, (by repeat (first | exact Ext.refl _ | assumption | refine Ext.drew ?_ | refine Ext.alloc ?_ _ | refine Ext.setCell ?_ (by first | exact Nat.le_refl _ | (simp; done) | (simp; omega)) _ | refine Ext.trans ?_ (by assumption)))⟩
  · have HT := Lib.hid (textR_ok hv)
    have HVV := Lib.hid hv
    have HH := Lib.hid (heap_new w (.cells #[.int .i64 a, .int .i64 s, .int .i64 t, .int .i64 r] 23))
    clear hv
    go_enter Tryz.func3, Tryz.ntmps3
    go_wp2_with fail
    (go_at_call 6; (with_reducible refine (text_at HT.out _ (Ext.tab ((by repeat (first | exact Ext.refl _ | assumption | refine Ext.drew ?_ | refine Ext.alloc ?_ _ | refine Ext.setCell ?_ (by first | exact Nat.le_refl _ | (simp; done) | (simp; omega)) _ | refine Ext.trans ?_ (by assumption)))) pow10_g Htab.out)).mono ?_); rintro e w1 ⟨rfl, hx1⟩)
    obtain ⟨k0, k1, k2, k3, _, _, _, _⟩ := four_cells (hx1.heap HH.out)
    go_wp2_with fail
    (go_at_call 7; (with_reducible refine (encode13_any a s t r _ HVV.out).mono ?_); rintro e w2 ⟨A7, c7, rfl, hP, hc7, hx2⟩)
    clear k0 k1 k2 k3
    obtain ⟨k0, k1, k2, k3, _, _, _, _⟩ := four_cells ((hx1.trans hx2).heap HH.out)
    go_wp2_with fail
    (go_at_call 8; (with_reducible refine (refValid_any a s t r _).mono ?_); rintro e w3 ⟨rfl, hx3⟩; rw [HVV.out])
    clear k0 k1 k2 k3
    have hx03 := (hx1.trans hx2).trans hx3
    obtain ⟨k0, k1, k2, k3, _, _, _, _⟩ := four_cells (hx03.heap HH.out)
    have hP7 := hP.ext hx3
    have X3 := Lib.hid (((Ext.refl w).alloc (.cells #[.int .i64 a, .int .i64 s, .int .i64 t, .int .i64 r] 23)).trans hx03)
    clear hP hx1 hx2 hx3 hx03
    go_wp2_with fail
    refine Dag.wp_region_props [isV (.string (textT a s t r)), isV (.agg #[.int .i64 a, .int .i64 s, .int .i64 t, .int .i64 r]), isV (.string (textT a s t r)), isV (.bool false), isV (.bool false), isB (encB a s t r), isV (.string (strOf (encB a s t r))), isV (.agg #[.int .i64 a, .int .i64 s, .int .i64 t, .int .i64 r]), isB (encB a s t r), isV (.string (strOf (encB a s t r))), isV (.bool false), isV (.bool false), isV (.bool false), isV (.int .i64 0), isV (.bool false), isV (.bool false), isV (.bool false), isV (.int .i64 0), isV (.bool false), isV (.bool false)] [some 45, some 46, some 47, some 48, some 49, some 50, some 51, some 52, some 53, some 54, some 55, some 56, some 57, some 58, some 59, some 60, some 61, some 62, some 63, some 64] (by intro f hf; simp only [List.mem_cons, List.not_mem_nil, or_false] at hf; rcases hf with rfl | rfl | rfl | rfl | rfl | rfl | rfl | rfl | rfl | rfl | rfl | rfl | rfl | rfl | rfl | rfl | rfl | rfl | rfl | rfl; exact Dag.stabV _; exact Dag.stabV _; exact Dag.stabV _; exact Dag.stabV _; exact Dag.stabV _; exact Dag.stabB _; exact Dag.stabV _; exact Dag.stabV _; exact Dag.stabB _; exact Dag.stabV _; exact Dag.stabV _; exact Dag.stabV _; exact Dag.stabV _; exact Dag.stabV _; exact Dag.stabV _; exact Dag.stabV _; exact Dag.stabV _; exact Dag.stabV _; exact Dag.stabV _; exact Dag.stabV _) (by kernel_rfl) (by kernel_rfl) (by kernel_rfl) ⟨?_, ?_, ?_, ?_, ?_, ?_, ?_, ?_, ?_, ?_, ?_, ?_, ?_, ?_, ?_, ?_, ?_, ?_, ?_, ?_, trivial⟩ ?_
    · intro a' w' K hext hsees hK
      have y5 : a'.tmps[5]? = some (.string (textT a s t r)) := (hsees.old (t := 5) (by kernel_rfl) (by kernel_rfl)).trans rfl
      have e5 := Dag.eval_of y5
      refine Dag.wpOp_lit rfl ?_
      go_simp
      exact hK _ _ rfl (Ext.refl _)
    · intro a' w' K hext hsees hK
      have y2 : a'.tmps[2]? = some (.pointer (some ⟨w.heap.size, 0, none⟩)) := (hsees.old (t := 2) (by kernel_rfl) (by kernel_rfl)).trans rfl
      have e2 := Dag.eval_of y2
      refine Dag.wpOp_lit rfl ?_
      have l0 := hext.cell k0
      have l1 := hext.cell k1
      have l2 := hext.cell k2
      have l3 := hext.cell k3
      go_simp
      exact hK _ _ rfl (Ext.refl _)
    · intro a' w' K hext hsees hK
      obtain ⟨v46, y46, f46⟩ := hsees.new (t := 46) (j := 1) (by kernel_rfl) (by kernel_rfl)
      obtain rfl : v46 = .agg #[.int .i64 a, .int .i64 s, .int .i64 t, .int .i64 r] := f46
      have e46 := Dag.eval_of y46
      refine Dag.wpOp_lit rfl ?_
      go_simp
      refine (rText13_any a s t r _ HVV.out).mono ?_
      rintro e w_c ⟨rfl, hx_c⟩
      exact hK _ _ rfl hx_c
    · intro a' w' K hext hsees hK
      obtain ⟨v45, y45, f45⟩ := hsees.new (t := 45) (j := 0) (by kernel_rfl) (by kernel_rfl)
      obtain rfl : v45 = .string (textT a s t r) := f45
      have e45 := Dag.eval_of y45
      obtain ⟨v47, y47, f47⟩ := hsees.new (t := 47) (j := 2) (by kernel_rfl) (by kernel_rfl)
      obtain rfl : v47 = .string (textT a s t r) := f47
      have e47 := Dag.eval_of y47
      refine Dag.wpOp_lit rfl ?_
      go_simp
      exact hK _ _ rfl (Ext.refl _)
    · intro a' w' K hext hsees hK
      obtain ⟨v48, y48, f48⟩ := hsees.new (t := 48) (j := 3) (by kernel_rfl) (by kernel_rfl)
      obtain rfl : v48 = .bool false := f48
      have e48 := Dag.eval_of y48
      refine Dag.wpOp_lit rfl ?_
      go_simp
      exact hK _ _ rfl (Ext.refl _)
    · intro a' w' K hext hsees hK
      have y7 : a'.tmps[7]? = some (.slice A7 (encB a s t r).length c7) := (hsees.old (t := 7) (by kernel_rfl) (by kernel_rfl)).trans rfl
      have hP7 := hP7.ext ((Ext.refl _).drew.trans hext)
      have e7 := Dag.eval_of y7
      obtain ⟨v49, y49, f49⟩ := hsees.new (t := 49) (j := 4) (by kernel_rfl) (by kernel_rfl)
      obtain rfl : v49 = .bool false := f49
      have e49 := Dag.eval_of y49
      refine Dag.wpOp_lit rfl ?_
      go_simp
      exact hK _ _ ⟨A7, c7, rfl, hP7, hc7⟩ (Ext.refl _)
    · intro a' w' K hext hsees hK
      obtain ⟨v50, y50, f50⟩ := hsees.new (t := 50) (j := 5) (by kernel_rfl) (by kernel_rfl)
      obtain ⟨A50, c50, rfl, hP50, hc50⟩ := f50
      have e50 := Dag.eval_of y50
      obtain ⟨v49, y49, f49⟩ := hsees.new (t := 49) (j := 4) (by kernel_rfl) (by kernel_rfl)
      obtain rfl : v49 = .bool false := f49
      have e49 := Dag.eval_of y49
      refine Dag.wpOp_lit rfl ?_
      have hva := conv_bs _ c50 hP50.1 rfl
      go_simp
      exact hK _ _ rfl (Ext.refl _)
    · intro a' w' K hext hsees hK
      have y2 : a'.tmps[2]? = some (.pointer (some ⟨w.heap.size, 0, none⟩)) := (hsees.old (t := 2) (by kernel_rfl) (by kernel_rfl)).trans rfl
      have e2 := Dag.eval_of y2
      obtain ⟨v49, y49, f49⟩ := hsees.new (t := 49) (j := 4) (by kernel_rfl) (by kernel_rfl)
      obtain rfl : v49 = .bool false := f49
      have e49 := Dag.eval_of y49
      refine Dag.wpOp_lit rfl ?_
      have l0 := hext.cell k0
      have l1 := hext.cell k1
      have l2 := hext.cell k2
      have l3 := hext.cell k3
      go_simp
      exact hK _ _ rfl (Ext.refl _)
    · intro a' w' K hext hsees hK
      obtain ⟨v52, y52, f52⟩ := hsees.new (t := 52) (j := 7) (by kernel_rfl) (by kernel_rfl)
      obtain rfl : v52 = .agg #[.int .i64 a, .int .i64 s, .int .i64 t, .int .i64 r] := f52
      have e52 := Dag.eval_of y52
      obtain ⟨v49, y49, f49⟩ := hsees.new (t := 49) (j := 4) (by kernel_rfl) (by kernel_rfl)
      obtain rfl : v49 = .bool false := f49
      have e49 := Dag.eval_of y49
      refine Dag.wpOp_lit rfl ?_
      go_simp
      refine (rEncode13_any a s t r _ HVV.out).mono ?_
      intro e w_c hb_c
      obtain ⟨v_c, rfl, hb_c, hx_c⟩ := isB.of hb_c
      exact hK _ _ hb_c hx_c
    · intro a' w' K hext hsees hK
      obtain ⟨v53, y53, f53⟩ := hsees.new (t := 53) (j := 8) (by kernel_rfl) (by kernel_rfl)
      obtain ⟨A53, c53, rfl, hP53, hc53⟩ := f53
      have e53 := Dag.eval_of y53
      obtain ⟨v49, y49, f49⟩ := hsees.new (t := 49) (j := 4) (by kernel_rfl) (by kernel_rfl)
      obtain rfl : v49 = .bool false := f49
      have e49 := Dag.eval_of y49
      refine Dag.wpOp_lit rfl ?_
      have hva := conv_bs _ c53 hP53.1 rfl
      go_simp
      exact hK _ _ rfl (Ext.refl _)
    · intro a' w' K hext hsees hK
      obtain ⟨v51, y51, f51⟩ := hsees.new (t := 51) (j := 6) (by kernel_rfl) (by kernel_rfl)
      obtain rfl : v51 = .string (strOf (encB a s t r)) := f51
      have e51 := Dag.eval_of y51
      obtain ⟨v54, y54, f54⟩ := hsees.new (t := 54) (j := 9) (by kernel_rfl) (by kernel_rfl)
      obtain rfl : v54 = .string (strOf (encB a s t r)) := f54
      have e54 := Dag.eval_of y54
      obtain ⟨v49, y49, f49⟩ := hsees.new (t := 49) (j := 4) (by kernel_rfl) (by kernel_rfl)
      obtain rfl : v49 = .bool false := f49
      have e49 := Dag.eval_of y49
      refine Dag.wpOp_lit rfl ?_
      go_simp
      exact hK _ _ rfl (Ext.refl _)
    · intro a' w' K hext hsees hK
      obtain ⟨v49, y49, f49⟩ := hsees.new (t := 49) (j := 4) (by kernel_rfl) (by kernel_rfl)
      obtain rfl : v49 = .bool false := f49
      have e49 := Dag.eval_of y49
      obtain ⟨v55, y55, f55⟩ := hsees.new (t := 55) (j := 10) (by kernel_rfl) (by kernel_rfl)
      obtain rfl : v55 = .bool false := f55
      have e55 := Dag.eval_of y55
      refine Dag.wpOp_lit rfl ?_
      go_simp
      exact hK _ _ rfl (Ext.refl _)
    · intro a' w' K hext hsees hK
      obtain ⟨v56, y56, f56⟩ := hsees.new (t := 56) (j := 11) (by kernel_rfl) (by kernel_rfl)
      obtain rfl : v56 = .bool false := f56
      have e56 := Dag.eval_of y56
      refine Dag.wpOp_lit rfl ?_
      go_simp
      exact hK _ _ rfl (Ext.refl _)
    · intro a' w' K hext hsees hK
      have y6 : a'.tmps[6]? = some (.int .i64 0) := (hsees.old (t := 6) (by kernel_rfl) (by kernel_rfl)).trans rfl
      have e6 := Dag.eval_of y6
      obtain ⟨v57, y57, f57⟩ := hsees.new (t := 57) (j := 12) (by kernel_rfl) (by kernel_rfl)
      obtain rfl : v57 = .bool false := f57
      have e57 := Dag.eval_of y57
      refine Dag.wpOp_lit rfl ?_
      go_simp
      exact hK _ _ rfl (Ext.refl _)
    · intro a' w' K hext hsees hK
      obtain ⟨v58, y58, f58⟩ := hsees.new (t := 58) (j := 13) (by kernel_rfl) (by kernel_rfl)
      obtain rfl : v58 = .int .i64 0 := f58
      have e58 := Dag.eval_of y58
      obtain ⟨v57, y57, f57⟩ := hsees.new (t := 57) (j := 12) (by kernel_rfl) (by kernel_rfl)
      obtain rfl : v57 = .bool false := f57
      have e57 := Dag.eval_of y57
      refine Dag.wpOp_lit rfl ?_
      go_simp
      exact hK _ _ rfl (Ext.refl _)
    · intro a' w' K hext hsees hK
      obtain ⟨v57, y57, f57⟩ := hsees.new (t := 57) (j := 12) (by kernel_rfl) (by kernel_rfl)
      obtain rfl : v57 = .bool false := f57
      have e57 := Dag.eval_of y57
      obtain ⟨v59, y59, f59⟩ := hsees.new (t := 59) (j := 14) (by kernel_rfl) (by kernel_rfl)
      obtain rfl : v59 = .bool false := f59
      have e59 := Dag.eval_of y59
      refine Dag.wpOp_lit rfl ?_
      go_simp
      exact hK _ _ rfl (Ext.refl _)
    · intro a' w' K hext hsees hK
      obtain ⟨v60, y60, f60⟩ := hsees.new (t := 60) (j := 15) (by kernel_rfl) (by kernel_rfl)
      obtain rfl : v60 = .bool false := f60
      have e60 := Dag.eval_of y60
      refine Dag.wpOp_lit rfl ?_
      go_simp
      exact hK _ _ rfl (Ext.refl _)
    · intro a' w' K hext hsees hK
      have y8 : a'.tmps[8]? = some (.int .i64 0) := (hsees.old (t := 8) (by kernel_rfl) (by kernel_rfl)).trans rfl
      have e8 := Dag.eval_of y8
      obtain ⟨v61, y61, f61⟩ := hsees.new (t := 61) (j := 16) (by kernel_rfl) (by kernel_rfl)
      obtain rfl : v61 = .bool false := f61
      have e61 := Dag.eval_of y61
      refine Dag.wpOp_lit rfl ?_
      go_simp
      exact hK _ _ rfl (Ext.refl _)
    · intro a' w' K hext hsees hK
      obtain ⟨v62, y62, f62⟩ := hsees.new (t := 62) (j := 17) (by kernel_rfl) (by kernel_rfl)
      obtain rfl : v62 = .int .i64 0 := f62
      have e62 := Dag.eval_of y62
      obtain ⟨v61, y61, f61⟩ := hsees.new (t := 61) (j := 16) (by kernel_rfl) (by kernel_rfl)
      obtain rfl : v61 = .bool false := f61
      have e61 := Dag.eval_of y61
      refine Dag.wpOp_lit rfl ?_
      go_simp
      exact hK _ _ rfl (Ext.refl _)
    · intro a' w' K hext hsees hK
      obtain ⟨v61, y61, f61⟩ := hsees.new (t := 61) (j := 16) (by kernel_rfl) (by kernel_rfl)
      obtain rfl : v61 = .bool false := f61
      have e61 := Dag.eval_of y61
      obtain ⟨v63, y63, f63⟩ := hsees.new (t := 63) (j := 18) (by kernel_rfl) (by kernel_rfl)
      obtain rfl : v63 = .bool false := f63
      have e63 := Dag.eval_of y63
      refine Dag.wpOp_lit rfl ?_
      go_simp
      exact hK _ _ rfl (Ext.refl _)
    intro vs w' hw' hv
    have h19 : vs 19 = .bool false := hv 19 (by decide)
    simp only [Dag.putL, Act.put, List.setIfInBounds_toArray, List.set_cons_zero, List.set_cons_succ, h19]
    have X8 := X3.out.drew.trans hw'
    clear k0 k1 k2 k3 hP7 hw' hv
    go_wp2_with fail
    (go_at_call 11; (with_reducible refine (parse13_at HP.out hxs _ (HV.out.ext (by repeat (first | exact Ext.refl _ | assumption | refine Ext.drew ?_ | refine Ext.alloc ?_ _ | refine Ext.setCell ?_ (by first | exact Nat.le_refl _ | (simp; done) | (simp; omega)) _ | refine Ext.trans ?_ (by assumption)))) (Ext.tab ((by repeat (first | exact Ext.refl _ | assumption | refine Ext.drew ?_ | refine Ext.alloc ?_ _ | refine Ext.setCell ?_ (by first | exact Nat.le_refl _ | (simp; done) | (simp; omega)) _ | refine Ext.trans ?_ (by assumption)))) pow10_g Htab.out)).mono ?_); rintro e w4 ⟨rfl, hx4⟩)
    have HC := Lib.hid (heap_new w4 (.cells #[.int .i64 pa, .int .i64 pb, .int .i64 pc, .int .i64 pd] 23))
    go_wp2_with fail
    (go_at_call 12; (with_reducible refine (rParse13_at HP.out hxs _).mono ?_); rintro e w5 ⟨rfl, hx5⟩)
    obtain ⟨j0, j1, j2, j3, _, _, _, _⟩ := four_cells (hx5.heap HC.out)
    have hlt5 : w4.heap.size < w5.heap.size := by have := hx5.sz; simp at this; omega
    go_wp2_with (go_at_call 5; refine (known_any _ (Ext.tab ((by repeat (first | exact Ext.refl _ | assumption | refine Ext.drew ?_ | refine Ext.alloc ?_ _ | refine Ext.setCell ?_ (by first | exact Nat.le_refl _ | (simp; done) | (simp; omega)) _ | refine Ext.trans ?_ (by assumption)))) pow10_g Htab.out)).mono ?_; rintro e w_known ⟨rfl, hx_known⟩)
    go_ret
    exact ⟨rfl, (by repeat (first | exact Ext.refl _ | assumption | refine Ext.drew ?_ | refine Ext.alloc ?_ _ | refine Ext.setCell ?_ (by first | exact Nat.le_refl _ | (simp; done) | (simp; omega)) _ | refine Ext.trans ?_ (by assumption)))⟩
end Go.Proofs.YtdpjkocpdomkbaaGreatDoor
