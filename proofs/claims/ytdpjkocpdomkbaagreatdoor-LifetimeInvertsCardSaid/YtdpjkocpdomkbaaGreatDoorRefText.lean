/- The reference's Text, chapter 13. Printed by tools/rtext13.py. -/
import Derived.Test.YtdpjkocpdomkbaaGreatDoorConv
import Derived.Test.YtdpjkocpdomkbaaGreatDoorLifeB
namespace Go.Proofs.YtdpjkocpdomkbaaGreatDoor
open Go.RowKit
theorem text_str (a s t r : Int) (ha : 0 ≤ a) (hs : 0 ≤ s) (ht : 0 ≤ t) (hr : 0 ≤ r) : (((((strOf (Lib.decDigits a.toNat) ++ ⟨#[32]⟩) ++ strOf (Lib.decDigits s.toNat)) ++ ⟨#[32]⟩) ++ strOf (Lib.decDigits t.toNat)) ++ ⟨#[32]⟩) ++ strOf (Lib.decDigits r.toNat) = textT a s t r := by
  have hi : ∀ z : Int, 0 ≤ z → Lib.itoa z = Lib.decDigits z.toNat := fun z hz => by unfold Lib.itoa; rw [if_neg (by omega)]
  have hc : (⟨#[32]⟩ : ByteArray) = strOf [32] := rfl
  rw [textT_def, hc]
  simp only [str_add, List.map_cons, List.map_nil, hi a ha, hi s hs, hi t ht, hi r hr, Lib.join_cons, Lib.joinTail]
  simp [strOf]
theorem dec_int (z : Int) (h0 : 0 ≤ z) (h1 : z ≤ 1099511627776) (w : World) : Calls Tryz.prog 27 #[.int .i64 z] w fun e w' => e = .returned (.string (strOf (Lib.decDigits z.toNat))) ∧ Ext w w' :=
  rDecimal_any z.toNat (by omega) z (by omega) w
theorem dec_sz (z : Int) (h0 : 0 ≤ z) (h1 : z ≤ 1099511627776) : (strOf (Lib.decDigits z.toNat)).size ≤ 21 := dec_size _ (by omega)
set_option maxRecDepth 8000 in
set_option maxHeartbeats 6400000 in
theorem rText13_any (a s t r : Int) (w : World) (hv : validT a s t r = true) : Calls Tryz.prog 9 #[.agg #[.int .i64 a, .int .i64 s, .int .i64 t, .int .i64 r]] w fun e w' => e = .returned (.string (textT a s t r)) ∧ Ext w w' := by
  obtain ⟨⟨ha0, ha1⟩, ⟨hs0, hs1⟩, ⟨ht0, ht1⟩, ⟨hr0, hr1⟩, _, _, h3⟩ := validT_true hv
  clear h3 hv
  have HE := Lib.hid (text_str a s t r ha0 hs0 ht0 hr0)
  have CA := Lib.hid (dec_int a ha0 ha1)
  have CS := Lib.hid (dec_int s hs0 hs1)
  have CT := Lib.hid (dec_int t ht0 ht1)
  have CR := Lib.hid (dec_int r hr0 hr1)
  have za := dec_sz a ha0 ha1
  have zs := dec_sz s hs0 hs1
  have zt := dec_sz t ht0 ht1
  have zr := dec_sz r hr0 hr1
  generalize strOf (Lib.decDigits a.toNat) = SA at *
  generalize strOf (Lib.decDigits s.toNat) = SS at *
  generalize strOf (Lib.decDigits t.toNat) = ST at *
  generalize strOf (Lib.decDigits r.toNat) = SR at *
  clear ha0 ha1 hs0 hs1 ht0 ht1 hr0 hr1
  have hx0 := (Ext.refl w).alloc (.cells #[.int .i64 a, .int .i64 s, .int .i64 t, .int .i64 r] 23)
  obtain ⟨k0, k1, k2, k3, z0, z1, z2, z3⟩ := four_cells (heap_new w (.cells #[.int .i64 a, .int .i64 s, .int .i64 t, .int .i64 r] 23))
  go_enter Tryz.func9, Tryz.ntmps9
  go_wp2_with fail
  refine Dag.wp_region_props [isV (.pointer (some ⟨w.heap.size, 0, none⟩)), isV (.int .i64 a), isV (.string (SA)), isV (.string (SA ++ ⟨#[32]⟩)), isV (.pointer (some ⟨w.heap.size, 1, none⟩)), isV (.int .i64 s), isV (.string (SS)), isV (.string ((SA ++ ⟨#[32]⟩) ++ SS)), isV (.string (((SA ++ ⟨#[32]⟩) ++ SS) ++ ⟨#[32]⟩)), isV (.pointer (some ⟨w.heap.size, 2, none⟩)), isV (.int .i64 t), isV (.string (ST)), isV (.string ((((SA ++ ⟨#[32]⟩) ++ SS) ++ ⟨#[32]⟩) ++ ST)), isV (.string (((((SA ++ ⟨#[32]⟩) ++ SS) ++ ⟨#[32]⟩) ++ ST) ++ ⟨#[32]⟩)), isV (.pointer (some ⟨w.heap.size, 3, none⟩)), isV (.int .i64 r), isV (.string (SR)), isV (.string ((((((SA ++ ⟨#[32]⟩) ++ SS) ++ ⟨#[32]⟩) ++ ST) ++ ⟨#[32]⟩) ++ SR)), isV (.string ((((((SA ++ ⟨#[32]⟩) ++ SS) ++ ⟨#[32]⟩) ++ ST) ++ ⟨#[32]⟩) ++ SR))] [some 3, some 4, some 5, some 6, some 7, some 8, some 9, some 10, some 11, some 12, some 13, some 14, some 15, some 16, some 17, some 18, some 19, some 20, some 2] (by intro f hf; simp only [List.mem_cons, List.not_mem_nil, or_false] at hf; rcases hf with rfl | rfl | rfl | rfl | rfl | rfl | rfl | rfl | rfl | rfl | rfl | rfl | rfl | rfl | rfl | rfl | rfl | rfl | rfl; exact Dag.stabV _; exact Dag.stabV _; exact Dag.stabV _; exact Dag.stabV _; exact Dag.stabV _; exact Dag.stabV _; exact Dag.stabV _; exact Dag.stabV _; exact Dag.stabV _; exact Dag.stabV _; exact Dag.stabV _; exact Dag.stabV _; exact Dag.stabV _; exact Dag.stabV _; exact Dag.stabV _; exact Dag.stabV _; exact Dag.stabV _; exact Dag.stabV _; exact Dag.stabV _) (by kernel_rfl) (by kernel_rfl) (by kernel_rfl) ⟨?_, ?_, ?_, ?_, ?_, ?_, ?_, ?_, ?_, ?_, ?_, ?_, ?_, ?_, ?_, ?_, ?_, ?_, ?_, trivial⟩ ?_
  · intro a' w' K hext hsees hK
    have y1 : a'.tmps[1]? = some (.pointer (some ⟨w.heap.size, 0, none⟩)) := (hsees.old (t := 1) (by kernel_rfl) (by kernel_rfl)).trans rfl
    have e1 := Dag.eval_of y1
    refine Dag.wpOp_lit rfl ?_
    go_simp
    exact hK _ _ rfl (Ext.refl _)
  · intro a' w' K hext hsees hK
    obtain ⟨v3, y3, f3⟩ := hsees.new (t := 3) (j := 0) (by kernel_rfl) (by kernel_rfl)
    obtain rfl : v3 = .pointer (some ⟨w.heap.size, 0, none⟩) := f3
    have e3 := Dag.eval_of y3
    refine Dag.wpOp_lit rfl ?_
    have hcc := (hext.cell k0)
    go_simp
    exact hK _ _ rfl (Ext.refl _)
  · intro a' w' K hext hsees hK
    obtain ⟨v4, y4, f4⟩ := hsees.new (t := 4) (j := 1) (by kernel_rfl) (by kernel_rfl)
    obtain rfl : v4 = .int .i64 a := f4
    have e4 := Dag.eval_of y4
    refine Dag.wpOp_lit rfl ?_
    go_simp
    refine (CA.out _).mono ?_
    rintro e w_c ⟨rfl, hx_c⟩
    exact hK _ _ rfl hx_c
  · intro a' w' K hext hsees hK
    obtain ⟨v5, y5, f5⟩ := hsees.new (t := 5) (j := 2) (by kernel_rfl) (by kernel_rfl)
    obtain rfl : v5 = .string (SA) := f5
    have e5 := Dag.eval_of y5
    refine Dag.wpOp_lit rfl ?_
    go_simp
    rw [if_neg (by first | omega | (simp only [ByteArray.size_append]; omega) | (simp [ByteArray.size_append]; omega) | (simp [ByteArray.size_append, ByteArray.size] at *; omega))]
    go_simp
    exact hK _ _ rfl (Ext.refl _)
  · intro a' w' K hext hsees hK
    have y1 : a'.tmps[1]? = some (.pointer (some ⟨w.heap.size, 0, none⟩)) := (hsees.old (t := 1) (by kernel_rfl) (by kernel_rfl)).trans rfl
    have e1 := Dag.eval_of y1
    refine Dag.wpOp_lit rfl ?_
    go_simp
    exact hK _ _ rfl (Ext.refl _)
  · intro a' w' K hext hsees hK
    obtain ⟨v7, y7, f7⟩ := hsees.new (t := 7) (j := 4) (by kernel_rfl) (by kernel_rfl)
    obtain rfl : v7 = .pointer (some ⟨w.heap.size, 1, none⟩) := f7
    have e7 := Dag.eval_of y7
    refine Dag.wpOp_lit rfl ?_
    have hcc := (hext.cell k1)
    go_simp
    exact hK _ _ rfl (Ext.refl _)
  · intro a' w' K hext hsees hK
    obtain ⟨v8, y8, f8⟩ := hsees.new (t := 8) (j := 5) (by kernel_rfl) (by kernel_rfl)
    obtain rfl : v8 = .int .i64 s := f8
    have e8 := Dag.eval_of y8
    refine Dag.wpOp_lit rfl ?_
    go_simp
    refine (CS.out _).mono ?_
    rintro e w_c ⟨rfl, hx_c⟩
    exact hK _ _ rfl hx_c
  · intro a' w' K hext hsees hK
    obtain ⟨v6, y6, f6⟩ := hsees.new (t := 6) (j := 3) (by kernel_rfl) (by kernel_rfl)
    obtain rfl : v6 = .string (SA ++ ⟨#[32]⟩) := f6
    have e6 := Dag.eval_of y6
    obtain ⟨v9, y9, f9⟩ := hsees.new (t := 9) (j := 6) (by kernel_rfl) (by kernel_rfl)
    obtain rfl : v9 = .string (SS) := f9
    have e9 := Dag.eval_of y9
    refine Dag.wpOp_lit rfl ?_
    go_simp
    rw [if_neg (by first | omega | (simp only [ByteArray.size_append]; omega) | (simp [ByteArray.size_append]; omega) | (simp [ByteArray.size_append, ByteArray.size] at *; omega))]
    go_simp
    exact hK _ _ rfl (Ext.refl _)
  · intro a' w' K hext hsees hK
    obtain ⟨v10, y10, f10⟩ := hsees.new (t := 10) (j := 7) (by kernel_rfl) (by kernel_rfl)
    obtain rfl : v10 = .string ((SA ++ ⟨#[32]⟩) ++ SS) := f10
    have e10 := Dag.eval_of y10
    refine Dag.wpOp_lit rfl ?_
    go_simp
    rw [if_neg (by first | omega | (simp only [ByteArray.size_append]; omega) | (simp [ByteArray.size_append]; omega) | (simp [ByteArray.size_append, ByteArray.size] at *; omega))]
    go_simp
    exact hK _ _ rfl (Ext.refl _)
  · intro a' w' K hext hsees hK
    have y1 : a'.tmps[1]? = some (.pointer (some ⟨w.heap.size, 0, none⟩)) := (hsees.old (t := 1) (by kernel_rfl) (by kernel_rfl)).trans rfl
    have e1 := Dag.eval_of y1
    refine Dag.wpOp_lit rfl ?_
    go_simp
    exact hK _ _ rfl (Ext.refl _)
  · intro a' w' K hext hsees hK
    obtain ⟨v12, y12, f12⟩ := hsees.new (t := 12) (j := 9) (by kernel_rfl) (by kernel_rfl)
    obtain rfl : v12 = .pointer (some ⟨w.heap.size, 2, none⟩) := f12
    have e12 := Dag.eval_of y12
    refine Dag.wpOp_lit rfl ?_
    have hcc := (hext.cell k2)
    go_simp
    exact hK _ _ rfl (Ext.refl _)
  · intro a' w' K hext hsees hK
    obtain ⟨v13, y13, f13⟩ := hsees.new (t := 13) (j := 10) (by kernel_rfl) (by kernel_rfl)
    obtain rfl : v13 = .int .i64 t := f13
    have e13 := Dag.eval_of y13
    refine Dag.wpOp_lit rfl ?_
    go_simp
    refine (CT.out _).mono ?_
    rintro e w_c ⟨rfl, hx_c⟩
    exact hK _ _ rfl hx_c
  · intro a' w' K hext hsees hK
    obtain ⟨v11, y11, f11⟩ := hsees.new (t := 11) (j := 8) (by kernel_rfl) (by kernel_rfl)
    obtain rfl : v11 = .string (((SA ++ ⟨#[32]⟩) ++ SS) ++ ⟨#[32]⟩) := f11
    have e11 := Dag.eval_of y11
    obtain ⟨v14, y14, f14⟩ := hsees.new (t := 14) (j := 11) (by kernel_rfl) (by kernel_rfl)
    obtain rfl : v14 = .string (ST) := f14
    have e14 := Dag.eval_of y14
    refine Dag.wpOp_lit rfl ?_
    go_simp
    rw [if_neg (by first | omega | (simp only [ByteArray.size_append]; omega) | (simp [ByteArray.size_append]; omega) | (simp [ByteArray.size_append, ByteArray.size] at *; omega))]
    go_simp
    exact hK _ _ rfl (Ext.refl _)
  · intro a' w' K hext hsees hK
    obtain ⟨v15, y15, f15⟩ := hsees.new (t := 15) (j := 12) (by kernel_rfl) (by kernel_rfl)
    obtain rfl : v15 = .string ((((SA ++ ⟨#[32]⟩) ++ SS) ++ ⟨#[32]⟩) ++ ST) := f15
    have e15 := Dag.eval_of y15
    refine Dag.wpOp_lit rfl ?_
    go_simp
    rw [if_neg (by first | omega | (simp only [ByteArray.size_append]; omega) | (simp [ByteArray.size_append]; omega) | (simp [ByteArray.size_append, ByteArray.size] at *; omega))]
    go_simp
    exact hK _ _ rfl (Ext.refl _)
  · intro a' w' K hext hsees hK
    have y1 : a'.tmps[1]? = some (.pointer (some ⟨w.heap.size, 0, none⟩)) := (hsees.old (t := 1) (by kernel_rfl) (by kernel_rfl)).trans rfl
    have e1 := Dag.eval_of y1
    refine Dag.wpOp_lit rfl ?_
    go_simp
    exact hK _ _ rfl (Ext.refl _)
  · intro a' w' K hext hsees hK
    obtain ⟨v17, y17, f17⟩ := hsees.new (t := 17) (j := 14) (by kernel_rfl) (by kernel_rfl)
    obtain rfl : v17 = .pointer (some ⟨w.heap.size, 3, none⟩) := f17
    have e17 := Dag.eval_of y17
    refine Dag.wpOp_lit rfl ?_
    have hcc := (hext.cell k3)
    go_simp
    exact hK _ _ rfl (Ext.refl _)
  · intro a' w' K hext hsees hK
    obtain ⟨v18, y18, f18⟩ := hsees.new (t := 18) (j := 15) (by kernel_rfl) (by kernel_rfl)
    obtain rfl : v18 = .int .i64 r := f18
    have e18 := Dag.eval_of y18
    refine Dag.wpOp_lit rfl ?_
    go_simp
    refine (CR.out _).mono ?_
    rintro e w_c ⟨rfl, hx_c⟩
    exact hK _ _ rfl hx_c
  · intro a' w' K hext hsees hK
    obtain ⟨v16, y16, f16⟩ := hsees.new (t := 16) (j := 13) (by kernel_rfl) (by kernel_rfl)
    obtain rfl : v16 = .string (((((SA ++ ⟨#[32]⟩) ++ SS) ++ ⟨#[32]⟩) ++ ST) ++ ⟨#[32]⟩) := f16
    have e16 := Dag.eval_of y16
    obtain ⟨v19, y19, f19⟩ := hsees.new (t := 19) (j := 16) (by kernel_rfl) (by kernel_rfl)
    obtain rfl : v19 = .string (SR) := f19
    have e19 := Dag.eval_of y19
    refine Dag.wpOp_lit rfl ?_
    go_simp
    rw [if_neg (by first | omega | (simp only [ByteArray.size_append]; omega) | (simp [ByteArray.size_append]; omega) | (simp [ByteArray.size_append, ByteArray.size] at *; omega))]
    go_simp
    exact hK _ _ rfl (Ext.refl _)
  · intro a' w' K hext hsees hK
    obtain ⟨v20, y20, f20⟩ := hsees.new (t := 20) (j := 17) (by kernel_rfl) (by kernel_rfl)
    obtain rfl : v20 = .string ((((((SA ++ ⟨#[32]⟩) ++ SS) ++ ⟨#[32]⟩) ++ ST) ++ ⟨#[32]⟩) ++ SR) := f20
    have e20 := Dag.eval_of y20
    refine Dag.wpOp_lit rfl ?_
    go_simp
    exact hK _ _ rfl (Ext.refl _)
  intro vs w' hw' hv
  have h18 : vs 18 = .string ((((((SA ++ ⟨#[32]⟩) ++ SS) ++ ⟨#[32]⟩) ++ ST) ++ ⟨#[32]⟩) ++ SR) := hv 18 (by decide)
  simp only [Dag.putL, Act.put, List.setIfInBounds_toArray, List.set_cons_zero, List.set_cons_succ, h18]
  rw [HE.out]
  go_wp2_with fail
  go_ret
  exact ⟨rfl, hx0.drew.trans hw'⟩
end Go.Proofs.YtdpjkocpdomkbaaGreatDoor
