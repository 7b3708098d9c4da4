/- The contract of the reference's Encode. Printed by tools/enc13.py. -/
import Derived.Test.YtdpjkocpdomkbaaGreatDoorLifeE
namespace Go.Proofs.YtdpjkocpdomkbaaGreatDoor
open Go.RowKit
attribute [local irreducible] encB timeB elB
/-- Bytes are kept where a row of slices grows. -/
theorem PartOk.grown {w w' : World} {p : Part} {g : Nat} {cs : Array Value} {T : TypeId} (h : PartOk w p) (hg : w.heap[g]? = some (.cells cs T (0, 0))) (hcs : ∀ x ∈ cs.toList, ∀ k n, x ≠ .int k n) (hw : w.grownBy w' (some g)) : PartOk w' p := by
  refine ⟨fun hne => ?_, h.2⟩
  obtain ⟨b, off, hA, hc⟩ := h.1 hne
  refine ⟨b, off, hA, fun j hj => ?_⟩
  have h1 := hc j hj
  have hb : b ≠ g := by
    rintro rfl
    rw [cell_heap hg (off + j)] at h1
    exact hcs _ (Array.mem_toList_iff.2 (Array.mem_of_getElem? h1)) _ _ rfl
  have hlt : b < w.heap.size := World.block_lt_of_cell? w ⟨b, off + j, none⟩ h1
  have hk := hw.block b hlt (fun e => hb (Option.some.inj e))
  rw [← h1]
  simp only [World.cell?]
  rw [hk]
theorem enc_zero3 (a s t r : Int) (h : r = 0) : elB 48 [elB 160 (timeB a), elB 161 (timeB s), elB 162 (timeB t)].flatten = encB a s t r := by rw [← enc_zero a s t r h]; simp
theorem flat_lt (a s t : Int) (l : List (List UInt8)) (h : l = [] ∨ ∃ r, l = [elB 163 (timeB r)]) : decide (([elB 160 (timeB a), elB 161 (timeB s), elB 162 (timeB t)] ++ l).flatten.length < 16777216) = true := by
  rcases h with rfl | ⟨r, rfl⟩ <;> simp [tagB_len]
set_option maxRecDepth 8000 in
set_option maxHeartbeats 12800000 in
theorem rEncode13_any (a s t r : Int) (w : World) (hv : validT a s t r = true) : Calls Tryz.prog 10 #[.agg #[.int .i64 a, .int .i64 s, .int .i64 t, .int .i64 r]] w (Bytes (encB a s t r) w) := by
  obtain ⟨⟨ha0, ha1⟩, ⟨hs0, hs1⟩, ⟨ht0, ht1⟩, ⟨hr0, hr1⟩, _, _, h3⟩ := validT_true hv
  clear h3 hv
  obtain ⟨i0, hi, hz0, hz1, hz2⟩ := info_parts info_bytes
  have hx0 := (Ext.refl w).alloc (.cells #[.int .i64 a, .int .i64 s, .int .i64 t, .int .i64 r] 23)
  have hb := heap_new w (.cells #[.int .i64 a, .int .i64 s, .int .i64 t, .int .i64 r] 23)
  have HH := Lib.hid hb
  obtain ⟨k0, k1, k2, k3, z0, z1, z2, z3⟩ := four_cells hb
  have hsz := hx0.sz
  clear hb
  go_enter Tryz.func10, Tryz.ntmps10
  go_wp2_with fail
  refine Dag.wp_region_props [isV (.pointer (some ⟨w.heap.size, 0, none⟩)), isV (.int .i64 a), isB (timeB a), isB (elB 160 (timeB a)), isV (.pointer (some ⟨w.heap.size, 1, none⟩)), isV (.int .i64 s), isB (timeB s), isB (elB 161 (timeB s)), isV (.pointer (some ⟨w.heap.size, 2, none⟩)), isV (.int .i64 t), isB (timeB t), isB (elB 162 (timeB t)), isPl w.heap.size [elB 160 (timeB a), elB 161 (timeB s), elB 162 (timeB t)], isPl w.heap.size [elB 160 (timeB a), elB 161 (timeB s), elB 162 (timeB t)]] [some 4, some 5, some 6, some 7, some 8, some 9, some 10, some 11, some 12, some 13, some 14, some 15, some 16, some 3] (by intro f hf; simp only [List.mem_cons, List.not_mem_nil, or_false] at hf; rcases hf with rfl | rfl | rfl | rfl | rfl | rfl | rfl | rfl | rfl | rfl | rfl | rfl | rfl | rfl; exact Dag.stabV _; exact Dag.stabV _; exact Dag.stabB _; exact Dag.stabB _; exact Dag.stabV _; exact Dag.stabV _; exact Dag.stabB _; exact Dag.stabB _; exact Dag.stabV _; exact Dag.stabV _; exact Dag.stabB _; exact Dag.stabB _; exact Dag.stabL _ _; exact Dag.stabL _ _) (by kernel_rfl) (by kernel_rfl) (by kernel_rfl) ⟨?_, ?_, ?_, ?_, ?_, ?_, ?_, ?_, ?_, ?_, ?_, ?_, ?_, ?_, trivial⟩ ?_
  · intro a' w' K hext hsees hK
    have y1 : a'.tmps[1]? = some (.pointer (some ⟨w.heap.size, 0, none⟩)) := (hsees.old (t := 1) (by kernel_rfl) (by kernel_rfl)).trans rfl
    have e1 := Dag.eval_of y1
    refine Dag.wpOp_lit rfl ?_
    go_simp
    exact hK _ _ rfl (Ext.refl _)
  · intro a' w' K hext hsees hK
    obtain ⟨v4, y4, f4⟩ := hsees.new (t := 4) (j := 0) (by kernel_rfl) (by kernel_rfl)
    obtain rfl : v4 = .pointer (some ⟨w.heap.size, 0, none⟩) := f4
    have e4 := Dag.eval_of y4
    refine Dag.wpOp_lit rfl ?_
    have hcc := (hext.cell k0)
    go_simp
    exact hK _ _ rfl (Ext.refl _)
  · intro a' w' K hext hsees hK
    obtain ⟨v5, y5, f5⟩ := hsees.new (t := 5) (j := 1) (by kernel_rfl) (by kernel_rfl)
    obtain rfl : v5 = .int .i64 a := f5
    have e5 := Dag.eval_of y5
    refine Dag.wpOp_lit rfl ?_
    go_simp
    refine (rTime_any a ha0 ha1 _).mono ?_
    intro e w_c hb_c
    obtain ⟨v_c, rfl, hb_c, hx_c⟩ := isB.of hb_c
    exact hK _ _ hb_c hx_c
  · intro a' w' K hext hsees hK
    obtain ⟨v6, y6, f6⟩ := hsees.new (t := 6) (j := 2) (by kernel_rfl) (by kernel_rfl)
    obtain ⟨A6, c6, rfl, hP6, hc6⟩ := f6
    have e6 := Dag.eval_of y6
    refine Dag.wpOp_lit rfl ?_
    go_simp
    refine (rTagged_any 0 (by decide) 0 rfl A6 (timeB a) _ c6 _ rfl (timeB_ne _) hP6 (timeB_lt _)).mono ?_
    intro e w_c hb_c
    obtain ⟨v_c, rfl, hb_c, hx_c⟩ := isB.of hb_c
    exact hK _ _ hb_c hx_c
  · intro a' w' K hext hsees hK
    have y1 : a'.tmps[1]? = some (.pointer (some ⟨w.heap.size, 0, none⟩)) := (hsees.old (t := 1) (by kernel_rfl) (by kernel_rfl)).trans rfl
    have e1 := Dag.eval_of y1
    refine Dag.wpOp_lit rfl ?_
    go_simp
    exact hK _ _ rfl (Ext.refl _)
  · intro a' w' K hext hsees hK
    obtain ⟨v8, y8, f8⟩ := hsees.new (t := 8) (j := 4) (by kernel_rfl) (by kernel_rfl)
    obtain rfl : v8 = .pointer (some ⟨w.heap.size, 1, none⟩) := f8
    have e8 := Dag.eval_of y8
    refine Dag.wpOp_lit rfl ?_
    have hcc := (hext.cell k1)
    go_simp
    exact hK _ _ rfl (Ext.refl _)
  · intro a' w' K hext hsees hK
    obtain ⟨v9, y9, f9⟩ := hsees.new (t := 9) (j := 5) (by kernel_rfl) (by kernel_rfl)
    obtain rfl : v9 = .int .i64 s := f9
    have e9 := Dag.eval_of y9
    refine Dag.wpOp_lit rfl ?_
    go_simp
    refine (rTime_any s hs0 hs1 _).mono ?_
    intro e w_c hb_c
    obtain ⟨v_c, rfl, hb_c, hx_c⟩ := isB.of hb_c
    exact hK _ _ hb_c hx_c
  · intro a' w' K hext hsees hK
    obtain ⟨v10, y10, f10⟩ := hsees.new (t := 10) (j := 6) (by kernel_rfl) (by kernel_rfl)
    obtain ⟨A10, c10, rfl, hP10, hc10⟩ := f10
    have e10 := Dag.eval_of y10
    refine Dag.wpOp_lit rfl ?_
    go_simp
    refine (rTagged_any 1 (by decide) 1 rfl A10 (timeB s) _ c10 _ rfl (timeB_ne _) hP10 (timeB_lt _)).mono ?_
    intro e w_c hb_c
    obtain ⟨v_c, rfl, hb_c, hx_c⟩ := isB.of hb_c
    exact hK _ _ hb_c hx_c
  · intro a' w' K hext hsees hK
    have y1 : a'.tmps[1]? = some (.pointer (some ⟨w.heap.size, 0, none⟩)) := (hsees.old (t := 1) (by kernel_rfl) (by kernel_rfl)).trans rfl
    have e1 := Dag.eval_of y1
    refine Dag.wpOp_lit rfl ?_
    go_simp
    exact hK _ _ rfl (Ext.refl _)
  · intro a' w' K hext hsees hK
    obtain ⟨v12, y12, f12⟩ := hsees.new (t := 12) (j := 8) (by kernel_rfl) (by kernel_rfl)
    obtain rfl : v12 = .pointer (some ⟨w.heap.size, 2, none⟩) := f12
    have e12 := Dag.eval_of y12
    refine Dag.wpOp_lit rfl ?_
    have hcc := (hext.cell k2)
    go_simp
    exact hK _ _ rfl (Ext.refl _)
  · intro a' w' K hext hsees hK
    obtain ⟨v13, y13, f13⟩ := hsees.new (t := 13) (j := 9) (by kernel_rfl) (by kernel_rfl)
    obtain rfl : v13 = .int .i64 t := f13
    have e13 := Dag.eval_of y13
    refine Dag.wpOp_lit rfl ?_
    go_simp
    refine (rTime_any t ht0 ht1 _).mono ?_
    intro e w_c hb_c
    obtain ⟨v_c, rfl, hb_c, hx_c⟩ := isB.of hb_c
    exact hK _ _ hb_c hx_c
  · intro a' w' K hext hsees hK
    obtain ⟨v14, y14, f14⟩ := hsees.new (t := 14) (j := 10) (by kernel_rfl) (by kernel_rfl)
    obtain ⟨A14, c14, rfl, hP14, hc14⟩ := f14
    have e14 := Dag.eval_of y14
    refine Dag.wpOp_lit rfl ?_
    go_simp
    refine (rTagged_any 2 (by decide) 2 rfl A14 (timeB t) _ c14 _ rfl (timeB_ne _) hP14 (timeB_lt _)).mono ?_
    intro e w_c hb_c
    obtain ⟨v_c, rfl, hb_c, hx_c⟩ := isB.of hb_c
    exact hK _ _ hb_c hx_c
  · intro a' w' K hext hsees hK
    obtain ⟨v7, y7, f7⟩ := hsees.new (t := 7) (j := 3) (by kernel_rfl) (by kernel_rfl)
    obtain ⟨A7, c7, rfl, hP7, hc7⟩ := f7
    have e7 := Dag.eval_of y7
    obtain ⟨v11, y11, f11⟩ := hsees.new (t := 11) (j := 7) (by kernel_rfl) (by kernel_rfl)
    obtain ⟨A11, c11, rfl, hP11, hc11⟩ := f11
    have e11 := Dag.eval_of y11
    obtain ⟨v15, y15, f15⟩ := hsees.new (t := 15) (j := 11) (by kernel_rfl) (by kernel_rfl)
    obtain ⟨A15, c15, rfl, hP15, hc15⟩ := f15
    have e15 := Dag.eval_of y15
    refine Dag.wpOp_lit rfl ?_
    go_simp
    refine hK _ _ ⟨_, [⟨A7, c7, elB 160 (timeB a)⟩, ⟨A11, c11, elB 161 (timeB s)⟩, ⟨A15, c15, elB 162 (timeB t)⟩], Nat.le_trans hsz hext.sz, rfl, rfl, heap_new _ _, ?_⟩ ((Ext.refl _).alloc _)
    intro p hp
    simp only [List.mem_cons, List.not_mem_nil, or_false] at hp
    rcases hp with rfl | rfl | rfl
    · exact hP7.ext ((Ext.refl _).alloc _)
    · exact hP11.ext ((Ext.refl _).alloc _)
    · exact hP15.ext ((Ext.refl _).alloc _)
  · intro a' w' K hext hsees hK
    obtain ⟨v16, y16, f16⟩ := hsees.new (t := 16) (j := 12) (by kernel_rfl) (by kernel_rfl)
    obtain ⟨g16, ps16, hB16, rfl, hps16, hat16, hok16⟩ := f16
    have e16 := Dag.eval_of y16
    refine Dag.wpOp_lit rfl ?_
    go_simp
    exact hK _ _ ⟨g16, ps16, hB16, rfl, hps16, hat16, hok16⟩ (Ext.refl _)
  intro vs w' hw' hv
  obtain ⟨g13, ps13, hB13, h13, hps13, hat13, hok13⟩ : isPl w.heap.size [elB 160 (timeB a), elB 161 (timeB s), elB 162 (timeB t)] (vs 13) w' := hv 13 (by decide)
  simp only [Dag.putL, Act.put, List.setIfInBounds_toArray, List.set_cons_zero, List.set_cons_succ, h13]
  have hX := hx0.drew.trans hw'
  have hb3 := hw'.heap HH.out
  clear k0 k1 k2 k3 z0 z1 z2 z3
  obtain ⟨k0, k1, k2, k3, z0, z1, z2, z3⟩ := four_cells hb3
  have hl : ps13.length = 3 := by have := congrArg List.length hps13; simpa using this
  have hO := isPl.own hB13 hat13 (by rw [hl]; decide)
  rw [hl] at hO
  simp only [List.length_cons, List.length_nil, Nat.reduceAdd]
  have hat : PartsAt w' g13 ps13 := fun j hj => by rw [cell_heap hat13 j]; simp [hj, pv]
  have HO := Lib.hid hO
  have HOK := Lib.hid hok13
  have HPS := Lib.hid hps13
  have HAT := Lib.hid hat13
  have HL := Lib.hid hl
  have HA := Lib.hid hat
  clear hO hok13 hps13 hat13 hb3 hl hat h13
  by_cases hz : r = 0
  · have dz : ((r : Int) != 0) = false := by simpa using hz
    have HZ := Lib.hid hz
    clear hz
    go_wp2_with fail
    (go_at_call 30; refine (rSeq_any ps13 g13 3 3 _ HL.out.symm HA.out HOK.out (by rw [flat_of HPS.out]; exact flat_lt a s t [] (.inl rfl)) (by decide)).mono ?_)
    intro e w3 hb
    rw [flat_of HPS.out, enc_zero3 a s t r HZ.out] at hb
    obtain ⟨A', c', rfl, hb, hc, hnil, hx'⟩ := hb
    go_wp2
    go_ret
    exact ⟨A', c', rfl, hb, hc, hnil, hX.trans hx'⟩
  · have dz : ((r : Int) != 0) = true := by simpa using hz
    have HZ := Lib.hid hz
    clear hz
    go_wp2_with fail
    (go_at_call 29; (with_reducible refine (rTime_any r hr0 hr1 _).mono ?_); rintro e w3 ⟨A3, c3, rfl, hb3, hc3, hnil3, hx3⟩)
    have HP3 : Hid (PartOk w3 ⟨A3, c3, timeB r⟩) := Lib.hid ⟨hb3.weak, hnil3⟩
    clear hb3
    go_wp2_with fail
    (go_at_call 28; (with_reducible refine (rTagged_any 3 (by decide) 3 rfl A3 (timeB r) _ c3 _ rfl (timeB_ne _) HP3.out (timeB_lt _)).mono ?_); rintro e w4 ⟨A4, c4, rfl, hb4, hc4, hnil4, hx4⟩)
    have HP4 : Hid (PartOk w4 ⟨A4, c4, elB 163 (timeB r)⟩) := Lib.hid ⟨hb4.weak, hnil4⟩
    have hx34 := (hx3.trans hx4).alloc (.cells [pv ⟨A4, c4, elB 163 (timeB r)⟩].toArray 28)
    have hbase := (hX.trans hx34).sz
    have hO4 := Lib.hid (ownsRow_ext HO.out hx34)
    have hnw := Lib.hid (lit_news (w := w4) (cs := [pv ⟨A4, c4, elB 163 (timeB r)⟩]) (T := 28))
    clear hb4
    go_wp2_with (at_builtin; (refine wpList_append_own _ rfl _ _ 62 rfl w.heap.size 28 i0 (.slice none 0 0) 1 24 Tryz.underlying62 hi hz0 hz1 hz2 rfl (by decide) _ _ _ rfl hO4.out ⟨w4.heap.size, 0, none⟩ 1 1 [pv ⟨A4, c4, elB 163 (timeB r)⟩] rfl rfl hnw.out (by intro u hu; simp only [List.mem_cons, List.not_mem_nil, or_false] at hu; subst hu; rfl) (by decide) (by decide) hbase ?_))
    intro v' w5 hown' hgrow _
    have hx5 : Ext w w5 := Ext.of_grown_new (hX.trans hx34) hgrow (fun g hg => (hO4.out.lt g hg).1)
    have hgr : ∀ p, PartOk (w4.alloc (.cells [pv ⟨A4, c4, elB 163 (timeB r)⟩].toArray 28)) p → PartOk w5 p := fun p hp => hp.grown (hx34.heap HAT.out) (by
      intro x hx k n
      simp only [List.mem_map] at hx
      obtain ⟨q, _, rfl⟩ := hx
      intro h; cases h) hgrow
    have hok5 : ∀ p ∈ ps13 ++ [Part.mk A4 c4 (elB 163 (timeB r))], PartOk w5 p := by
      intro p hp
      rcases List.mem_append.1 hp with hp | hp
      · exact hgr p ((HOK.out p hp).ext hx34)
      · simp only [List.mem_cons, List.not_mem_nil, or_false] at hp
        subst hp
        exact hgr _ (PartOk.ext HP4.out ((Ext.refl _).alloc _))
    have hps5 : (ps13 ++ [Part.mk A4 c4 (elB 163 (timeB r))]).map Part.bs = [elB 160 (timeB a), elB 161 (timeB s), elB 162 (timeB t)] ++ [elB 163 (timeB r)] := by rw [List.map_append, HPS.out]; rfl
    obtain ⟨g5, cap5, rfl, hat5⟩ := parts_own (ps := ps13 ++ [Part.mk A4 c4 (elB 163 (timeB r))]) (n := 4) (by rw [List.length_append, HL.out]; rfl) (by rw [List.map_append]; exact hown') (by simp)
    have HOK5 := Lib.hid hok5
    have HPS5 := Lib.hid hps5
    have HA5 := Lib.hid hat5
    clear hok5 hps5 hat5 hown' hgrow hgr
    go_wp2_with fail
    (go_at_call 30; refine (rSeq_any (ps13 ++ [Part.mk A4 c4 (elB 163 (timeB r))]) g5 cap5 4 _ (by rw [List.length_append, HL.out]; rfl) HA5.out HOK5.out (by rw [flat_of HPS5.out]; exact flat_lt a s t [elB 163 (timeB r)] (.inr ⟨r, rfl⟩)) (by decide)).mono ?_)
    intro e w6 hb
    rw [flat_of HPS5.out] at hb
    have hb2 : Bytes (encB a s t r) w5 e w6 := by rw [← enc_some a s t r HZ.out]; exact hb
    obtain ⟨A', c', rfl, hb, hc, hnil, hx'⟩ := hb2
    go_wp2
    go_ret
    exact ⟨A', c', rfl, hb, hc, hnil, hx5.trans hx'⟩
end Go.Proofs.YtdpjkocpdomkbaaGreatDoor
