/- Contracts of lifetime.Encode and of the reference's. Printed by tools/enc13.py. -/
import Derived.Test.YtdpjkocpdomkbaaGreatDoorDagP
import Derived.Test.YtdpjkocpdomkbaaGreatDoorText
import Derived.Test.YtdpjkocpdomkbaaGreatDoorLifeB
import Derived.Test.YtdpjkocpdomkbaaGreatDoorRefDerW
namespace Go.Proofs.YtdpjkocpdomkbaaGreatDoor
open Go.RowKit
theorem info_bytes : (Tryz.prog.info? 28).map (fun i => (i.zero, i.size, i.bytes)) = some (some (.slice none 0 0), 1, 24) := by kernel_rfl
theorem timeB_len (t : Int) : (timeB t).length = 8 := by
  unfold timeB elB
  simp [lenB, numB_len]
theorem timeB_ne (t : Int) : timeB t ≠ [] := fun h => by have := congrArg List.length h; rw [timeB_len] at this; simp at this
theorem timeB_le (t : Int) : (timeB t).length ≤ 16777215 := by rw [timeB_len]; decide
theorem tagB_len (n : Nat) (t : Int) : (elB n (timeB t)).length = 10 := by
  unfold elB
  rw [timeB_len]
  simp [lenB, timeB_len]
theorem timeB_lt (t : Int) : decide ((timeB t).length < 16777216) = true := by rw [timeB_len]; decide
/-- The encoding of times. -/
def encB (a s t r : Int) : List UInt8 := elB 48 (elB 160 (timeB a) ++ (elB 161 (timeB s) ++ (elB 162 (timeB t) ++ if r = 0 then [] else elB 163 (timeB r))))
theorem enc_zero (a s t r : Int) (h : r = 0) : elB 48 [elB 160 (timeB a), elB 161 (timeB s), elB 162 (timeB t), []].flatten = encB a s t r := by unfold encB; rw [if_pos h]; rfl
theorem enc_some (a s t r : Int) (h : r ≠ 0) : elB 48 [elB 160 (timeB a), elB 161 (timeB s), elB 162 (timeB t), elB 163 (timeB r)].flatten = encB a s t r := by unfold encB; rw [if_neg h]; simp
theorem flat_le (a s t : Int) (x : List UInt8) (h : x = [] ∨ ∃ r, x = elB 163 (timeB r)) : [elB 160 (timeB a), elB 161 (timeB s), elB 162 (timeB t), x].flatten.length ≤ 16777215 := by
  have : x.length ≤ 10 := by rcases h with rfl | ⟨r, rfl⟩; simp; rw [tagB_len]; omega
  simp [tagB_len]; omega
attribute [local irreducible] encB timeB elB
def EncPost (a s t r : Int) (w : World) (e : Ending) (w' : World) : Prop := ∃ A c, e = .returned (.tuple #[.slice A (encB a s t r).length c, .int .i64 0]) ∧ PartOk w' ⟨A, c, encB a s t r⟩ ∧ (encB a s t r).length ≤ c ∧ Ext w w'
set_option maxRecDepth 8000 in
set_option maxHeartbeats 12800000 in
theorem encode13_any (a s t r : Int) (w : World) (hv : validT a s t r = true) : Calls Tryz.prog 7 #[.agg #[.int .i64 a, .int .i64 s, .int .i64 t, .int .i64 r]] w (EncPost a s t r w) := by
  have HV := Lib.hid hv
  obtain ⟨⟨ha0, ha1⟩, ⟨hs0, hs1⟩, ⟨ht0, ht1⟩, ⟨hr0, hr1⟩, _, _, h3⟩ := validT_true hv
  clear h3 hv
  have hx0 := (Ext.refl w).alloc (.cells #[.int .i64 a, .int .i64 s, .int .i64 t, .int .i64 r] 23)
  have hb := heap_new w (.cells #[.int .i64 a, .int .i64 s, .int .i64 t, .int .i64 r] 23)
  have HH := Lib.hid hb
  go_enter Tryz.func7, Tryz.ntmps7
  go_wp2_with fail
  (go_at_call 13; (with_reducible refine (valid_any a s t r _).mono ?_); rintro e w1 ⟨rfl, hx1⟩; rw [HV.out])
  have hb1 := hx1.heap HH.out
  obtain ⟨k0, k1, k2, k3, z0, z1, z2, z3⟩ := four_cells hb1
  have HB1 := Lib.hid hb1
  clear hb hb1
  go_wp2_with fail
  (go_at_call 23; (with_reducible refine (dtime_any r hr0 hr1 _).mono ?_); intro e w2 hbt; obtain ⟨v4, rfl, hR, hx2⟩ := isB.of hbt)
  have hb2 := hx2.heap HB1.out
  clear k0 k1 k2 k3 z0 z1 z2 z3
  obtain ⟨k0, k1, k2, k3, z0, z1, z2, z3⟩ := four_cells hb2
  have hxx := (hx0.trans hx1).trans hx2
  obtain ⟨A4, c4, rfl, hP4, hc4⟩ := hR
  clear hb2 hbt
  by_cases hz : r = 0
  · have dz : ((r : Int) == 0) = true := by simpa using hz
    have HZ := Lib.hid hz
    clear hz
    go_wp2_with fail
    refine Dag.wp_region_props [isV (.pointer (some ⟨w.heap.size, 0, none⟩)), isV (.int .i64 a), isB (timeB a), isB (elB 160 (timeB a)), isV (.pointer (some ⟨w.heap.size, 1, none⟩)), isV (.int .i64 s), isB (timeB s), isB (elB 161 (timeB s)), isV (.pointer (some ⟨w.heap.size, 2, none⟩)), isV (.int .i64 t), isB (timeB t), isB (elB 162 (timeB t)), isV (.slice none 0 0), isB ([]), isPs [elB 160 (timeB a), elB 161 (timeB s), elB 162 (timeB t), []], isB (encB a s t r), isB (encB a s t r), isV (.int .i64 0)] [some 14, some 15, some 16, some 17, some 18, some 19, some 20, some 21, some 22, some 23, some 24, some 25, some 26, some 27, some 28, some 29, some 2, some 3] (by intro f hf; simp only [List.mem_cons, List.not_mem_nil, or_false] at hf; rcases hf with rfl | rfl | rfl | rfl | rfl | rfl | rfl | rfl | rfl | rfl | rfl | rfl | rfl | rfl | rfl | rfl | rfl | rfl; exact Dag.stabV _; exact Dag.stabV _; exact Dag.stabB _; exact Dag.stabB _; exact Dag.stabV _; exact Dag.stabV _; exact Dag.stabB _; exact Dag.stabB _; exact Dag.stabV _; exact Dag.stabV _; exact Dag.stabB _; exact Dag.stabB _; exact Dag.stabV _; exact Dag.stabB _; exact Dag.stabP _; exact Dag.stabB _; exact Dag.stabB _; exact Dag.stabV _) (by kernel_rfl) (by kernel_rfl) (by kernel_rfl) ⟨?_, ?_, ?_, ?_, ?_, ?_, ?_, ?_, ?_, ?_, ?_, ?_, ?_, ?_, ?_, ?_, ?_, ?_, trivial⟩ ?_
    · intro a' w' K hext hsees hK
      have y1 : a'.tmps[1]? = some (.pointer (some ⟨w.heap.size, 0, none⟩)) := (hsees.old (t := 1) (by kernel_rfl) (by kernel_rfl)).trans rfl
      have e1 := Dag.eval_of y1
      refine Dag.wpOp_lit rfl ?_
      go_simp
      exact hK _ _ rfl (Ext.refl _)
    · intro a' w' K hext hsees hK
      obtain ⟨v14, y14, f14⟩ := hsees.new (t := 14) (j := 0) (by kernel_rfl) (by kernel_rfl)
      obtain rfl : v14 = .pointer (some ⟨w.heap.size, 0, none⟩) := f14
      have e14 := Dag.eval_of y14
      refine Dag.wpOp_lit rfl ?_
      have hcc := (hext.cell k0)
      go_simp
      exact hK _ _ rfl (Ext.refl _)
    · intro a' w' K hext hsees hK
      obtain ⟨v15, y15, f15⟩ := hsees.new (t := 15) (j := 1) (by kernel_rfl) (by kernel_rfl)
      obtain rfl : v15 = .int .i64 a := f15
      have e15 := Dag.eval_of y15
      refine Dag.wpOp_lit rfl ?_
      go_simp
      refine (dtime_any a ha0 ha1 _).mono ?_
      intro e w_c hb_c
      obtain ⟨v_c, rfl, hb_c, hx_c⟩ := isB.of hb_c
      exact hK _ _ hb_c hx_c
    · intro a' w' K hext hsees hK
      obtain ⟨v16, y16, f16⟩ := hsees.new (t := 16) (j := 2) (by kernel_rfl) (by kernel_rfl)
      obtain ⟨A16, c16, rfl, hP16, hc16⟩ := f16
      have e16 := Dag.eval_of y16
      refine Dag.wpOp_lit rfl ?_
      go_simp
      refine (dtagged_any 0 (by decide) 0 rfl A16 (timeB a) _ c16 _ rfl (timeB_ne _) hP16 (timeB_le _)).mono ?_
      intro e w_c hb_c
      obtain ⟨v_c, rfl, hb_c, hx_c⟩ := isB.of hb_c
      exact hK _ _ hb_c hx_c
    · intro a' w' K hext hsees hK
      have y1 : a'.tmps[1]? = some (.pointer (some ⟨w.heap.size, 0, none⟩)) := (hsees.old (t := 1) (by kernel_rfl) (by kernel_rfl)).trans rfl
      have e1 := Dag.eval_of y1
      refine Dag.wpOp_lit rfl ?_
      go_simp
      exact hK _ _ rfl (Ext.refl _)
    · intro a' w' K hext hsees hK
      obtain ⟨v18, y18, f18⟩ := hsees.new (t := 18) (j := 4) (by kernel_rfl) (by kernel_rfl)
      obtain rfl : v18 = .pointer (some ⟨w.heap.size, 1, none⟩) := f18
      have e18 := Dag.eval_of y18
      refine Dag.wpOp_lit rfl ?_
      have hcc := (hext.cell k1)
      go_simp
      exact hK _ _ rfl (Ext.refl _)
    · intro a' w' K hext hsees hK
      obtain ⟨v19, y19, f19⟩ := hsees.new (t := 19) (j := 5) (by kernel_rfl) (by kernel_rfl)
      obtain rfl : v19 = .int .i64 s := f19
      have e19 := Dag.eval_of y19
      refine Dag.wpOp_lit rfl ?_
      go_simp
      refine (dtime_any s hs0 hs1 _).mono ?_
      intro e w_c hb_c
      obtain ⟨v_c, rfl, hb_c, hx_c⟩ := isB.of hb_c
      exact hK _ _ hb_c hx_c
    · intro a' w' K hext hsees hK
      obtain ⟨v20, y20, f20⟩ := hsees.new (t := 20) (j := 6) (by kernel_rfl) (by kernel_rfl)
      obtain ⟨A20, c20, rfl, hP20, hc20⟩ := f20
      have e20 := Dag.eval_of y20
      refine Dag.wpOp_lit rfl ?_
      go_simp
      refine (dtagged_any 1 (by decide) 1 rfl A20 (timeB s) _ c20 _ rfl (timeB_ne _) hP20 (timeB_le _)).mono ?_
      intro e w_c hb_c
      obtain ⟨v_c, rfl, hb_c, hx_c⟩ := isB.of hb_c
      exact hK _ _ hb_c hx_c
    · intro a' w' K hext hsees hK
      have y1 : a'.tmps[1]? = some (.pointer (some ⟨w.heap.size, 0, none⟩)) := (hsees.old (t := 1) (by kernel_rfl) (by kernel_rfl)).trans rfl
      have e1 := Dag.eval_of y1
      refine Dag.wpOp_lit rfl ?_
      go_simp
      exact hK _ _ rfl (Ext.refl _)
    · intro a' w' K hext hsees hK
      obtain ⟨v22, y22, f22⟩ := hsees.new (t := 22) (j := 8) (by kernel_rfl) (by kernel_rfl)
      obtain rfl : v22 = .pointer (some ⟨w.heap.size, 2, none⟩) := f22
      have e22 := Dag.eval_of y22
      refine Dag.wpOp_lit rfl ?_
      have hcc := (hext.cell k2)
      go_simp
      exact hK _ _ rfl (Ext.refl _)
    · intro a' w' K hext hsees hK
      obtain ⟨v23, y23, f23⟩ := hsees.new (t := 23) (j := 9) (by kernel_rfl) (by kernel_rfl)
      obtain rfl : v23 = .int .i64 t := f23
      have e23 := Dag.eval_of y23
      refine Dag.wpOp_lit rfl ?_
      go_simp
      refine (dtime_any t ht0 ht1 _).mono ?_
      intro e w_c hb_c
      obtain ⟨v_c, rfl, hb_c, hx_c⟩ := isB.of hb_c
      exact hK _ _ hb_c hx_c
    · intro a' w' K hext hsees hK
      obtain ⟨v24, y24, f24⟩ := hsees.new (t := 24) (j := 10) (by kernel_rfl) (by kernel_rfl)
      obtain ⟨A24, c24, rfl, hP24, hc24⟩ := f24
      have e24 := Dag.eval_of y24
      refine Dag.wpOp_lit rfl ?_
      go_simp
      refine (dtagged_any 2 (by decide) 2 rfl A24 (timeB t) _ c24 _ rfl (timeB_ne _) hP24 (timeB_le _)).mono ?_
      intro e w_c hb_c
      obtain ⟨v_c, rfl, hb_c, hx_c⟩ := isB.of hb_c
      exact hK _ _ hb_c hx_c
    · intro a' w' K hext hsees hK
      have y4 : a'.tmps[4]? = some (.slice none 0 0) := (hsees.old (t := 4) (by kernel_rfl) (by kernel_rfl)).trans rfl
      have e4 := Dag.eval_of y4
      refine Dag.wpOp_lit rfl ?_
      go_simp
      exact hK _ _ rfl (Ext.refl _)
    · intro a' w' K hext hsees hK
      obtain ⟨v26, y26, f26⟩ := hsees.new (t := 26) (j := 12) (by kernel_rfl) (by kernel_rfl)
      obtain rfl : v26 = .slice none 0 0 := f26
      have e26 := Dag.eval_of y26
      refine Dag.wpOp_lit rfl ?_
      go_simp
      refine (dtagged_none 3 (by decide) 3 rfl _).mono ?_
      rintro e w_c ⟨rfl, rfl⟩
      exact hK _ _ (isB.nil _) (Ext.refl _)
    · intro a' w' K hext hsees hK
      obtain ⟨v17, y17, f17⟩ := hsees.new (t := 17) (j := 3) (by kernel_rfl) (by kernel_rfl)
      obtain ⟨A17, c17, rfl, hP17, hc17⟩ := f17
      have e17 := Dag.eval_of y17
      obtain ⟨v21, y21, f21⟩ := hsees.new (t := 21) (j := 7) (by kernel_rfl) (by kernel_rfl)
      obtain ⟨A21, c21, rfl, hP21, hc21⟩ := f21
      have e21 := Dag.eval_of y21
      obtain ⟨v25, y25, f25⟩ := hsees.new (t := 25) (j := 11) (by kernel_rfl) (by kernel_rfl)
      obtain ⟨A25, c25, rfl, hP25, hc25⟩ := f25
      have e25 := Dag.eval_of y25
      obtain ⟨v27, y27, f27⟩ := hsees.new (t := 27) (j := 13) (by kernel_rfl) (by kernel_rfl)
      obtain ⟨A27, c27, rfl, hP27, hc27⟩ := f27
      have e27 := Dag.eval_of y27
      refine Dag.wpOp_lit rfl ?_
      go_simp
      refine hK _ _ ⟨_, [⟨A17, c17, elB 160 (timeB a)⟩, ⟨A21, c21, elB 161 (timeB s)⟩, ⟨A25, c25, elB 162 (timeB t)⟩, ⟨A27, c27, []⟩], _, rfl, rfl, parts_new _ _ _, ?_⟩ ((Ext.refl _).alloc _)
      intro p hp
      simp only [List.mem_cons, List.not_mem_nil, or_false] at hp
      rcases hp with rfl | rfl | rfl | rfl
      · exact hP17.ext ((Ext.refl _).alloc _)
      · exact hP21.ext ((Ext.refl _).alloc _)
      · exact hP25.ext ((Ext.refl _).alloc _)
      · exact hP27.ext ((Ext.refl _).alloc _)
    · intro a' w' K hext hsees hK
      obtain ⟨v28, y28, f28⟩ := hsees.new (t := 28) (j := 14) (by kernel_rfl) (by kernel_rfl)
      obtain ⟨g28, ps28, cap28, rfl, hps28, hat28, hok28⟩ := f28
      have e28 := Dag.eval_of y28
      refine Dag.wpOp_lit rfl ?_
      go_simp
      refine (dseq_any ps28 g28 cap28 4 _ (len_of hps28) hat28 hok28 (by rw [flat_of hps28]; exact flat_le _ _ _ _ (.inl rfl)) (by decide)).mono ?_
      intro e w_c hb_c
      rw [flat_of hps28, enc_zero a s t r HZ.out] at hb_c
      obtain ⟨v_c, rfl, hb_c, hx_c⟩ := isB.of hb_c
      exact hK _ _ hb_c hx_c
    · intro a' w' K hext hsees hK
      obtain ⟨v29, y29, f29⟩ := hsees.new (t := 29) (j := 15) (by kernel_rfl) (by kernel_rfl)
      obtain ⟨A29, c29, rfl, hP29, hc29⟩ := f29
      have e29 := Dag.eval_of y29
      refine Dag.wpOp_lit rfl ?_
      go_simp
      exact hK _ _ ⟨A29, c29, rfl, hP29, hc29⟩ (Ext.refl _)
    · intro a' w' K hext hsees hK
      refine Dag.wpOp_lit rfl ?_
      go_simp
      exact hK _ _ rfl (Ext.refl _)
    intro vs w' hw' hv
    obtain ⟨A16, c16, h16, hP16, hc16⟩ : isB (encB a s t r) (vs 16) w' := hv 16 (by decide)
    have h17 : vs 17 = .int .i64 0 := hv 17 (by decide)
    simp only [Dag.putL, Act.put, List.setIfInBounds_toArray, List.set_cons_zero, List.set_cons_succ, h16, h17]
    go_wp2_with fail
    go_ret2
    exact ⟨_, _, rfl, hP16, hc16, (hxx.drew).trans hw'⟩
  · have dz : ((r : Int) == 0) = false := by simpa using hz
    have HZ := Lib.hid hz
    clear hz
    go_wp2_with fail
    refine Dag.wp_region_props [isV (.pointer (some ⟨w.heap.size, 0, none⟩)), isV (.int .i64 a), isB (timeB a), isB (elB 160 (timeB a)), isV (.pointer (some ⟨w.heap.size, 1, none⟩)), isV (.int .i64 s), isB (timeB s), isB (elB 161 (timeB s)), isV (.pointer (some ⟨w.heap.size, 2, none⟩)), isV (.int .i64 t), isB (timeB t), isB (elB 162 (timeB t)), isB (timeB r), isB (elB 163 (timeB r)), isPs [elB 160 (timeB a), elB 161 (timeB s), elB 162 (timeB t), elB 163 (timeB r)], isB (encB a s t r), isB (encB a s t r), isV (.int .i64 0)] [some 14, some 15, some 16, some 17, some 18, some 19, some 20, some 21, some 22, some 23, some 24, some 25, some 26, some 27, some 28, some 29, some 2, some 3] (by intro f hf; simp only [List.mem_cons, List.not_mem_nil, or_false] at hf; rcases hf with rfl | rfl | rfl | rfl | rfl | rfl | rfl | rfl | rfl | rfl | rfl | rfl | rfl | rfl | rfl | rfl | rfl | rfl; exact Dag.stabV _; exact Dag.stabV _; exact Dag.stabB _; exact Dag.stabB _; exact Dag.stabV _; exact Dag.stabV _; exact Dag.stabB _; exact Dag.stabB _; exact Dag.stabV _; exact Dag.stabV _; exact Dag.stabB _; exact Dag.stabB _; exact Dag.stabB _; exact Dag.stabB _; exact Dag.stabP _; exact Dag.stabB _; exact Dag.stabB _; exact Dag.stabV _) (by kernel_rfl) (by kernel_rfl) (by kernel_rfl) ⟨?_, ?_, ?_, ?_, ?_, ?_, ?_, ?_, ?_, ?_, ?_, ?_, ?_, ?_, ?_, ?_, ?_, ?_, trivial⟩ ?_
    · intro a' w' K hext hsees hK
      have y1 : a'.tmps[1]? = some (.pointer (some ⟨w.heap.size, 0, none⟩)) := (hsees.old (t := 1) (by kernel_rfl) (by kernel_rfl)).trans rfl
      have e1 := Dag.eval_of y1
      refine Dag.wpOp_lit rfl ?_
      go_simp
      exact hK _ _ rfl (Ext.refl _)
    · intro a' w' K hext hsees hK
      obtain ⟨v14, y14, f14⟩ := hsees.new (t := 14) (j := 0) (by kernel_rfl) (by kernel_rfl)
      obtain rfl : v14 = .pointer (some ⟨w.heap.size, 0, none⟩) := f14
      have e14 := Dag.eval_of y14
      refine Dag.wpOp_lit rfl ?_
      have hcc := (hext.cell k0)
      go_simp
      exact hK _ _ rfl (Ext.refl _)
    · intro a' w' K hext hsees hK
      obtain ⟨v15, y15, f15⟩ := hsees.new (t := 15) (j := 1) (by kernel_rfl) (by kernel_rfl)
      obtain rfl : v15 = .int .i64 a := f15
      have e15 := Dag.eval_of y15
      refine Dag.wpOp_lit rfl ?_
      go_simp
      refine (dtime_any a ha0 ha1 _).mono ?_
      intro e w_c hb_c
      obtain ⟨v_c, rfl, hb_c, hx_c⟩ := isB.of hb_c
      exact hK _ _ hb_c hx_c
    · intro a' w' K hext hsees hK
      obtain ⟨v16, y16, f16⟩ := hsees.new (t := 16) (j := 2) (by kernel_rfl) (by kernel_rfl)
      obtain ⟨A16, c16, rfl, hP16, hc16⟩ := f16
      have e16 := Dag.eval_of y16
      refine Dag.wpOp_lit rfl ?_
      go_simp
      refine (dtagged_any 0 (by decide) 0 rfl A16 (timeB a) _ c16 _ rfl (timeB_ne _) hP16 (timeB_le _)).mono ?_
      intro e w_c hb_c
      obtain ⟨v_c, rfl, hb_c, hx_c⟩ := isB.of hb_c
      exact hK _ _ hb_c hx_c
    · intro a' w' K hext hsees hK
      have y1 : a'.tmps[1]? = some (.pointer (some ⟨w.heap.size, 0, none⟩)) := (hsees.old (t := 1) (by kernel_rfl) (by kernel_rfl)).trans rfl
      have e1 := Dag.eval_of y1
      refine Dag.wpOp_lit rfl ?_
      go_simp
      exact hK _ _ rfl (Ext.refl _)
    · intro a' w' K hext hsees hK
      obtain ⟨v18, y18, f18⟩ := hsees.new (t := 18) (j := 4) (by kernel_rfl) (by kernel_rfl)
      obtain rfl : v18 = .pointer (some ⟨w.heap.size, 1, none⟩) := f18
      have e18 := Dag.eval_of y18
      refine Dag.wpOp_lit rfl ?_
      have hcc := (hext.cell k1)
      go_simp
      exact hK _ _ rfl (Ext.refl _)
    · intro a' w' K hext hsees hK
      obtain ⟨v19, y19, f19⟩ := hsees.new (t := 19) (j := 5) (by kernel_rfl) (by kernel_rfl)
      obtain rfl : v19 = .int .i64 s := f19
      have e19 := Dag.eval_of y19
      refine Dag.wpOp_lit rfl ?_
      go_simp
      refine (dtime_any s hs0 hs1 _).mono ?_
      intro e w_c hb_c
      obtain ⟨v_c, rfl, hb_c, hx_c⟩ := isB.of hb_c
      exact hK _ _ hb_c hx_c
    · intro a' w' K hext hsees hK
      obtain ⟨v20, y20, f20⟩ := hsees.new (t := 20) (j := 6) (by kernel_rfl) (by kernel_rfl)
      obtain ⟨A20, c20, rfl, hP20, hc20⟩ := f20
      have e20 := Dag.eval_of y20
      refine Dag.wpOp_lit rfl ?_
      go_simp
      refine (dtagged_any 1 (by decide) 1 rfl A20 (timeB s) _ c20 _ rfl (timeB_ne _) hP20 (timeB_le _)).mono ?_
      intro e w_c hb_c
      obtain ⟨v_c, rfl, hb_c, hx_c⟩ := isB.of hb_c
      exact hK _ _ hb_c hx_c
    · intro a' w' K hext hsees hK
      have y1 : a'.tmps[1]? = some (.pointer (some ⟨w.heap.size, 0, none⟩)) := (hsees.old (t := 1) (by kernel_rfl) (by kernel_rfl)).trans rfl
      have e1 := Dag.eval_of y1
      refine Dag.wpOp_lit rfl ?_
      go_simp
      exact hK _ _ rfl (Ext.refl _)
    · intro a' w' K hext hsees hK
      obtain ⟨v22, y22, f22⟩ := hsees.new (t := 22) (j := 8) (by kernel_rfl) (by kernel_rfl)
      obtain rfl : v22 = .pointer (some ⟨w.heap.size, 2, none⟩) := f22
      have e22 := Dag.eval_of y22
      refine Dag.wpOp_lit rfl ?_
      have hcc := (hext.cell k2)
      go_simp
      exact hK _ _ rfl (Ext.refl _)
    · intro a' w' K hext hsees hK
      obtain ⟨v23, y23, f23⟩ := hsees.new (t := 23) (j := 9) (by kernel_rfl) (by kernel_rfl)
      obtain rfl : v23 = .int .i64 t := f23
      have e23 := Dag.eval_of y23
      refine Dag.wpOp_lit rfl ?_
      go_simp
      refine (dtime_any t ht0 ht1 _).mono ?_
      intro e w_c hb_c
      obtain ⟨v_c, rfl, hb_c, hx_c⟩ := isB.of hb_c
      exact hK _ _ hb_c hx_c
    · intro a' w' K hext hsees hK
      obtain ⟨v24, y24, f24⟩ := hsees.new (t := 24) (j := 10) (by kernel_rfl) (by kernel_rfl)
      obtain ⟨A24, c24, rfl, hP24, hc24⟩ := f24
      have e24 := Dag.eval_of y24
      refine Dag.wpOp_lit rfl ?_
      go_simp
      refine (dtagged_any 2 (by decide) 2 rfl A24 (timeB t) _ c24 _ rfl (timeB_ne _) hP24 (timeB_le _)).mono ?_
      intro e w_c hb_c
      obtain ⟨v_c, rfl, hb_c, hx_c⟩ := isB.of hb_c
      exact hK _ _ hb_c hx_c
    · intro a' w' K hext hsees hK
      have y4 : a'.tmps[4]? = some (.slice A4 (timeB r).length c4) := (hsees.old (t := 4) (by kernel_rfl) (by kernel_rfl)).trans rfl
      have hP4 := hP4.ext ((Ext.refl _).drew.trans hext)
      have e4 := Dag.eval_of y4
      refine Dag.wpOp_lit rfl ?_
      go_simp
      exact hK _ _ ⟨A4, c4, rfl, hP4, hc4⟩ (Ext.refl _)
    · intro a' w' K hext hsees hK
      obtain ⟨v26, y26, f26⟩ := hsees.new (t := 26) (j := 12) (by kernel_rfl) (by kernel_rfl)
      obtain ⟨A26, c26, rfl, hP26, hc26⟩ := f26
      have e26 := Dag.eval_of y26
      refine Dag.wpOp_lit rfl ?_
      go_simp
      refine (dtagged_any 3 (by decide) 3 rfl A26 (timeB r) _ c26 _ rfl (timeB_ne _) hP26 (timeB_le _)).mono ?_
      intro e w_c hb_c
      obtain ⟨v_c, rfl, hb_c, hx_c⟩ := isB.of hb_c
      exact hK _ _ hb_c hx_c
    · intro a' w' K hext hsees hK
      obtain ⟨v17, y17, f17⟩ := hsees.new (t := 17) (j := 3) (by kernel_rfl) (by kernel_rfl)
      obtain ⟨A17, c17, rfl, hP17, hc17⟩ := f17
      have e17 := Dag.eval_of y17
      obtain ⟨v21, y21, f21⟩ := hsees.new (t := 21) (j := 7) (by kernel_rfl) (by kernel_rfl)
      obtain ⟨A21, c21, rfl, hP21, hc21⟩ := f21
      have e21 := Dag.eval_of y21
      obtain ⟨v25, y25, f25⟩ := hsees.new (t := 25) (j := 11) (by kernel_rfl) (by kernel_rfl)
      obtain ⟨A25, c25, rfl, hP25, hc25⟩ := f25
      have e25 := Dag.eval_of y25
      obtain ⟨v27, y27, f27⟩ := hsees.new (t := 27) (j := 13) (by kernel_rfl) (by kernel_rfl)
      obtain ⟨A27, c27, rfl, hP27, hc27⟩ := f27
      have e27 := Dag.eval_of y27
      refine Dag.wpOp_lit rfl ?_
      go_simp
      refine hK _ _ ⟨_, [⟨A17, c17, elB 160 (timeB a)⟩, ⟨A21, c21, elB 161 (timeB s)⟩, ⟨A25, c25, elB 162 (timeB t)⟩, ⟨A27, c27, elB 163 (timeB r)⟩], _, rfl, rfl, parts_new _ _ _, ?_⟩ ((Ext.refl _).alloc _)
      intro p hp
      simp only [List.mem_cons, List.not_mem_nil, or_false] at hp
      rcases hp with rfl | rfl | rfl | rfl
      · exact hP17.ext ((Ext.refl _).alloc _)
      · exact hP21.ext ((Ext.refl _).alloc _)
      · exact hP25.ext ((Ext.refl _).alloc _)
      · exact hP27.ext ((Ext.refl _).alloc _)
    · intro a' w' K hext hsees hK
      obtain ⟨v28, y28, f28⟩ := hsees.new (t := 28) (j := 14) (by kernel_rfl) (by kernel_rfl)
      obtain ⟨g28, ps28, cap28, rfl, hps28, hat28, hok28⟩ := f28
      have e28 := Dag.eval_of y28
      refine Dag.wpOp_lit rfl ?_
      go_simp
      refine (dseq_any ps28 g28 cap28 4 _ (len_of hps28) hat28 hok28 (by rw [flat_of hps28]; exact flat_le _ _ _ _ (.inr ⟨r, rfl⟩)) (by decide)).mono ?_
      intro e w_c hb_c
      rw [flat_of hps28, enc_some a s t r HZ.out] at hb_c
      obtain ⟨v_c, rfl, hb_c, hx_c⟩ := isB.of hb_c
      exact hK _ _ hb_c hx_c
    · intro a' w' K hext hsees hK
      obtain ⟨v29, y29, f29⟩ := hsees.new (t := 29) (j := 15) (by kernel_rfl) (by kernel_rfl)
      obtain ⟨A29, c29, rfl, hP29, hc29⟩ := f29
      have e29 := Dag.eval_of y29
      refine Dag.wpOp_lit rfl ?_
      go_simp
      exact hK _ _ ⟨A29, c29, rfl, hP29, hc29⟩ (Ext.refl _)
    · intro a' w' K hext hsees hK
      refine Dag.wpOp_lit rfl ?_
      go_simp
      exact hK _ _ rfl (Ext.refl _)
    intro vs w' hw' hv
    obtain ⟨A16, c16, h16, hP16, hc16⟩ : isB (encB a s t r) (vs 16) w' := hv 16 (by decide)
    have h17 : vs 17 = .int .i64 0 := hv 17 (by decide)
    simp only [Dag.putL, Act.put, List.setIfInBounds_toArray, List.set_cons_zero, List.set_cons_succ, h16, h17]
    go_wp2_with fail
    go_ret2
    exact ⟨_, _, rfl, hP16, hc16, (hxx.drew).trans hw'⟩
end Go.Proofs.YtdpjkocpdomkbaaGreatDoor
