/- The reference's Parse, chapter 13. Printed by tools/rparse13.py. -/
import Derived.Test.YtdpjkocpdomkbaaGreatDoorPlainQ
import Derived.Test.YtdpjkocpdomkbaaGreatDoorRefText
import Derived.Test.YtdpjkocpdomkbaaGreatDoorDagL
namespace Go.Proofs.YtdpjkocpdomkbaaGreatDoor
open Go.RowKit
theorem rres_times {W : World} {b : Nat} {x0 x1 x2 x3 er : Int} {T : TypeId} (tmps : Array Value) (h2 : tmps[2]?.getD undef = .pointer (some ⟨b, 0, none⟩)) (h3 : tmps[3]?.getD undef = .int .i64 er) (hb : W.heap[b]? = some (.cells #[.int .i64 x0, .int .i64 x1, .int .i64 x2, .int .i64 x3] T (0, 0))) :
    (results Tryz.f12 tmps).run Tryz.prog W = .ok (.tuple #[.agg #[.int .i64 x0, .int .i64 x1, .int .i64 x2, .int .i64 x3], .int .i64 er]) W := by
  have hr : (Tryz.f12).results = #[.cell 2 23, .tmp 3] := rfl
  obtain ⟨k0, k1, k2, k3, _, _, _, _⟩ := four_cells hb
  simp only [results, hr]
  simp [Sem.run_bind, Result.andThen, go_sem, h2, h3, k0, k1, k2, k3]
theorem rf_none {s : ByteArray} (h : rf s.data.toList [] 0 = none) : refParse s = ((0, 0, 0, 0), 6) := by unfold refParse; rw [h]
theorem ref_four {s : ByteArray} {a b c d : Int} (h : rf s.data.toList [] 0 = some ([a, b, c], d)) : refParse s = if validT a b c d = true ∧ textT a b c d = s then ((a, b, c, d), 0) else ((0, 0, 0, 0), 6) := by unfold refParse; rw [h]
theorem ref_len {s : ByteArray} {l : List Int} {d : Int} (h : rf s.data.toList [] 0 = some (l, d)) (hl : l.length ≠ 3) : refParse s = ((0, 0, 0, 0), 6) := by
  unfold refParse
  rw [h]
  match l, hl with
  | [], _ => rfl
  | [_], _ => rfl
  | [_, _], _ => rfl
  | [a, b, c], h => exact absurd rfl h
  | _ :: _ :: _ :: _ :: _, _ => rfl
theorem drop_get (s : ByteArray) (k : Nat) (h : k < s.size) : s.data.toList.drop k = s[k] :: s.data.toList.drop (k + 1) := by
  have hl : k < s.data.toList.length := by rw [Array.length_toList]; exact h
  rw [List.drop_eq_getElem_cons hl]; rfl
def RParsePost (s : ByteArray) (w : World) (e : Ending) (w' : World) : Prop := ∃ a b c d er, refParse s = ((a, b, c, d), er) ∧ e = .returned (.tuple #[.agg #[.int .i64 a, .int .i64 b, .int .i64 c, .int .i64 d], .int .i64 er]) ∧ Ext w w'
theorem own_kept {w w' : World} {base : Nat} {e : TypeId} {size n : Nat} {v : Value} {xs : List Value} (h : w.ownsRow base e size v n xs) (hw : Ext w.drew w') : w'.ownsRow base e size v n xs := ownsRow_ext h ((Ext.refl _).drew.trans hw)
theorem set_last (done : List Int) (cur v : Int) (d : Nat) (hd : done.length = d) : (intVs (done ++ [cur])).set d (.int .i64 v) = intVs (done ++ [v]) := by
  subst hd
  simp [intVs]
set_option maxRecDepth 8000 in
set_option maxHeartbeats 6400000 in
theorem rParse13_any (s : ByteArray) (hs : s.size ≤ 100000) (w : World) : Calls Tryz.prog 12 #[.string s] w (RParsePost s w) := by
  obtain ⟨i0, hi, hz0, hz1, hz2⟩ := info_parts info_int
  go_enter Tryz.func12, Tryz.ntmps12
  go_wp2
  have hx1 := (Ext.refl w).alloc (.cells #[.int .i64 0, .int .i64 0, .int .i64 0, .int .i64 0] 23)
  have HR0 := Lib.hid (heap_new w (.cells #[.int .i64 0, .int .i64 0, .int .i64 0, .int .i64 0] 23))
  have hsz1 : (w.alloc (.cells #[.int .i64 0, .int .i64 0, .int .i64 0, .int .i64 0] 23)).heap.size = w.heap.size + 1 := by simp
  have hlit := World.ownsRow_lit (base := w.heap.size + 1) (e := 3) (size := 1) (w.alloc (.cells #[.int .i64 0, .int .i64 0, .int .i64 0, .int .i64 0] 23)) #[.int .i64 0] 1 (by rw [hsz1]; exact Nat.le_refl _) (by unfold maxLen; omega) rfl
  rw [hsz1] at hlit
  have HL := Lib.hid hlit
  clear hlit
  generalize hW1 : w.alloc (.cells #[.int .i64 0, .int .i64 0, .int .i64 0, .int .i64 0] 23) = w1 at *
  clear hW1
  go_loopw [4, 5] (fun v i wr => ∃ (k d : Nat) (done : List Int) (cur : Int), k ≤ s.size ∧ i = .int .i64 k ∧ done.length = d ∧ d ≤ k ∧ Hid (0 ≤ cur ∧ cur ≤ 10995116277769) ∧ Hid (rf s.data.toList [] 0 = rf (s.data.toList.drop k) done cur) ∧ Hid (wr.ownsRow (w.heap.size + 1) 3 1 v (d + 1) (intVs (done ++ [cur]))) ∧ Ext w1 wr) (fun _ i _ => s.size - (intOf i).toNat)
  case atStart => exact ⟨0, 0, [], 0, Nat.zero_le _, rfl, rfl, Nat.le_refl _, Lib.hid (by decide), Lib.hid rfl, HL, (Ext.refl _).alloc _⟩
  case round =>
    obtain ⟨k, d, done, cur, hk, rfl, hdl, hdk, HC, HF, HO, hx⟩ := hrel
    obtain ⟨hc0, hc1⟩ := HC.out
    obtain ⟨g, cap, rfl, hgs, hgB, hcp, hcm⟩ := ownsRow_some HO.out (Nat.succ_pos d)
    have hcur : wr.cell? ⟨g, d, none⟩ = some (.int .i64 cur) := by
      rw [HO.out.cellAt d (by omega)]
      simp [intVs, ← hdl]
    by_cases hlt : k < s.size
    · have hdg := drop_get s k hlt
      have HDG := Lib.hid hdg
      clear hdg
      by_cases h32 : s[k] = 32
      · have hb32 : (((s[k]).toNat : Int) == 32) = true := by rw [h32]; rfl
        have hx34 := (Ext.refl wr).alloc (.cells [Value.int .i64 0].toArray 3)
        have hO5 := Lib.hid (ownsRow_ext HO.out hx34)
        have hbase : w.heap.size + 1 ≤ (wr.alloc (.cells [Value.int .i64 0].toArray 3)).heap.size := by have := hx.sz; have := hx34.sz; omega
        have hmx : d + 1 + 1 ≤ maxLen := by unfold maxLen; omega
        have hby : (d + 1 + 1) * 8 ≤ 140737488355328 := by omega
        have hnw := Lib.hid (lit_news (w := wr) (cs := [Value.int .i64 0]) (T := 3))
        have HB := Lib.hid hbase
        have HX := Lib.hid hmx
        have HY2 := Lib.hid hby
        have HN : Hid (rf s.data.toList [] 0 = rf (s.data.toList.drop (k + 1)) (done ++ [cur]) 0) := Lib.hid (by rw [HF.out, HDG.out, rf, if_pos h32])
        clear hbase hmx hby hcur
        go_wp2_with (at_builtin; refine wpList_append_own _ rfl _ _ 55 rfl (w.heap.size + 1) 3 i0 (.int .i64 0) 1 8 Tryz.underlying55 hi hz0 hz1 hz2 rfl (by decide) _ _ _ rfl hO5.out ⟨wr.heap.size, 0, none⟩ 1 1 [.int .i64 0] rfl rfl hnw.out (by intro u hu; simp only [List.mem_cons, List.not_mem_nil, or_false] at hu; subst hu; rfl) HX.out HY2.out HB.out ?_)
        intro v' w5 hown' hgrow _
        have hx5 : Ext w1 w5 := Ext.of_grown_new (hx.trans hx34) hgrow (fun g hg => by have := (hO5.out.lt g hg).1; omega)
        clear hgrow
        go_wp2
        go_roundw
        case rel => exact ⟨k + 1, d + 1, done ++ [cur], 0, hlt, rfl, by rw [List.length_append, hdl]; rfl, Nat.succ_le_succ hdk, Lib.hid (by decide), HN, Lib.hid (by rw [intVs, List.map_append]; exact hown'), hx5⟩
        case measure => exact Nat.sub_lt_sub_left hlt (Nat.lt_succ_self k)
      · have hb32 : (((s[k]).toNat : Int) == 32) = false := by
          simp only [beq_eq_false_iff_ne, ne_eq]
          intro h
          exact h32 (UInt8.toNat_inj.1 (by have : (32 : UInt8).toNat = 32 := rfl; omega))
        by_cases hbad : (s[k]).toNat < 48 ∨ 57 < (s[k]).toNat ∨ 1099511627776 < cur
        · have hres : refParse s = ((0, 0, 0, 0), 6) := rf_none (by rw [HF.out, HDG.out, rf, if_neg h32, if_pos hbad])
          have HRES := Lib.hid hres
          have hb3 := hx.heap HR0.out
          have hxx := hx1.trans hx
          clear hres
          obtain ⟨k0, k1, k2, k3, z0, z1, z2, z3⟩ := four_cells hb3
          by_cases h48 : (s[k]).toNat < 48
          · have hg1 : decide (((s[k]).toNat : Int) < 48) = true := by simp; omega
            go_wp2_with fail
            have e3 := set_heap (i := 3) (set_heap (i := 2) (set_heap (i := 1) (set_heap (i := 0) hb3 (.int .i64 0)) (.int .i64 0)) (.int .i64 0)) (.int .i64 0)
            refine bodyPost_ret (rres_times (b := w.heap.size) (T := 23) _ rfl rfl e3) rfl ⟨0, 0, 0, 0, 6, HRES.out, rfl, (by repeat (first | exact Ext.refl _ | assumption | refine Ext.drew ?_ | refine Ext.alloc ?_ _ | refine Ext.setCell ?_ (by first | exact Nat.le_refl _ | (simp; done) | (simp; omega)) _ | refine Ext.trans ?_ (by assumption)))⟩
          · have hg1 : decide (((s[k]).toNat : Int) < 48) = false := by simp; omega
            by_cases h57 : 57 < (s[k]).toNat
            · have hg2 : decide ((57 : Int) < ((s[k]).toNat : Int)) = true := by simp; omega
              go_wp2_with fail
              have e3 := set_heap (i := 3) (set_heap (i := 2) (set_heap (i := 1) (set_heap (i := 0) hb3 (.int .i64 0)) (.int .i64 0)) (.int .i64 0)) (.int .i64 0)
              refine bodyPost_ret (rres_times (b := w.heap.size) (T := 23) _ rfl rfl e3) rfl ⟨0, 0, 0, 0, 6, HRES.out, rfl, (by repeat (first | exact Ext.refl _ | assumption | refine Ext.drew ?_ | refine Ext.alloc ?_ _ | refine Ext.setCell ?_ (by first | exact Nat.le_refl _ | (simp; done) | (simp; omega)) _ | refine Ext.trans ?_ (by assumption)))⟩
            · have hg2 : decide ((57 : Int) < ((s[k]).toNat : Int)) = false := by simp; omega
              have hg3 : decide ((1099511627776 : Int) < cur) = true := by simp; omega
              go_wp2_with fail
              have e3 := set_heap (i := 3) (set_heap (i := 2) (set_heap (i := 1) (set_heap (i := 0) hb3 (.int .i64 0)) (.int .i64 0)) (.int .i64 0)) (.int .i64 0)
              refine bodyPost_ret (rres_times (b := w.heap.size) (T := 23) _ rfl rfl e3) rfl ⟨0, 0, 0, 0, 6, HRES.out, rfl, (by repeat (first | exact Ext.refl _ | assumption | refine Ext.drew ?_ | refine Ext.alloc ?_ _ | refine Ext.setCell ?_ (by first | exact Nat.le_refl _ | (simp; done) | (simp; omega)) _ | refine Ext.trans ?_ (by assumption)))⟩
        have hg1 : decide (((s[k]).toNat : Int) < 48) = false := by simp; omega
        have hg2 : decide ((57 : Int) < ((s[k]).toNat : Int)) = false := by simp; omega
        have hg3 : decide ((1099511627776 : Int) < cur) = false := by simp; omega
        have m1 : wrap64 (10 * cur) = 10 * cur := IntWalk.wrap64_in _ (by omega)
        have m2 : (((s[k]).toNat : Int) - 48) % 256 = ((s[k]).toNat : Int) - 48 := by omega
        have m3 : wrap64 (10 * cur + (((s[k]).toNat : Int) - 48)) = 10 * cur + (((s[k]).toNat : Int) - 48) := IntWalk.wrap64_in _ (by omega)
        go_wp2_with fail
        refine Dag.wp_region_last [isV (.slice (some ⟨g, 0, none⟩) (d + 1) cap), isV (.int .i64 (d : Int)), isV (.slice (some ⟨g, 0, none⟩) (d + 1) cap), isV (.int .i64 (d : Int)), isV (.pointer (some ⟨g, d, none⟩)), isV (.int .i64 cur), isV (.int .i64 (10 * cur)), isV (.string s), isV (.int .i64 (k : Int)), isV (.int .u8 ((s[k]).toNat : Int)), isV (.int .u8 (((s[k]).toNat : Int) - 48)), isV (.int .i64 (((s[k]).toNat : Int) - 48)), isV (.int .i64 (10 * cur + (((s[k]).toNat : Int) - 48))), isV (.pointer (some ⟨g, d, none⟩))] [some 43, some 44, some 45, some 46, some 47, some 48, some 49, some 50, some 51, some 52, some 53, some 54, some 55, some 56] 14 (by intro f hf; simp only [List.mem_cons, List.not_mem_nil, or_false] at hf; rcases hf with rfl | rfl | rfl | rfl | rfl | rfl | rfl | rfl | rfl | rfl | rfl | rfl | rfl | rfl <;> exact fun _ _ _ h _ => h) (by kernel_rfl) (by kernel_rfl) rfl (by kernel_rfl) (by kernel_rfl) (by kernel_rfl) ⟨?_, ?_, ?_, ?_, ?_, ?_, ?_, ?_, ?_, ?_, ?_, ?_, ?_, ?_, trivial⟩ ?_
        · intro a' w' K hext hsees hK
          have y4 : a'.tmps[4]? = some (.slice (some ⟨g, 0, none⟩) (d + 1) cap) := (hsees.old (t := 4) (by kernel_rfl) (by kernel_rfl)).trans rfl
          have e4 := Dag.eval_of y4
          refine Dag.wpOp_lit rfl ?_
          go_simp
          exact hK _ _ rfl (Ext.refl _)
        · intro a' w' K hext hsees hK
          have y6 : a'.tmps[6]? = some (.int .i64 (d : Int)) := (hsees.old (t := 6) (by kernel_rfl) (by kernel_rfl)).trans rfl
          have e6 := Dag.eval_of y6
          refine Dag.wpOp_lit rfl ?_
          go_simp
          exact hK _ _ rfl (Ext.refl _)
        · intro a' w' K hext hsees hK
          have y4 : a'.tmps[4]? = some (.slice (some ⟨g, 0, none⟩) (d + 1) cap) := (hsees.old (t := 4) (by kernel_rfl) (by kernel_rfl)).trans rfl
          have e4 := Dag.eval_of y4
          refine Dag.wpOp_lit rfl ?_
          go_simp
          exact hK _ _ rfl (Ext.refl _)
        · intro a' w' K hext hsees hK
          have y6 : a'.tmps[6]? = some (.int .i64 (d : Int)) := (hsees.old (t := 6) (by kernel_rfl) (by kernel_rfl)).trans rfl
          have e6 := Dag.eval_of y6
          refine Dag.wpOp_lit rfl ?_
          go_simp
          exact hK _ _ rfl (Ext.refl _)
        · intro a' w' K hext hsees hK
          obtain ⟨v45, y45, f45⟩ := hsees.new (t := 45) (j := 2) (by kernel_rfl) (by kernel_rfl)
          obtain rfl : v45 = .slice (some ⟨g, 0, none⟩) (d + 1) cap := f45
          have e45 := Dag.eval_of y45
          obtain ⟨v46, y46, f46⟩ := hsees.new (t := 46) (j := 3) (by kernel_rfl) (by kernel_rfl)
          obtain rfl : v46 = .int .i64 (d : Int) := f46
          have e46 := Dag.eval_of y46
          refine Dag.wpOp_lit rfl ?_
          go_simp
          rw [if_pos (by omega)]
          go_simp
          exact hK _ _ rfl (Ext.refl _)
        · intro a' w' K hext hsees hK
          obtain ⟨v47, y47, f47⟩ := hsees.new (t := 47) (j := 4) (by kernel_rfl) (by kernel_rfl)
          obtain rfl : v47 = .pointer (some ⟨g, d, none⟩) := f47
          have e47 := Dag.eval_of y47
          refine Dag.wpOp_lit rfl ?_
          have hcc := hext.cell hcur
          go_simp
          exact hK _ _ rfl (Ext.refl _)
        · intro a' w' K hext hsees hK
          obtain ⟨v48, y48, f48⟩ := hsees.new (t := 48) (j := 5) (by kernel_rfl) (by kernel_rfl)
          obtain rfl : v48 = .int .i64 cur := f48
          have e48 := Dag.eval_of y48
          refine Dag.wpOp_lit rfl ?_
          go_simp
          rw [IntWalk.i64_in _ (by omega)]
          exact hK _ _ rfl (Ext.refl _)
        · intro a' w' K hext hsees hK
          have y0 : a'.tmps[0]? = some (.string s) := (hsees.old (t := 0) (by kernel_rfl) (by kernel_rfl)).trans rfl
          have e0 := Dag.eval_of y0
          refine Dag.wpOp_lit rfl ?_
          go_simp
          exact hK _ _ rfl (Ext.refl _)
        · intro a' w' K hext hsees hK
          have y5 : a'.tmps[5]? = some (.int .i64 (k : Int)) := (hsees.old (t := 5) (by kernel_rfl) (by kernel_rfl)).trans rfl
          have e5 := Dag.eval_of y5
          refine Dag.wpOp_lit rfl ?_
          go_simp
          exact hK _ _ rfl (Ext.refl _)
        · intro a' w' K hext hsees hK
          obtain ⟨v50, y50, f50⟩ := hsees.new (t := 50) (j := 7) (by kernel_rfl) (by kernel_rfl)
          obtain rfl : v50 = .string s := f50
          have e50 := Dag.eval_of y50
          obtain ⟨v51, y51, f51⟩ := hsees.new (t := 51) (j := 8) (by kernel_rfl) (by kernel_rfl)
          obtain rfl : v51 = .int .i64 (k : Int) := f51
          have e51 := Dag.eval_of y51
          refine Dag.wpOp_lit rfl ?_
          go_simp
          exact hK _ _ rfl (Ext.refl _)
        · intro a' w' K hext hsees hK
          obtain ⟨v52, y52, f52⟩ := hsees.new (t := 52) (j := 9) (by kernel_rfl) (by kernel_rfl)
          obtain rfl : v52 = .int .u8 ((s[k]).toNat : Int) := f52
          have e52 := Dag.eval_of y52
          refine Dag.wpOp_lit rfl ?_
          go_simp
          rw [IntWalk.u8_in _ (by omega)]
          exact hK _ _ rfl (Ext.refl _)
        · intro a' w' K hext hsees hK
          obtain ⟨v53, y53, f53⟩ := hsees.new (t := 53) (j := 10) (by kernel_rfl) (by kernel_rfl)
          obtain rfl : v53 = .int .u8 (((s[k]).toNat : Int) - 48) := f53
          have e53 := Dag.eval_of y53
          refine Dag.wpOp_lit rfl ?_
          go_simp
          rw [IntWalk.i64_in _ (by omega)]
          exact hK _ _ rfl (Ext.refl _)
        · intro a' w' K hext hsees hK
          obtain ⟨v49, y49, f49⟩ := hsees.new (t := 49) (j := 6) (by kernel_rfl) (by kernel_rfl)
          obtain rfl : v49 = .int .i64 (10 * cur) := f49
          have e49 := Dag.eval_of y49
          obtain ⟨v54, y54, f54⟩ := hsees.new (t := 54) (j := 11) (by kernel_rfl) (by kernel_rfl)
          obtain rfl : v54 = .int .i64 (((s[k]).toNat : Int) - 48) := f54
          have e54 := Dag.eval_of y54
          refine Dag.wpOp_lit rfl ?_
          go_simp
          rw [IntWalk.i64_in _ (by omega)]
          exact hK _ _ rfl (Ext.refl _)
        · intro a' w' K hext hsees hK
          obtain ⟨v43, y43, f43⟩ := hsees.new (t := 43) (j := 0) (by kernel_rfl) (by kernel_rfl)
          obtain rfl : v43 = .slice (some ⟨g, 0, none⟩) (d + 1) cap := f43
          have e43 := Dag.eval_of y43
          obtain ⟨v44, y44, f44⟩ := hsees.new (t := 44) (j := 1) (by kernel_rfl) (by kernel_rfl)
          obtain rfl : v44 = .int .i64 (d : Int) := f44
          have e44 := Dag.eval_of y44
          refine Dag.wpOp_lit rfl ?_
          go_simp
          rw [if_pos (by omega)]
          go_simp
          exact hK _ _ rfl (Ext.refl _)
        intro vs w' K hw' hv hK
        have h12 : vs 12 = .int .i64 (10 * cur + (((s[k]).toNat : Int) - 48)) := hv 12 (by decide)
        have h13 : vs 13 = .pointer (some ⟨g, d, none⟩) := hv 13 (by decide)
        refine Dag.wpOp_lit rfl ?_
        simp only [Dag.putL, Act.put, List.setIfInBounds_toArray, List.set_cons_zero, List.set_cons_succ, h12, h13]
        have hcc := hw'.cell hcur
        have hfz := (own_kept HO.out hw').frozenAt d
        go_simp
        refine hK _ _ ?_
        have hst := Lib.hid ((own_kept HO.out hw').stored d (.int .i64 (10 * cur + (((s[k]).toNat : Int) - 48)))).1
        have hxr : Ext w1 (w'.setCell ⟨g, d, none⟩ (.int .i64 (10 * cur + (((s[k]).toNat : Int) - 48)))) := (hx.drew.trans hw').setCell (by show w1.heap.size ≤ g; omega) _
        have HN : Hid (rf s.data.toList [] 0 = rf (s.data.toList.drop (k + 1)) done (10 * cur + (((s[k]).toNat : Int) - 48))) := Lib.hid (by rw [HF.out, HDG.out, rf, if_neg h32, if_neg hbad])
        have hn0 : 0 ≤ 10 * cur + (((s[k]).toNat : Int) - 48) := by omega
        have hn1 : 10 * cur + (((s[k]).toNat : Int) - 48) ≤ 10995116277769 := by omega
        clear m1 m2 m3 hg1 hg2 hg3 hcc hfz hcur
        go_wp2
        go_roundw
        case rel => exact ⟨k + 1, d, done, _, hlt, rfl, hdl, Nat.le_succ_of_le hdk, Lib.hid ⟨hn0, hn1⟩, HN, Lib.hid (by rw [← set_last done cur _ d hdl]; exact hst.out), hxr⟩
        case measure => exact Nat.sub_lt_sub_left hlt (Nat.lt_succ_self k)
    · obtain rfl : k = s.size := by omega
      have hF : rf s.data.toList [] 0 = some (done, cur) := by rw [HF.out, List.drop_eq_nil_of_le (by rw [Array.length_toList]; exact Nat.le_refl _), rf]
      clear HF hcur
      by_cases h4 : d = 3
      · subst h4
        obtain ⟨za, zb, zc, rfl⟩ : ∃ a b c, done = [a, b, c] := by
          match done, hdl with
          | [a, b, c], _ => exact ⟨a, b, c, rfl⟩
        have HP := Lib.hid (ref_four hF)
        have q0 : wr.cell? ⟨g, 0, none⟩ = some (.int .i64 za) := by rw [HO.out.cellAt 0 (by decide)]; rfl
        have q1 : wr.cell? ⟨g, 1, none⟩ = some (.int .i64 zb) := by rw [HO.out.cellAt 1 (by decide)]; rfl
        have q2 : wr.cell? ⟨g, 2, none⟩ = some (.int .i64 zc) := by rw [HO.out.cellAt 2 (by decide)]; rfl
        have q3 : wr.cell? ⟨g, 3, none⟩ = some (.int .i64 cur) := by rw [HO.out.cellAt 3 (by decide)]; rfl
        clear hF hdl
        generalize cur = zd at *
        go_wp2_with fail
        refine Dag.wp_region_store [.val (.slice (some ⟨g, 0, none⟩) 4 cap), .val (.pointer (some ⟨g, 0, none⟩)), .val (.int .i64 za), .val (.slice (some ⟨g, 0, none⟩) 4 cap), .val (.pointer (some ⟨g, 1, none⟩)), .val (.int .i64 zb), .val (.slice (some ⟨g, 0, none⟩) 4 cap), .val (.pointer (some ⟨g, 2, none⟩)), .val (.int .i64 zc), .val (.slice (some ⟨g, 0, none⟩) 4 cap), .val (.pointer (some ⟨g, 3, none⟩)), .val (.int .i64 zd), .val (.agg #[.int .i64 za, .int .i64 zb, .int .i64 zc, .int .i64 zd]), .var #[.int .i64 0, .int .i64 0, .int .i64 0, .int .i64 0] 23, .val (undef)] #[.int .i64 za, .int .i64 zb, .int .i64 zc, .int .i64 zd] 23 14 13 [some 61, some 62, some 63, some 64, some 65, some 66, some 67, some 68, some 69, some 70, some 71, some 72, some 73, some 7, none] (by kernel_rfl) (by kernel_rfl) (by kernel_rfl) ⟨?_, ?_, ?_, ?_, ?_, ?_, ?_, ?_, ?_, ?_, ?_, ?_, ?_, ?_, ?_, trivial⟩ ?_
        · rw [if_neg (by decide)]
          intro a' w' K hext hsees hK
          have y4 : a'.tmps[4]? = some (.slice (some ⟨g, 0, none⟩) 4 cap) := (hsees.old (t := 4) (by kernel_rfl) (by kernel_rfl)).trans rfl
          have e4 := Dag.eval_of y4
          refine Dag.wpOp_lit rfl ?_
          go_simp
          exact hK _ _ rfl (Ext.refl _)
        · rw [if_neg (by decide)]
          intro a' w' K hext hsees hK
          obtain ⟨v61, y61, f61⟩ := hsees.new (t := 61) (j := 0) (by kernel_rfl) (by kernel_rfl)
          obtain rfl : v61 = (.slice (some ⟨g, 0, none⟩) 4 cap) := f61
          have e61 := Dag.eval_of y61
          refine Dag.wpOp_lit rfl ?_
          go_simp
          exact hK _ _ rfl (Ext.refl _)
        · rw [if_neg (by decide)]
          intro a' w' K hext hsees hK
          obtain ⟨v62, y62, f62⟩ := hsees.new (t := 62) (j := 1) (by kernel_rfl) (by kernel_rfl)
          obtain rfl : v62 = (.pointer (some ⟨g, 0, none⟩)) := f62
          have e62 := Dag.eval_of y62
          refine Dag.wpOp_lit rfl ?_
          have hcc := hext.cell q0
          go_simp
          exact hK _ _ rfl (Ext.refl _)
        · rw [if_neg (by decide)]
          intro a' w' K hext hsees hK
          have y4 : a'.tmps[4]? = some (.slice (some ⟨g, 0, none⟩) 4 cap) := (hsees.old (t := 4) (by kernel_rfl) (by kernel_rfl)).trans rfl
          have e4 := Dag.eval_of y4
          refine Dag.wpOp_lit rfl ?_
          go_simp
          exact hK _ _ rfl (Ext.refl _)
        · rw [if_neg (by decide)]
          intro a' w' K hext hsees hK
          obtain ⟨v64, y64, f64⟩ := hsees.new (t := 64) (j := 3) (by kernel_rfl) (by kernel_rfl)
          obtain rfl : v64 = (.slice (some ⟨g, 0, none⟩) 4 cap) := f64
          have e64 := Dag.eval_of y64
          refine Dag.wpOp_lit rfl ?_
          go_simp
          exact hK _ _ rfl (Ext.refl _)
        · rw [if_neg (by decide)]
          intro a' w' K hext hsees hK
          obtain ⟨v65, y65, f65⟩ := hsees.new (t := 65) (j := 4) (by kernel_rfl) (by kernel_rfl)
          obtain rfl : v65 = (.pointer (some ⟨g, 1, none⟩)) := f65
          have e65 := Dag.eval_of y65
          refine Dag.wpOp_lit rfl ?_
          have hcc := hext.cell q1
          go_simp
          exact hK _ _ rfl (Ext.refl _)
        · rw [if_neg (by decide)]
          intro a' w' K hext hsees hK
          have y4 : a'.tmps[4]? = some (.slice (some ⟨g, 0, none⟩) 4 cap) := (hsees.old (t := 4) (by kernel_rfl) (by kernel_rfl)).trans rfl
          have e4 := Dag.eval_of y4
          refine Dag.wpOp_lit rfl ?_
          go_simp
          exact hK _ _ rfl (Ext.refl _)
        · rw [if_neg (by decide)]
          intro a' w' K hext hsees hK
          obtain ⟨v67, y67, f67⟩ := hsees.new (t := 67) (j := 6) (by kernel_rfl) (by kernel_rfl)
          obtain rfl : v67 = (.slice (some ⟨g, 0, none⟩) 4 cap) := f67
          have e67 := Dag.eval_of y67
          refine Dag.wpOp_lit rfl ?_
          go_simp
          exact hK _ _ rfl (Ext.refl _)
        · rw [if_neg (by decide)]
          intro a' w' K hext hsees hK
          obtain ⟨v68, y68, f68⟩ := hsees.new (t := 68) (j := 7) (by kernel_rfl) (by kernel_rfl)
          obtain rfl : v68 = (.pointer (some ⟨g, 2, none⟩)) := f68
          have e68 := Dag.eval_of y68
          refine Dag.wpOp_lit rfl ?_
          have hcc := hext.cell q2
          go_simp
          exact hK _ _ rfl (Ext.refl _)
        · rw [if_neg (by decide)]
          intro a' w' K hext hsees hK
          have y4 : a'.tmps[4]? = some (.slice (some ⟨g, 0, none⟩) 4 cap) := (hsees.old (t := 4) (by kernel_rfl) (by kernel_rfl)).trans rfl
          have e4 := Dag.eval_of y4
          refine Dag.wpOp_lit rfl ?_
          go_simp
          exact hK _ _ rfl (Ext.refl _)
        · rw [if_neg (by decide)]
          intro a' w' K hext hsees hK
          obtain ⟨v70, y70, f70⟩ := hsees.new (t := 70) (j := 9) (by kernel_rfl) (by kernel_rfl)
          obtain rfl : v70 = (.slice (some ⟨g, 0, none⟩) 4 cap) := f70
          have e70 := Dag.eval_of y70
          refine Dag.wpOp_lit rfl ?_
          go_simp
          exact hK _ _ rfl (Ext.refl _)
        · rw [if_neg (by decide)]
          intro a' w' K hext hsees hK
          obtain ⟨v71, y71, f71⟩ := hsees.new (t := 71) (j := 10) (by kernel_rfl) (by kernel_rfl)
          obtain rfl : v71 = (.pointer (some ⟨g, 3, none⟩)) := f71
          have e71 := Dag.eval_of y71
          refine Dag.wpOp_lit rfl ?_
          have hcc := hext.cell q3
          go_simp
          exact hK _ _ rfl (Ext.refl _)
        · rw [if_neg (by decide)]
          intro a' w' K hext hsees hK
          obtain ⟨v63, y63, f63⟩ := hsees.new (t := 63) (j := 2) (by kernel_rfl) (by kernel_rfl)
          obtain rfl : v63 = (.int .i64 za) := f63
          have e63 := Dag.eval_of y63
          obtain ⟨v66, y66, f66⟩ := hsees.new (t := 66) (j := 5) (by kernel_rfl) (by kernel_rfl)
          obtain rfl : v66 = (.int .i64 zb) := f66
          have e66 := Dag.eval_of y66
          obtain ⟨v69, y69, f69⟩ := hsees.new (t := 69) (j := 8) (by kernel_rfl) (by kernel_rfl)
          obtain rfl : v69 = (.int .i64 zc) := f69
          have e69 := Dag.eval_of y69
          obtain ⟨v72, y72, f72⟩ := hsees.new (t := 72) (j := 11) (by kernel_rfl) (by kernel_rfl)
          obtain rfl : v72 = (.int .i64 zd) := f72
          have e72 := Dag.eval_of y72
          refine Dag.wpOp_lit rfl ?_
          go_simp
          exact hK _ _ rfl (Ext.refl _)
        · rw [if_neg (by decide)]
          intro a' w' K hext hsees hK
          refine Dag.wpOp_lit rfl ?_
          go_simp
          exact hK _ _ ⟨_, rfl, heap_new _ _, hext.sz⟩ ((Ext.refl _).alloc _)
        · rw [if_pos rfl]
          intro a' w' K hext hsees hK
          obtain ⟨v7, y7, f7⟩ := hsees.new (t := 7) (j := 13) (by kernel_rfl) (by kernel_rfl)
          obtain ⟨b7, rfl, hb7, hB7⟩ := f7
          have hc7 := Dag.cell_of_heap hb7
          have hz7 := Dag.frozen_of_heap hb7
          have e7 := Dag.eval_of y7
          obtain ⟨v73, y73, f73⟩ := hsees.new (t := 73) (j := 12) (by kernel_rfl) (by kernel_rfl)
          obtain rfl : v73 = (.agg #[.int .i64 za, .int .i64 zb, .int .i64 zc, .int .i64 zd]) := f73
          have e73 := Dag.eval_of y73
          refine Dag.wpOp_lit rfl ?_
          go_simp
          exact hK _ _ _ (Ext.setCell (Ext.setCell (Ext.setCell (Ext.setCell hext hB7 _) hB7 _) hB7 _) hB7 _) rfl y7 hB7 (Dag.heap_setCell (Dag.heap_setCell (Dag.heap_setCell (Dag.heap_setCell hb7 _) _) _) _)
        intro vs w' hw' hv hk
        obtain ⟨b, hb0, hb1, hb2⟩ := hk
        simp only [Dag.putL, Act.put, List.setIfInBounds_toArray, List.set_cons_zero, List.set_cons_succ, hb0]
        clear q0 q1 q2 q3
        have hx6 := hx.drew.trans hw'
        have hb6 := Lib.hid hb1
        obtain ⟨k0, k1, k2, k3, z0, z1, z2, z3⟩ := four_cells hb1
        clear hb1 hc0 hc1
        cases hvt : validT za zb zc zd
        · have HVT := Lib.hid hvt
          have hres : refParse s = ((0, 0, 0, 0), 6) := by rw [HP.out, hvt]; rfl
          have HRES := Lib.hid hres
          clear hres hvt
          go_wp2_with fail
          (go_at_call 8; (with_reducible refine (refValid_any za zb zc zd _).mono ?_); rintro e w7 ⟨rfl, hx7⟩; rw [HVT.out])
          clear k0 k1 k2 k3 z0 z1 z2 z3
          have hb9 := (hx6.trans hx7).heap HR0.out
          obtain ⟨k0, k1, k2, k3, z0, z1, z2, z3⟩ := four_cells hb9
          have hxx := hx1.trans (hx6.trans hx7)
          go_wp2_with fail
          have e3 := set_heap (i := 3) (set_heap (i := 2) (set_heap (i := 1) (set_heap (i := 0) hb9 (.int .i64 0)) (.int .i64 0)) (.int .i64 0)) (.int .i64 0)
          refine bodyPost_ret (rres_times (b := w.heap.size) (T := 23) _ rfl rfl e3) rfl ⟨0, 0, 0, 0, 6, HRES.out, rfl, (by repeat (first | exact Ext.refl _ | assumption | refine Ext.drew ?_ | refine Ext.alloc ?_ _ | refine Ext.setCell ?_ (by first | exact Nat.le_refl _ | (simp; done) | (simp; omega)) _ | refine Ext.trans ?_ (by assumption)))⟩
        · have HVT := Lib.hid hvt
          clear hvt
          go_wp2_with fail
          (go_at_call 8; (with_reducible refine (refValid_any za zb zc zd _).mono ?_); rintro e w7 ⟨rfl, hx7⟩; rw [HVT.out])
          clear k0 k1 k2 k3 z0 z1 z2 z3
          have hb7 := Lib.hid (hx7.heap hb6.out)
          obtain ⟨j0, j1, j2, j3, y0, y1, y2, y3⟩ := four_cells hb7.out
          go_wp2_with fail
          (go_at_call 9; (with_reducible refine (rText13_any za zb zc zd _ HVT.out).mono ?_); rintro e w8 ⟨rfl, hx8⟩)
          clear j0 j1 j2 j3 y0 y1 y2 y3
          have hx9 := (hx6.trans hx7).trans hx8
          have hb9 := hx9.heap HR0.out
          obtain ⟨k0, k1, k2, k3, z0, z1, z2, z3⟩ := four_cells hb9
          by_cases he : textT za zb zc zd = s
          · have HRES : Hid (refParse s = ((za, zb, zc, zd), 0)) := Lib.hid (by rw [HP.out, if_pos ⟨HVT.out, he⟩])
            have hbq : ((textT za zb zc zd).toList == s.toList) = true := by rw [he]; simp
            obtain ⟨j0, j1, j2, j3, y0, y1, y2, y3⟩ := four_cells (hx8.heap hb7.out)
            clear he
            have hxx := hx1.trans (hx9)
            go_wp2_with fail
            have e3 := set_heap (i := 3) (set_heap (i := 2) (set_heap (i := 1) (set_heap (i := 0) hb9 (.int .i64 za)) (.int .i64 zb)) (.int .i64 zc)) (.int .i64 zd)
            refine bodyPost_ret (rres_times (b := w.heap.size) (T := 23) _ rfl rfl e3) rfl ⟨za, zb, zc, zd, 0, HRES.out, rfl, (by repeat (first | exact Ext.refl _ | assumption | refine Ext.drew ?_ | refine Ext.alloc ?_ _ | refine Ext.setCell ?_ (by first | exact Nat.le_refl _ | (simp; done) | (simp; omega)) _ | refine Ext.trans ?_ (by assumption)))⟩
          · have HRES : Hid (refParse s = ((0, 0, 0, 0), 6)) := Lib.hid (by rw [HP.out, if_neg (fun h => he h.2)])
            have hbq := str_ne he
            clear he
            have hxx := hx1.trans (hx9)
            go_wp2_with fail
            have e3 := set_heap (i := 3) (set_heap (i := 2) (set_heap (i := 1) (set_heap (i := 0) hb9 (.int .i64 0)) (.int .i64 0)) (.int .i64 0)) (.int .i64 0)
            refine bodyPost_ret (rres_times (b := w.heap.size) (T := 23) _ rfl rfl e3) rfl ⟨0, 0, 0, 0, 6, HRES.out, rfl, (by repeat (first | exact Ext.refl _ | assumption | refine Ext.drew ?_ | refine Ext.alloc ?_ _ | refine Ext.setCell ?_ (by first | exact Nat.le_refl _ | (simp; done) | (simp; omega)) _ | refine Ext.trans ?_ (by assumption)))⟩
      · have hres : refParse s = ((0, 0, 0, 0), 6) := ref_len hF (by rw [hdl]; exact h4)
        have HRES := Lib.hid hres
        have d4 : ((d : Int) + 1 != 4) = true := by simp; omega
        clear hres hF
        have hb3 := hx.heap HR0.out
        obtain ⟨k0, k1, k2, k3, z0, z1, z2, z3⟩ := four_cells hb3
        have hxx := hx1.trans hx
        go_wp2_with fail
        have e3 := set_heap (i := 3) (set_heap (i := 2) (set_heap (i := 1) (set_heap (i := 0) hb3 (.int .i64 0)) (.int .i64 0)) (.int .i64 0)) (.int .i64 0)
        refine bodyPost_ret (rres_times (b := w.heap.size) (T := 23) _ rfl rfl e3) rfl ⟨0, 0, 0, 0, 6, HRES.out, rfl, (by repeat (first | exact Ext.refl _ | assumption | refine Ext.drew ?_ | refine Ext.alloc ?_ _ | refine Ext.setCell ?_ (by first | exact Nat.le_refl _ | (simp; done) | (simp; omega)) _ | refine Ext.trans ?_ (by assumption)))⟩
end Go.Proofs.YtdpjkocpdomkbaaGreatDoor
