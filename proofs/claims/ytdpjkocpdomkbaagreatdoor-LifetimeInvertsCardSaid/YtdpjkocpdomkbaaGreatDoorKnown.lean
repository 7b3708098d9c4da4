/- The examples of the chapter: 'known' returns true. The table of powers of ten as the program lays it. -/
import Derived.Test.YtdpjkocpdomkbaaGreatDoorKnownA
import Derived.Test.YtdpjkocpdomkbaaGreatDoorDag
import Derived.Deep.DeepCutAuto
import Derived.Deep.RegionWith
namespace Go.Proofs.YtdpjkocpdomkbaaGreatDoor
open Go.RowKit
/-- Block b holds these values. -/
def BoxAt (w : World) (b : Nat) (vs : Array Value) : Prop := b < w.heap.size ∧ ∀ i, w.cell? ⟨b, i, none⟩ = vs[i]?
theorem BoxAt.ext {w w' : World} {b : Nat} {vs : Array Value} (h : BoxAt w b vs) (e : Ext w w') : BoxAt w' b vs := ⟨Nat.lt_of_lt_of_le h.1 e.sz, fun i => (e.cells b i h.1).trans (h.2 i)⟩
theorem BoxAt.of {w : World} {b : Nat} {vs : Array Value} {T : TypeId} (h : w.heap[b]? = some (.cells vs T (0, 0))) : BoxAt w b vs := ⟨(Array.getElem?_eq_some_iff.1 h).1, Dag.cell_of_heap h⟩
theorem BoxAt.new (w : World) (vs : Array Value) (T : TypeId) : BoxAt (w.alloc (.cells vs T)) w.heap.size vs := BoxAt.of (heap_new _ _)
set_option maxRecDepth 8000 in
set_option maxHeartbeats 64000000 in
theorem known_any (w : World) (htab : Lib.TabIs Tryz.prog w "internal/strconv.uint64pow10" .u64 Lib.pow10Tab) :
    Calls Tryz.prog 5 #[] w fun e w' => e = .returned (.bool true) ∧ Ext w w' := by
  have Htab := Lib.hid htab
  clear htab
  go_enter Tryz.func5, Tryz.ntmps5
  go_wp2_with fail
  go_loopw [27] (fun i wr => ∃ k : Int, (k = 0 ∨ k = 1 ∨ k = 2 ∨ k = 3 ∨ k = 4 ∨ k = 5) ∧ i = .int .i64 k ∧ Ext (w.alloc (.cells #[.int .i64 0, .int .i64 0, .int .i64 0, .int .i64 0, .int .i64 120, .int .i64 500, .int .i64 55, .int .i64 0, .int .i64 0, .int .i64 56, .int .i64 0, .int .i64 0, .int .i64 0, .int .i64 50, .int .i64 0] 42)) wr) (fun i _ => (5 - intOf i).toNat)
  case atStart => exact ⟨0, .inl rfl, rfl, Ext.refl _⟩
  case round =>
    obtain ⟨k, hk, rfl, hx⟩ := hrel
    have hrw : ∀ i, wr.cell? ⟨w.heap.size, i, none⟩ = _ := fun i => hx.cells _ i (by simp)
    have hsz : w.heap.size < wr.heap.size := by have := hx.sz; simp at this; omega
    have hxw : Ext w wr := (by repeat (first | exact Ext.refl _ | assumption | refine Ext.drew ?_ | refine Ext.alloc ?_ _ | refine Ext.setCell ?_ (by first | exact Nat.le_refl _ | (simp; done) | (simp; omega)) _ | refine Ext.trans ?_ (by assumption)))
    rcases hk with rfl | rfl | rfl | rfl | rfl | rfl
    · go_upto_region 4 with fail
      go_cut [3, 4] (fun s3 s4 wx => ∃ b, s3 = .pointer (some ⟨b, 0, none⟩) ∧ s4 = .int .i64 0 ∧ BoxAt wx b #[.int .i64 50, .int .i64 50, .int .i64 150, .int .i64 0] ∧ Ext wr wx)
      case first =>
        refine Dag.wp_region_store [.val (.agg #[.int .i64 0, .int .i64 0, .int .i64 0]), .val (.agg #[.int .i64 100, .int .i64 1000]), .val (.tuple #[.agg #[.int .i64 50, .int .i64 50, .int .i64 150, .int .i64 0], .int .i64 0]), .val (.tuple #[.agg #[.int .i64 50, .int .i64 50, .int .i64 150, .int .i64 0], .int .i64 0]), .val (.agg #[.int .i64 50, .int .i64 50, .int .i64 150, .int .i64 0]), .val (.int .i64 0), .var #[.int .i64 0, .int .i64 0, .int .i64 0, .int .i64 0] 23, .val undef, .val (.int .i64 0)] #[.int .i64 50, .int .i64 50, .int .i64 150, .int .i64 0] 23 7 6 [some 33, some 34, some 35, some 32, some 36, some 37, some 3, none, some 4] (by kernel_rfl) (by kernel_rfl) (by kernel_rfl) ⟨?_, ?_, ?_, ?_, ?_, ?_, ?_, ?_, ?_, trivial⟩ ?_
        · rw [if_neg (by decide)]
          intro a' w' K hext hsees hK
          have y2 : a'.tmps[2]? = some (.pointer (some ⟨wr.heap.size, 0, none⟩)) := (hsees.old (t := 2) (by kernel_rfl) (by kernel_rfl)).trans rfl
          have e2 := Dag.eval_of y2
          refine Dag.wpOp_lit rfl ?_
          have hb2 := ((BoxAt.new wr #[.int .i64 0, .int .i64 0, .int .i64 0] 42).ext ((Ext.refl _).drew.trans hext)).2
          go_simp
          exact hK _ _ rfl (Ext.refl _)
        · rw [if_neg (by decide)]
          intro a' w' K hext hsees hK
          refine Dag.wpOp_lit rfl ?_
          go_simp
          refine (limits_any _).mono ?_
          rintro e w_c ⟨rfl, hx_c⟩
          exact hK _ _ rfl hx_c
        · rw [if_neg (by decide)]
          intro a' w' K hext hsees hK
          obtain ⟨v33, y33, f33⟩ := hsees.new (t := 33) (j := 0) (by kernel_rfl) (by kernel_rfl)
          obtain rfl : v33 = (.agg #[.int .i64 0, .int .i64 0, .int .i64 0]) := f33
          have e33 := Dag.eval_of y33
          obtain ⟨v34, y34, f34⟩ := hsees.new (t := 34) (j := 1) (by kernel_rfl) (by kernel_rfl)
          obtain rfl : v34 = (.agg #[.int .i64 100, .int .i64 1000]) := f34
          have e34 := Dag.eval_of y34
          refine Dag.wpOp_lit rfl ?_
          go_simp
          refine (c_ki0 _).mono ?_
          rintro e w_c ⟨rfl, hx_c⟩
          exact hK _ _ rfl hx_c
        · rw [if_neg (by decide)]
          intro a' w' K hext hsees hK
          obtain ⟨v35, y35, f35⟩ := hsees.new (t := 35) (j := 2) (by kernel_rfl) (by kernel_rfl)
          obtain rfl : v35 = (.tuple #[.agg #[.int .i64 50, .int .i64 50, .int .i64 150, .int .i64 0], .int .i64 0]) := f35
          have e35 := Dag.eval_of y35
          refine Dag.wpOp_lit rfl ?_
          go_simp
          exact hK _ _ rfl (Ext.refl _)
        · rw [if_neg (by decide)]
          intro a' w' K hext hsees hK
          obtain ⟨v32, y32, f32⟩ := hsees.new (t := 32) (j := 3) (by kernel_rfl) (by kernel_rfl)
          obtain rfl : v32 = (.tuple #[.agg #[.int .i64 50, .int .i64 50, .int .i64 150, .int .i64 0], .int .i64 0]) := f32
          have e32 := Dag.eval_of y32
          refine Dag.wpOp_lit rfl ?_
          go_simp
          exact hK _ _ rfl (Ext.refl _)
        · rw [if_neg (by decide)]
          intro a' w' K hext hsees hK
          obtain ⟨v32, y32, f32⟩ := hsees.new (t := 32) (j := 3) (by kernel_rfl) (by kernel_rfl)
          obtain rfl : v32 = (.tuple #[.agg #[.int .i64 50, .int .i64 50, .int .i64 150, .int .i64 0], .int .i64 0]) := f32
          have e32 := Dag.eval_of y32
          refine Dag.wpOp_lit rfl ?_
          go_simp
          exact hK _ _ rfl (Ext.refl _)
        · rw [if_neg (by decide)]
          intro a' w' K hext hsees hK
          refine Dag.wpOp_lit rfl ?_
          go_simp
          exact hK _ _ ⟨_, rfl, heap_new _ _, hext.sz⟩ ((Ext.refl _).alloc _)
        · rw [if_pos rfl]
          intro a' w' K hext hsees hK
          obtain ⟨v3, y3, f3⟩ := hsees.new (t := 3) (j := 6) (by kernel_rfl) (by kernel_rfl)
          obtain ⟨b3, rfl, hb3, hB3⟩ := f3
          have hc3 := Dag.cell_of_heap hb3
          have hz3 := Dag.frozen_of_heap hb3
          have e3 := Dag.eval_of y3
          obtain ⟨v36, y36, f36⟩ := hsees.new (t := 36) (j := 4) (by kernel_rfl) (by kernel_rfl)
          obtain rfl : v36 = (.agg #[.int .i64 50, .int .i64 50, .int .i64 150, .int .i64 0]) := f36
          have e36 := Dag.eval_of y36
          refine Dag.wpOp_lit rfl ?_
          go_simp
          exact hK _ _ _ (Ext.setCell (Ext.setCell (Ext.setCell (Ext.setCell hext hB3 _) hB3 _) hB3 _) hB3 _) rfl y3 hB3 (Dag.heap_setCell (Dag.heap_setCell (Dag.heap_setCell (Dag.heap_setCell hb3 _) _) _) _)
        · rw [if_neg (by decide)]
          intro a' w' K hext hsees hK
          obtain ⟨v37, y37, f37⟩ := hsees.new (t := 37) (j := 5) (by kernel_rfl) (by kernel_rfl)
          obtain rfl : v37 = (.int .i64 0) := f37
          have e37 := Dag.eval_of y37
          refine Dag.wpOp_lit rfl ?_
          go_simp
          exact hK _ _ rfl (Ext.refl _)
        intro vs w' hw' hv hk
        obtain ⟨b, hb0, hb1, hb2⟩ := hk
        have h8 : vs 8 = (.int .i64 0) := hv 8 (by decide) (by decide) rfl
        simp only [Dag.putL, Act.put, List.setIfInBounds_toArray, List.set_cons_zero, List.set_cons_succ, hb0, h8]
        go_wp2_with fail
        go_meet
        exact ⟨b, rfl, rfl, BoxAt.of hb1, (by repeat (first | exact Ext.refl _ | assumption | refine Ext.drew ?_ | refine Ext.alloc ?_ _ | refine Ext.setCell ?_ (by first | exact Nat.le_refl _ | (simp; done) | (simp; omega)) _ | refine Ext.trans ?_ (by assumption)))⟩
      case rest =>
        obtain ⟨b, rfl, rfl, hB, hx4⟩ := hcut
        go_upto_region 5 with fail
        go_cut [49] (fun s49 wx => s49 = .bool false ∧ Ext wc wx)
        case first =>
          refine Dag.wp_region_facts [.val (.agg #[.int .i64 50, .int .i64 50, .int .i64 150, .int .i64 0]), .val (.int .i64 0), .box 5 #[.string ⟨#[53, 48, 32, 53, 48, 32, 49, 53, 48, 32, 48]⟩, .string ⟨#[53, 48, 32, 53, 48, 32, 49, 50, 48, 32, 53, 48, 48]⟩, .string ⟨#[53, 48, 32, 53, 48, 32, 49, 53, 48, 32, 48]⟩, .string ⟨#[53, 48, 32, 53, 54, 32, 49, 53, 54, 32, 48]⟩, .string ⟨#[]⟩] 9, .val (.int .i64 0), .into 0 #[.string ⟨#[53, 48, 32, 53, 48, 32, 49, 53, 48, 32, 48]⟩, .string ⟨#[53, 48, 32, 53, 48, 32, 49, 50, 48, 32, 53, 48, 48]⟩, .string ⟨#[53, 48, 32, 53, 48, 32, 49, 53, 48, 32, 48]⟩, .string ⟨#[53, 48, 32, 53, 54, 32, 49, 53, 54, 32, 48]⟩, .string ⟨#[]⟩] 9, .val (.string ⟨#[53, 48, 32, 53, 48, 32, 49, 53, 48, 32, 48]⟩), .box 5 #[.int .i64 0, .int .i64 0, .int .i64 0, .int .i64 0, .int .i64 143] 25, .val (.int .i64 0), .into 0 #[.int .i64 0, .int .i64 0, .int .i64 0, .int .i64 0, .int .i64 143] 25, .val (.int .i64 0), .val (.bool true), .val (.bool false)] [some 38, some 39, some 40, some 41, some 42, some 43, some 44, some 45, some 46, some 47, some 48, some 49] (by kernel_rfl) (by kernel_rfl) (by kernel_rfl) ⟨?_, ?_, ?_, ?_, ?_, ?_, ?_, ?_, ?_, ?_, ?_, ?_, trivial⟩ ?_
          · intro a' w' K hext hsees hK
            have y3 : a'.tmps[3]? = some (.pointer (some ⟨b, 0, none⟩)) := (hsees.old (t := 3) (by kernel_rfl) (by kernel_rfl)).trans rfl
            have e3 := Dag.eval_of y3
            refine Dag.wpOp_lit rfl ?_
            have hb' := hB.ext ((Ext.refl _).drew.trans hext)
            have hb2 := hb'.2
            go_simp
            exact hK _ _ rfl (Ext.refl _)
          · intro a' w' K hext hsees hK
            have y4 : a'.tmps[4]? = some (.int .i64 0) := (hsees.old (t := 4) (by kernel_rfl) (by kernel_rfl)).trans rfl
            have e4 := Dag.eval_of y4
            refine Dag.wpOp_lit rfl ?_
            go_simp
            exact hK _ _ rfl (Ext.refl _)
          · intro a' w' K hext hsees hK
            refine Dag.wpOp_lit rfl ?_
            go_simp
            exact hK _ _ ⟨_, rfl, heap_new _ _⟩ ((Ext.refl _).alloc _)
          · intro a' w' K hext hsees hK
            have y1 : a'.tmps[1]? = some (.int .i64 0) := (hsees.old (t := 1) (by kernel_rfl) (by kernel_rfl)).trans rfl
            have e1 := Dag.eval_of y1
            refine Dag.wpOp_lit rfl ?_
            go_simp
            exact hK _ _ rfl (Ext.refl _)
          · intro a' w' K hext hsees hK
            obtain ⟨v40, y40, f40⟩ := hsees.new (t := 40) (j := 2) (by kernel_rfl) (by kernel_rfl)
            obtain ⟨b40, rfl, hb40⟩ := f40
            have hc40 := Dag.cell_of_heap hb40
            have e40 := Dag.eval_of y40
            obtain ⟨v41, y41, f41⟩ := hsees.new (t := 41) (j := 3) (by kernel_rfl) (by kernel_rfl)
            obtain rfl : v41 = (.int .i64 0) := f41
            have e41 := Dag.eval_of y41
            refine Dag.wpOp_lit rfl ?_
            go_simp
            exact hK _ _ ⟨_, rfl, hb40⟩ (Ext.refl _)
          · intro a' w' K hext hsees hK
            obtain ⟨v42, y42, f42⟩ := hsees.new (t := 42) (j := 4) (by kernel_rfl) (by kernel_rfl)
            obtain ⟨b42, rfl, hb42⟩ := f42
            have hc42 := Dag.cell_of_heap hb42
            have e42 := Dag.eval_of y42
            refine Dag.wpOp_lit rfl ?_
            go_simp
            exact hK _ _ rfl (Ext.refl _)
          · intro a' w' K hext hsees hK
            refine Dag.wpOp_lit rfl ?_
            go_simp
            exact hK _ _ ⟨_, rfl, heap_new _ _⟩ ((Ext.refl _).alloc _)
          · intro a' w' K hext hsees hK
            have y1 : a'.tmps[1]? = some (.int .i64 0) := (hsees.old (t := 1) (by kernel_rfl) (by kernel_rfl)).trans rfl
            have e1 := Dag.eval_of y1
            refine Dag.wpOp_lit rfl ?_
            go_simp
            exact hK _ _ rfl (Ext.refl _)
          · intro a' w' K hext hsees hK
            obtain ⟨v44, y44, f44⟩ := hsees.new (t := 44) (j := 6) (by kernel_rfl) (by kernel_rfl)
            obtain ⟨b44, rfl, hb44⟩ := f44
            have hc44 := Dag.cell_of_heap hb44
            have e44 := Dag.eval_of y44
            obtain ⟨v45, y45, f45⟩ := hsees.new (t := 45) (j := 7) (by kernel_rfl) (by kernel_rfl)
            obtain rfl : v45 = (.int .i64 0) := f45
            have e45 := Dag.eval_of y45
            refine Dag.wpOp_lit rfl ?_
            go_simp
            exact hK _ _ ⟨_, rfl, hb44⟩ (Ext.refl _)
          · intro a' w' K hext hsees hK
            obtain ⟨v46, y46, f46⟩ := hsees.new (t := 46) (j := 8) (by kernel_rfl) (by kernel_rfl)
            obtain ⟨b46, rfl, hb46⟩ := f46
            have hc46 := Dag.cell_of_heap hb46
            have e46 := Dag.eval_of y46
            refine Dag.wpOp_lit rfl ?_
            go_simp
            exact hK _ _ rfl (Ext.refl _)
          · intro a' w' K hext hsees hK
            obtain ⟨v38, y38, f38⟩ := hsees.new (t := 38) (j := 0) (by kernel_rfl) (by kernel_rfl)
            obtain rfl : v38 = (.agg #[.int .i64 50, .int .i64 50, .int .i64 150, .int .i64 0]) := f38
            have e38 := Dag.eval_of y38
            obtain ⟨v39, y39, f39⟩ := hsees.new (t := 39) (j := 1) (by kernel_rfl) (by kernel_rfl)
            obtain rfl : v39 = (.int .i64 0) := f39
            have e39 := Dag.eval_of y39
            obtain ⟨v43, y43, f43⟩ := hsees.new (t := 43) (j := 5) (by kernel_rfl) (by kernel_rfl)
            obtain rfl : v43 = (.string ⟨#[53, 48, 32, 53, 48, 32, 49, 53, 48, 32, 48]⟩) := f43
            have e43 := Dag.eval_of y43
            obtain ⟨v47, y47, f47⟩ := hsees.new (t := 47) (j := 9) (by kernel_rfl) (by kernel_rfl)
            obtain rfl : v47 = (.int .i64 0) := f47
            have e47 := Dag.eval_of y47
            refine Dag.wpOp_lit rfl ?_
            go_simp
            refine (result_T _ _ _ _ _ _ kt0 (Ext.tab ((by repeat (first | exact Ext.refl _ | assumption | refine Ext.drew ?_ | refine Ext.alloc ?_ _ | refine Ext.setCell ?_ (by first | exact Nat.le_refl _ | (simp; done) | (simp; omega)) _ | refine Ext.trans ?_ (by assumption)))) pow10_g Htab.out)).mono ?_
            rintro e w_r ⟨rfl, hx_r⟩
            exact hK _ _ rfl hx_r
          · intro a' w' K hext hsees hK
            obtain ⟨v48, y48, f48⟩ := hsees.new (t := 48) (j := 10) (by kernel_rfl) (by kernel_rfl)
            obtain rfl : v48 = (.bool true) := f48
            have e48 := Dag.eval_of y48
            refine Dag.wpOp_lit rfl ?_
            go_simp
            exact hK _ _ rfl (Ext.refl _)
          intro vs w' hw' hv
          have h11 : vs 11 = (.bool false) := hv 11 (by decide)
          simp only [Dag.putL, Act.put, List.setIfInBounds_toArray, List.set_cons_zero, List.set_cons_succ, h11]
          go_wp2_with fail
          go_meet
          exact ⟨rfl, (by repeat (first | exact Ext.refl _ | assumption | refine Ext.drew ?_ | refine Ext.alloc ?_ _ | refine Ext.setCell ?_ (by first | exact Nat.le_refl _ | (simp; done) | (simp; omega)) _ | refine Ext.trans ?_ (by assumption)))⟩
        case rest =>
          obtain ⟨rfl, hx5⟩ := hcut
          go_wp2
          go_roundw
          case rel => exact ⟨1, by simp, by simp, hx.trans (hx4.trans hx5)⟩
          case measure => simp [intOf]
    · go_upto_region 4 with fail
      go_cut [3, 4] (fun s3 s4 wx => ∃ b, s3 = .pointer (some ⟨b, 0, none⟩) ∧ s4 = .int .i64 0 ∧ BoxAt wx b #[.int .i64 50, .int .i64 50, .int .i64 120, .int .i64 500] ∧ Ext wr wx)
      case first =>
        refine Dag.wp_region_store [.val (.agg #[.int .i64 0, .int .i64 120, .int .i64 500]), .val (.agg #[.int .i64 100, .int .i64 1000]), .val (.tuple #[.agg #[.int .i64 50, .int .i64 50, .int .i64 120, .int .i64 500], .int .i64 0]), .val (.tuple #[.agg #[.int .i64 50, .int .i64 50, .int .i64 120, .int .i64 500], .int .i64 0]), .val (.agg #[.int .i64 50, .int .i64 50, .int .i64 120, .int .i64 500]), .val (.int .i64 0), .var #[.int .i64 0, .int .i64 0, .int .i64 0, .int .i64 0] 23, .val undef, .val (.int .i64 0)] #[.int .i64 50, .int .i64 50, .int .i64 120, .int .i64 500] 23 7 6 [some 33, some 34, some 35, some 32, some 36, some 37, some 3, none, some 4] (by kernel_rfl) (by kernel_rfl) (by kernel_rfl) ⟨?_, ?_, ?_, ?_, ?_, ?_, ?_, ?_, ?_, trivial⟩ ?_
        · rw [if_neg (by decide)]
          intro a' w' K hext hsees hK
          have y2 : a'.tmps[2]? = some (.pointer (some ⟨wr.heap.size, 0, none⟩)) := (hsees.old (t := 2) (by kernel_rfl) (by kernel_rfl)).trans rfl
          have e2 := Dag.eval_of y2
          refine Dag.wpOp_lit rfl ?_
          have hb2 := ((BoxAt.new wr #[.int .i64 0, .int .i64 120, .int .i64 500] 42).ext ((Ext.refl _).drew.trans hext)).2
          go_simp
          exact hK _ _ rfl (Ext.refl _)
        · rw [if_neg (by decide)]
          intro a' w' K hext hsees hK
          refine Dag.wpOp_lit rfl ?_
          go_simp
          refine (limits_any _).mono ?_
          rintro e w_c ⟨rfl, hx_c⟩
          exact hK _ _ rfl hx_c
        · rw [if_neg (by decide)]
          intro a' w' K hext hsees hK
          obtain ⟨v33, y33, f33⟩ := hsees.new (t := 33) (j := 0) (by kernel_rfl) (by kernel_rfl)
          obtain rfl : v33 = (.agg #[.int .i64 0, .int .i64 120, .int .i64 500]) := f33
          have e33 := Dag.eval_of y33
          obtain ⟨v34, y34, f34⟩ := hsees.new (t := 34) (j := 1) (by kernel_rfl) (by kernel_rfl)
          obtain rfl : v34 = (.agg #[.int .i64 100, .int .i64 1000]) := f34
          have e34 := Dag.eval_of y34
          refine Dag.wpOp_lit rfl ?_
          go_simp
          refine (c_ki1 _).mono ?_
          rintro e w_c ⟨rfl, hx_c⟩
          exact hK _ _ rfl hx_c
        · rw [if_neg (by decide)]
          intro a' w' K hext hsees hK
          obtain ⟨v35, y35, f35⟩ := hsees.new (t := 35) (j := 2) (by kernel_rfl) (by kernel_rfl)
          obtain rfl : v35 = (.tuple #[.agg #[.int .i64 50, .int .i64 50, .int .i64 120, .int .i64 500], .int .i64 0]) := f35
          have e35 := Dag.eval_of y35
          refine Dag.wpOp_lit rfl ?_
          go_simp
          exact hK _ _ rfl (Ext.refl _)
        · rw [if_neg (by decide)]
          intro a' w' K hext hsees hK
          obtain ⟨v32, y32, f32⟩ := hsees.new (t := 32) (j := 3) (by kernel_rfl) (by kernel_rfl)
          obtain rfl : v32 = (.tuple #[.agg #[.int .i64 50, .int .i64 50, .int .i64 120, .int .i64 500], .int .i64 0]) := f32
          have e32 := Dag.eval_of y32
          refine Dag.wpOp_lit rfl ?_
          go_simp
          exact hK _ _ rfl (Ext.refl _)
        · rw [if_neg (by decide)]
          intro a' w' K hext hsees hK
          obtain ⟨v32, y32, f32⟩ := hsees.new (t := 32) (j := 3) (by kernel_rfl) (by kernel_rfl)
          obtain rfl : v32 = (.tuple #[.agg #[.int .i64 50, .int .i64 50, .int .i64 120, .int .i64 500], .int .i64 0]) := f32
          have e32 := Dag.eval_of y32
          refine Dag.wpOp_lit rfl ?_
          go_simp
          exact hK _ _ rfl (Ext.refl _)
        · rw [if_neg (by decide)]
          intro a' w' K hext hsees hK
          refine Dag.wpOp_lit rfl ?_
          go_simp
          exact hK _ _ ⟨_, rfl, heap_new _ _, hext.sz⟩ ((Ext.refl _).alloc _)
        · rw [if_pos rfl]
          intro a' w' K hext hsees hK
          obtain ⟨v3, y3, f3⟩ := hsees.new (t := 3) (j := 6) (by kernel_rfl) (by kernel_rfl)
          obtain ⟨b3, rfl, hb3, hB3⟩ := f3
          have hc3 := Dag.cell_of_heap hb3
          have hz3 := Dag.frozen_of_heap hb3
          have e3 := Dag.eval_of y3
          obtain ⟨v36, y36, f36⟩ := hsees.new (t := 36) (j := 4) (by kernel_rfl) (by kernel_rfl)
          obtain rfl : v36 = (.agg #[.int .i64 50, .int .i64 50, .int .i64 120, .int .i64 500]) := f36
          have e36 := Dag.eval_of y36
          refine Dag.wpOp_lit rfl ?_
          go_simp
          exact hK _ _ _ (Ext.setCell (Ext.setCell (Ext.setCell (Ext.setCell hext hB3 _) hB3 _) hB3 _) hB3 _) rfl y3 hB3 (Dag.heap_setCell (Dag.heap_setCell (Dag.heap_setCell (Dag.heap_setCell hb3 _) _) _) _)
        · rw [if_neg (by decide)]
          intro a' w' K hext hsees hK
          obtain ⟨v37, y37, f37⟩ := hsees.new (t := 37) (j := 5) (by kernel_rfl) (by kernel_rfl)
          obtain rfl : v37 = (.int .i64 0) := f37
          have e37 := Dag.eval_of y37
          refine Dag.wpOp_lit rfl ?_
          go_simp
          exact hK _ _ rfl (Ext.refl _)
        intro vs w' hw' hv hk
        obtain ⟨b, hb0, hb1, hb2⟩ := hk
        have h8 : vs 8 = (.int .i64 0) := hv 8 (by decide) (by decide) rfl
        simp only [Dag.putL, Act.put, List.setIfInBounds_toArray, List.set_cons_zero, List.set_cons_succ, hb0, h8]
        go_wp2_with fail
        go_meet
        exact ⟨b, rfl, rfl, BoxAt.of hb1, (by repeat (first | exact Ext.refl _ | assumption | refine Ext.drew ?_ | refine Ext.alloc ?_ _ | refine Ext.setCell ?_ (by first | exact Nat.le_refl _ | (simp; done) | (simp; omega)) _ | refine Ext.trans ?_ (by assumption)))⟩
      case rest =>
        obtain ⟨b, rfl, rfl, hB, hx4⟩ := hcut
        go_upto_region 5 with fail
        go_cut [49] (fun s49 wx => s49 = .bool false ∧ Ext wc wx)
        case first =>
          refine Dag.wp_region_facts [.val (.agg #[.int .i64 50, .int .i64 50, .int .i64 120, .int .i64 500]), .val (.int .i64 0), .box 5 #[.string ⟨#[53, 48, 32, 53, 48, 32, 49, 53, 48, 32, 48]⟩, .string ⟨#[53, 48, 32, 53, 48, 32, 49, 50, 48, 32, 53, 48, 48]⟩, .string ⟨#[53, 48, 32, 53, 48, 32, 49, 53, 48, 32, 48]⟩, .string ⟨#[53, 48, 32, 53, 54, 32, 49, 53, 54, 32, 48]⟩, .string ⟨#[]⟩] 9, .val (.int .i64 1), .into 1 #[.string ⟨#[53, 48, 32, 53, 48, 32, 49, 53, 48, 32, 48]⟩, .string ⟨#[53, 48, 32, 53, 48, 32, 49, 50, 48, 32, 53, 48, 48]⟩, .string ⟨#[53, 48, 32, 53, 48, 32, 49, 53, 48, 32, 48]⟩, .string ⟨#[53, 48, 32, 53, 54, 32, 49, 53, 54, 32, 48]⟩, .string ⟨#[]⟩] 9, .val (.string ⟨#[53, 48, 32, 53, 48, 32, 49, 50, 48, 32, 53, 48, 48]⟩), .box 5 #[.int .i64 0, .int .i64 0, .int .i64 0, .int .i64 0, .int .i64 143] 25, .val (.int .i64 1), .into 1 #[.int .i64 0, .int .i64 0, .int .i64 0, .int .i64 0, .int .i64 143] 25, .val (.int .i64 0), .val (.bool true), .val (.bool false)] [some 38, some 39, some 40, some 41, some 42, some 43, some 44, some 45, some 46, some 47, some 48, some 49] (by kernel_rfl) (by kernel_rfl) (by kernel_rfl) ⟨?_, ?_, ?_, ?_, ?_, ?_, ?_, ?_, ?_, ?_, ?_, ?_, trivial⟩ ?_
          · intro a' w' K hext hsees hK
            have y3 : a'.tmps[3]? = some (.pointer (some ⟨b, 0, none⟩)) := (hsees.old (t := 3) (by kernel_rfl) (by kernel_rfl)).trans rfl
            have e3 := Dag.eval_of y3
            refine Dag.wpOp_lit rfl ?_
            have hb' := hB.ext ((Ext.refl _).drew.trans hext)
            have hb2 := hb'.2
            go_simp
            exact hK _ _ rfl (Ext.refl _)
          · intro a' w' K hext hsees hK
            have y4 : a'.tmps[4]? = some (.int .i64 0) := (hsees.old (t := 4) (by kernel_rfl) (by kernel_rfl)).trans rfl
            have e4 := Dag.eval_of y4
            refine Dag.wpOp_lit rfl ?_
            go_simp
            exact hK _ _ rfl (Ext.refl _)
          · intro a' w' K hext hsees hK
            refine Dag.wpOp_lit rfl ?_
            go_simp
            exact hK _ _ ⟨_, rfl, heap_new _ _⟩ ((Ext.refl _).alloc _)
          · intro a' w' K hext hsees hK
            have y1 : a'.tmps[1]? = some (.int .i64 1) := (hsees.old (t := 1) (by kernel_rfl) (by kernel_rfl)).trans rfl
            have e1 := Dag.eval_of y1
            refine Dag.wpOp_lit rfl ?_
            go_simp
            exact hK _ _ rfl (Ext.refl _)
          · intro a' w' K hext hsees hK
            obtain ⟨v40, y40, f40⟩ := hsees.new (t := 40) (j := 2) (by kernel_rfl) (by kernel_rfl)
            obtain ⟨b40, rfl, hb40⟩ := f40
            have hc40 := Dag.cell_of_heap hb40
            have e40 := Dag.eval_of y40
            obtain ⟨v41, y41, f41⟩ := hsees.new (t := 41) (j := 3) (by kernel_rfl) (by kernel_rfl)
            obtain rfl : v41 = (.int .i64 1) := f41
            have e41 := Dag.eval_of y41
            refine Dag.wpOp_lit rfl ?_
            go_simp
            exact hK _ _ ⟨_, rfl, hb40⟩ (Ext.refl _)
          · intro a' w' K hext hsees hK
            obtain ⟨v42, y42, f42⟩ := hsees.new (t := 42) (j := 4) (by kernel_rfl) (by kernel_rfl)
            obtain ⟨b42, rfl, hb42⟩ := f42
            have hc42 := Dag.cell_of_heap hb42
            have e42 := Dag.eval_of y42
            refine Dag.wpOp_lit rfl ?_
            go_simp
            exact hK _ _ rfl (Ext.refl _)
          · intro a' w' K hext hsees hK
            refine Dag.wpOp_lit rfl ?_
            go_simp
            exact hK _ _ ⟨_, rfl, heap_new _ _⟩ ((Ext.refl _).alloc _)
          · intro a' w' K hext hsees hK
            have y1 : a'.tmps[1]? = some (.int .i64 1) := (hsees.old (t := 1) (by kernel_rfl) (by kernel_rfl)).trans rfl
            have e1 := Dag.eval_of y1
            refine Dag.wpOp_lit rfl ?_
            go_simp
            exact hK _ _ rfl (Ext.refl _)
          · intro a' w' K hext hsees hK
            obtain ⟨v44, y44, f44⟩ := hsees.new (t := 44) (j := 6) (by kernel_rfl) (by kernel_rfl)
            obtain ⟨b44, rfl, hb44⟩ := f44
            have hc44 := Dag.cell_of_heap hb44
            have e44 := Dag.eval_of y44
            obtain ⟨v45, y45, f45⟩ := hsees.new (t := 45) (j := 7) (by kernel_rfl) (by kernel_rfl)
            obtain rfl : v45 = (.int .i64 1) := f45
            have e45 := Dag.eval_of y45
            refine Dag.wpOp_lit rfl ?_
            go_simp
            exact hK _ _ ⟨_, rfl, hb44⟩ (Ext.refl _)
          · intro a' w' K hext hsees hK
            obtain ⟨v46, y46, f46⟩ := hsees.new (t := 46) (j := 8) (by kernel_rfl) (by kernel_rfl)
            obtain ⟨b46, rfl, hb46⟩ := f46
            have hc46 := Dag.cell_of_heap hb46
            have e46 := Dag.eval_of y46
            refine Dag.wpOp_lit rfl ?_
            go_simp
            exact hK _ _ rfl (Ext.refl _)
          · intro a' w' K hext hsees hK
            obtain ⟨v38, y38, f38⟩ := hsees.new (t := 38) (j := 0) (by kernel_rfl) (by kernel_rfl)
            obtain rfl : v38 = (.agg #[.int .i64 50, .int .i64 50, .int .i64 120, .int .i64 500]) := f38
            have e38 := Dag.eval_of y38
            obtain ⟨v39, y39, f39⟩ := hsees.new (t := 39) (j := 1) (by kernel_rfl) (by kernel_rfl)
            obtain rfl : v39 = (.int .i64 0) := f39
            have e39 := Dag.eval_of y39
            obtain ⟨v43, y43, f43⟩ := hsees.new (t := 43) (j := 5) (by kernel_rfl) (by kernel_rfl)
            obtain rfl : v43 = (.string ⟨#[53, 48, 32, 53, 48, 32, 49, 50, 48, 32, 53, 48, 48]⟩) := f43
            have e43 := Dag.eval_of y43
            obtain ⟨v47, y47, f47⟩ := hsees.new (t := 47) (j := 9) (by kernel_rfl) (by kernel_rfl)
            obtain rfl : v47 = (.int .i64 0) := f47
            have e47 := Dag.eval_of y47
            refine Dag.wpOp_lit rfl ?_
            go_simp
            refine (result_T _ _ _ _ _ _ kt1 (Ext.tab ((by repeat (first | exact Ext.refl _ | assumption | refine Ext.drew ?_ | refine Ext.alloc ?_ _ | refine Ext.setCell ?_ (by first | exact Nat.le_refl _ | (simp; done) | (simp; omega)) _ | refine Ext.trans ?_ (by assumption)))) pow10_g Htab.out)).mono ?_
            rintro e w_r ⟨rfl, hx_r⟩
            exact hK _ _ rfl hx_r
          · intro a' w' K hext hsees hK
            obtain ⟨v48, y48, f48⟩ := hsees.new (t := 48) (j := 10) (by kernel_rfl) (by kernel_rfl)
            obtain rfl : v48 = (.bool true) := f48
            have e48 := Dag.eval_of y48
            refine Dag.wpOp_lit rfl ?_
            go_simp
            exact hK _ _ rfl (Ext.refl _)
          intro vs w' hw' hv
          have h11 : vs 11 = (.bool false) := hv 11 (by decide)
          simp only [Dag.putL, Act.put, List.setIfInBounds_toArray, List.set_cons_zero, List.set_cons_succ, h11]
          go_wp2_with fail
          go_meet
          exact ⟨rfl, (by repeat (first | exact Ext.refl _ | assumption | refine Ext.drew ?_ | refine Ext.alloc ?_ _ | refine Ext.setCell ?_ (by first | exact Nat.le_refl _ | (simp; done) | (simp; omega)) _ | refine Ext.trans ?_ (by assumption)))⟩
        case rest =>
          obtain ⟨rfl, hx5⟩ := hcut
          go_wp2
          go_roundw
          case rel => exact ⟨2, by simp, by simp, hx.trans (hx4.trans hx5)⟩
          case measure => simp [intOf]
    · go_upto_region 4 with fail
      go_cut [3, 4] (fun s3 s4 wx => ∃ b, s3 = .pointer (some ⟨b, 0, none⟩) ∧ s4 = .int .i64 0 ∧ BoxAt wx b #[.int .i64 50, .int .i64 50, .int .i64 150, .int .i64 0] ∧ Ext wr wx)
      case first =>
        refine Dag.wp_region_store [.val (.agg #[.int .i64 55, .int .i64 0, .int .i64 0]), .val (.agg #[.int .i64 100, .int .i64 1000]), .val (.tuple #[.agg #[.int .i64 50, .int .i64 50, .int .i64 150, .int .i64 0], .int .i64 0]), .val (.tuple #[.agg #[.int .i64 50, .int .i64 50, .int .i64 150, .int .i64 0], .int .i64 0]), .val (.agg #[.int .i64 50, .int .i64 50, .int .i64 150, .int .i64 0]), .val (.int .i64 0), .var #[.int .i64 0, .int .i64 0, .int .i64 0, .int .i64 0] 23, .val undef, .val (.int .i64 0)] #[.int .i64 50, .int .i64 50, .int .i64 150, .int .i64 0] 23 7 6 [some 33, some 34, some 35, some 32, some 36, some 37, some 3, none, some 4] (by kernel_rfl) (by kernel_rfl) (by kernel_rfl) ⟨?_, ?_, ?_, ?_, ?_, ?_, ?_, ?_, ?_, trivial⟩ ?_
        · rw [if_neg (by decide)]
          intro a' w' K hext hsees hK
          have y2 : a'.tmps[2]? = some (.pointer (some ⟨wr.heap.size, 0, none⟩)) := (hsees.old (t := 2) (by kernel_rfl) (by kernel_rfl)).trans rfl
          have e2 := Dag.eval_of y2
          refine Dag.wpOp_lit rfl ?_
          have hb2 := ((BoxAt.new wr #[.int .i64 55, .int .i64 0, .int .i64 0] 42).ext ((Ext.refl _).drew.trans hext)).2
          go_simp
          exact hK _ _ rfl (Ext.refl _)
        · rw [if_neg (by decide)]
          intro a' w' K hext hsees hK
          refine Dag.wpOp_lit rfl ?_
          go_simp
          refine (limits_any _).mono ?_
          rintro e w_c ⟨rfl, hx_c⟩
          exact hK _ _ rfl hx_c
        · rw [if_neg (by decide)]
          intro a' w' K hext hsees hK
          obtain ⟨v33, y33, f33⟩ := hsees.new (t := 33) (j := 0) (by kernel_rfl) (by kernel_rfl)
          obtain rfl : v33 = (.agg #[.int .i64 55, .int .i64 0, .int .i64 0]) := f33
          have e33 := Dag.eval_of y33
          obtain ⟨v34, y34, f34⟩ := hsees.new (t := 34) (j := 1) (by kernel_rfl) (by kernel_rfl)
          obtain rfl : v34 = (.agg #[.int .i64 100, .int .i64 1000]) := f34
          have e34 := Dag.eval_of y34
          refine Dag.wpOp_lit rfl ?_
          go_simp
          refine (c_ki2 _).mono ?_
          rintro e w_c ⟨rfl, hx_c⟩
          exact hK _ _ rfl hx_c
        · rw [if_neg (by decide)]
          intro a' w' K hext hsees hK
          obtain ⟨v35, y35, f35⟩ := hsees.new (t := 35) (j := 2) (by kernel_rfl) (by kernel_rfl)
          obtain rfl : v35 = (.tuple #[.agg #[.int .i64 50, .int .i64 50, .int .i64 150, .int .i64 0], .int .i64 0]) := f35
          have e35 := Dag.eval_of y35
          refine Dag.wpOp_lit rfl ?_
          go_simp
          exact hK _ _ rfl (Ext.refl _)
        · rw [if_neg (by decide)]
          intro a' w' K hext hsees hK
          obtain ⟨v32, y32, f32⟩ := hsees.new (t := 32) (j := 3) (by kernel_rfl) (by kernel_rfl)
          obtain rfl : v32 = (.tuple #[.agg #[.int .i64 50, .int .i64 50, .int .i64 150, .int .i64 0], .int .i64 0]) := f32
          have e32 := Dag.eval_of y32
          refine Dag.wpOp_lit rfl ?_
          go_simp
          exact hK _ _ rfl (Ext.refl _)
        · rw [if_neg (by decide)]
          intro a' w' K hext hsees hK
          obtain ⟨v32, y32, f32⟩ := hsees.new (t := 32) (j := 3) (by kernel_rfl) (by kernel_rfl)
          obtain rfl : v32 = (.tuple #[.agg #[.int .i64 50, .int .i64 50, .int .i64 150, .int .i64 0], .int .i64 0]) := f32
          have e32 := Dag.eval_of y32
          refine Dag.wpOp_lit rfl ?_
          go_simp
          exact hK _ _ rfl (Ext.refl _)
        · rw [if_neg (by decide)]
          intro a' w' K hext hsees hK
          refine Dag.wpOp_lit rfl ?_
          go_simp
          exact hK _ _ ⟨_, rfl, heap_new _ _, hext.sz⟩ ((Ext.refl _).alloc _)
        · rw [if_pos rfl]
          intro a' w' K hext hsees hK
          obtain ⟨v3, y3, f3⟩ := hsees.new (t := 3) (j := 6) (by kernel_rfl) (by kernel_rfl)
          obtain ⟨b3, rfl, hb3, hB3⟩ := f3
          have hc3 := Dag.cell_of_heap hb3
          have hz3 := Dag.frozen_of_heap hb3
          have e3 := Dag.eval_of y3
          obtain ⟨v36, y36, f36⟩ := hsees.new (t := 36) (j := 4) (by kernel_rfl) (by kernel_rfl)
          obtain rfl : v36 = (.agg #[.int .i64 50, .int .i64 50, .int .i64 150, .int .i64 0]) := f36
          have e36 := Dag.eval_of y36
          refine Dag.wpOp_lit rfl ?_
          go_simp
          exact hK _ _ _ (Ext.setCell (Ext.setCell (Ext.setCell (Ext.setCell hext hB3 _) hB3 _) hB3 _) hB3 _) rfl y3 hB3 (Dag.heap_setCell (Dag.heap_setCell (Dag.heap_setCell (Dag.heap_setCell hb3 _) _) _) _)
        · rw [if_neg (by decide)]
          intro a' w' K hext hsees hK
          obtain ⟨v37, y37, f37⟩ := hsees.new (t := 37) (j := 5) (by kernel_rfl) (by kernel_rfl)
          obtain rfl : v37 = (.int .i64 0) := f37
          have e37 := Dag.eval_of y37
          refine Dag.wpOp_lit rfl ?_
          go_simp
          exact hK _ _ rfl (Ext.refl _)
        intro vs w' hw' hv hk
        obtain ⟨b, hb0, hb1, hb2⟩ := hk
        have h8 : vs 8 = (.int .i64 0) := hv 8 (by decide) (by decide) rfl
        simp only [Dag.putL, Act.put, List.setIfInBounds_toArray, List.set_cons_zero, List.set_cons_succ, hb0, h8]
        go_wp2_with fail
        go_meet
        exact ⟨b, rfl, rfl, BoxAt.of hb1, (by repeat (first | exact Ext.refl _ | assumption | refine Ext.drew ?_ | refine Ext.alloc ?_ _ | refine Ext.setCell ?_ (by first | exact Nat.le_refl _ | (simp; done) | (simp; omega)) _ | refine Ext.trans ?_ (by assumption)))⟩
      case rest =>
        obtain ⟨b, rfl, rfl, hB, hx4⟩ := hcut
        go_upto_region 5 with fail
        go_cut [49] (fun s49 wx => s49 = .bool false ∧ Ext wc wx)
        case first =>
          refine Dag.wp_region_facts [.val (.agg #[.int .i64 50, .int .i64 50, .int .i64 150, .int .i64 0]), .val (.int .i64 0), .box 5 #[.string ⟨#[53, 48, 32, 53, 48, 32, 49, 53, 48, 32, 48]⟩, .string ⟨#[53, 48, 32, 53, 48, 32, 49, 50, 48, 32, 53, 48, 48]⟩, .string ⟨#[53, 48, 32, 53, 48, 32, 49, 53, 48, 32, 48]⟩, .string ⟨#[53, 48, 32, 53, 54, 32, 49, 53, 54, 32, 48]⟩, .string ⟨#[]⟩] 9, .val (.int .i64 2), .into 2 #[.string ⟨#[53, 48, 32, 53, 48, 32, 49, 53, 48, 32, 48]⟩, .string ⟨#[53, 48, 32, 53, 48, 32, 49, 50, 48, 32, 53, 48, 48]⟩, .string ⟨#[53, 48, 32, 53, 48, 32, 49, 53, 48, 32, 48]⟩, .string ⟨#[53, 48, 32, 53, 54, 32, 49, 53, 54, 32, 48]⟩, .string ⟨#[]⟩] 9, .val (.string ⟨#[53, 48, 32, 53, 48, 32, 49, 53, 48, 32, 48]⟩), .box 5 #[.int .i64 0, .int .i64 0, .int .i64 0, .int .i64 0, .int .i64 143] 25, .val (.int .i64 2), .into 2 #[.int .i64 0, .int .i64 0, .int .i64 0, .int .i64 0, .int .i64 143] 25, .val (.int .i64 0), .val (.bool true), .val (.bool false)] [some 38, some 39, some 40, some 41, some 42, some 43, some 44, some 45, some 46, some 47, some 48, some 49] (by kernel_rfl) (by kernel_rfl) (by kernel_rfl) ⟨?_, ?_, ?_, ?_, ?_, ?_, ?_, ?_, ?_, ?_, ?_, ?_, trivial⟩ ?_
          · intro a' w' K hext hsees hK
            have y3 : a'.tmps[3]? = some (.pointer (some ⟨b, 0, none⟩)) := (hsees.old (t := 3) (by kernel_rfl) (by kernel_rfl)).trans rfl
            have e3 := Dag.eval_of y3
            refine Dag.wpOp_lit rfl ?_
            have hb' := hB.ext ((Ext.refl _).drew.trans hext)
            have hb2 := hb'.2
            go_simp
            exact hK _ _ rfl (Ext.refl _)
          · intro a' w' K hext hsees hK
            have y4 : a'.tmps[4]? = some (.int .i64 0) := (hsees.old (t := 4) (by kernel_rfl) (by kernel_rfl)).trans rfl
            have e4 := Dag.eval_of y4
            refine Dag.wpOp_lit rfl ?_
            go_simp
            exact hK _ _ rfl (Ext.refl _)
          · intro a' w' K hext hsees hK
            refine Dag.wpOp_lit rfl ?_
            go_simp
            exact hK _ _ ⟨_, rfl, heap_new _ _⟩ ((Ext.refl _).alloc _)
          · intro a' w' K hext hsees hK
            have y1 : a'.tmps[1]? = some (.int .i64 2) := (hsees.old (t := 1) (by kernel_rfl) (by kernel_rfl)).trans rfl
            have e1 := Dag.eval_of y1
            refine Dag.wpOp_lit rfl ?_
            go_simp
            exact hK _ _ rfl (Ext.refl _)
          · intro a' w' K hext hsees hK
            obtain ⟨v40, y40, f40⟩ := hsees.new (t := 40) (j := 2) (by kernel_rfl) (by kernel_rfl)
            obtain ⟨b40, rfl, hb40⟩ := f40
            have hc40 := Dag.cell_of_heap hb40
            have e40 := Dag.eval_of y40
            obtain ⟨v41, y41, f41⟩ := hsees.new (t := 41) (j := 3) (by kernel_rfl) (by kernel_rfl)
            obtain rfl : v41 = (.int .i64 2) := f41
            have e41 := Dag.eval_of y41
            refine Dag.wpOp_lit rfl ?_
            go_simp
            exact hK _ _ ⟨_, rfl, hb40⟩ (Ext.refl _)
          · intro a' w' K hext hsees hK
            obtain ⟨v42, y42, f42⟩ := hsees.new (t := 42) (j := 4) (by kernel_rfl) (by kernel_rfl)
            obtain ⟨b42, rfl, hb42⟩ := f42
            have hc42 := Dag.cell_of_heap hb42
            have e42 := Dag.eval_of y42
            refine Dag.wpOp_lit rfl ?_
            go_simp
            exact hK _ _ rfl (Ext.refl _)
          · intro a' w' K hext hsees hK
            refine Dag.wpOp_lit rfl ?_
            go_simp
            exact hK _ _ ⟨_, rfl, heap_new _ _⟩ ((Ext.refl _).alloc _)
          · intro a' w' K hext hsees hK
            have y1 : a'.tmps[1]? = some (.int .i64 2) := (hsees.old (t := 1) (by kernel_rfl) (by kernel_rfl)).trans rfl
            have e1 := Dag.eval_of y1
            refine Dag.wpOp_lit rfl ?_
            go_simp
            exact hK _ _ rfl (Ext.refl _)
          · intro a' w' K hext hsees hK
            obtain ⟨v44, y44, f44⟩ := hsees.new (t := 44) (j := 6) (by kernel_rfl) (by kernel_rfl)
            obtain ⟨b44, rfl, hb44⟩ := f44
            have hc44 := Dag.cell_of_heap hb44
            have e44 := Dag.eval_of y44
            obtain ⟨v45, y45, f45⟩ := hsees.new (t := 45) (j := 7) (by kernel_rfl) (by kernel_rfl)
            obtain rfl : v45 = (.int .i64 2) := f45
            have e45 := Dag.eval_of y45
            refine Dag.wpOp_lit rfl ?_
            go_simp
            exact hK _ _ ⟨_, rfl, hb44⟩ (Ext.refl _)
          · intro a' w' K hext hsees hK
            obtain ⟨v46, y46, f46⟩ := hsees.new (t := 46) (j := 8) (by kernel_rfl) (by kernel_rfl)
            obtain ⟨b46, rfl, hb46⟩ := f46
            have hc46 := Dag.cell_of_heap hb46
            have e46 := Dag.eval_of y46
            refine Dag.wpOp_lit rfl ?_
            go_simp
            exact hK _ _ rfl (Ext.refl _)
          · intro a' w' K hext hsees hK
            obtain ⟨v38, y38, f38⟩ := hsees.new (t := 38) (j := 0) (by kernel_rfl) (by kernel_rfl)
            obtain rfl : v38 = (.agg #[.int .i64 50, .int .i64 50, .int .i64 150, .int .i64 0]) := f38
            have e38 := Dag.eval_of y38
            obtain ⟨v39, y39, f39⟩ := hsees.new (t := 39) (j := 1) (by kernel_rfl) (by kernel_rfl)
            obtain rfl : v39 = (.int .i64 0) := f39
            have e39 := Dag.eval_of y39
            obtain ⟨v43, y43, f43⟩ := hsees.new (t := 43) (j := 5) (by kernel_rfl) (by kernel_rfl)
            obtain rfl : v43 = (.string ⟨#[53, 48, 32, 53, 48, 32, 49, 53, 48, 32, 48]⟩) := f43
            have e43 := Dag.eval_of y43
            obtain ⟨v47, y47, f47⟩ := hsees.new (t := 47) (j := 9) (by kernel_rfl) (by kernel_rfl)
            obtain rfl : v47 = (.int .i64 0) := f47
            have e47 := Dag.eval_of y47
            refine Dag.wpOp_lit rfl ?_
            go_simp
            refine (result_T _ _ _ _ _ _ kt0 (Ext.tab ((by repeat (first | exact Ext.refl _ | assumption | refine Ext.drew ?_ | refine Ext.alloc ?_ _ | refine Ext.setCell ?_ (by first | exact Nat.le_refl _ | (simp; done) | (simp; omega)) _ | refine Ext.trans ?_ (by assumption)))) pow10_g Htab.out)).mono ?_
            rintro e w_r ⟨rfl, hx_r⟩
            exact hK _ _ rfl hx_r
          · intro a' w' K hext hsees hK
            obtain ⟨v48, y48, f48⟩ := hsees.new (t := 48) (j := 10) (by kernel_rfl) (by kernel_rfl)
            obtain rfl : v48 = (.bool true) := f48
            have e48 := Dag.eval_of y48
            refine Dag.wpOp_lit rfl ?_
            go_simp
            exact hK _ _ rfl (Ext.refl _)
          intro vs w' hw' hv
          have h11 : vs 11 = (.bool false) := hv 11 (by decide)
          simp only [Dag.putL, Act.put, List.setIfInBounds_toArray, List.set_cons_zero, List.set_cons_succ, h11]
          go_wp2_with fail
          go_meet
          exact ⟨rfl, (by repeat (first | exact Ext.refl _ | assumption | refine Ext.drew ?_ | refine Ext.alloc ?_ _ | refine Ext.setCell ?_ (by first | exact Nat.le_refl _ | (simp; done) | (simp; omega)) _ | refine Ext.trans ?_ (by assumption)))⟩
        case rest =>
          obtain ⟨rfl, hx5⟩ := hcut
          go_wp2
          go_roundw
          case rel => exact ⟨3, by simp, by simp, hx.trans (hx4.trans hx5)⟩
          case measure => simp [intOf]
    · go_upto_region 4 with fail
      go_cut [3, 4] (fun s3 s4 wx => ∃ b, s3 = .pointer (some ⟨b, 0, none⟩) ∧ s4 = .int .i64 0 ∧ BoxAt wx b #[.int .i64 50, .int .i64 56, .int .i64 156, .int .i64 0] ∧ Ext wr wx)
      case first =>
        refine Dag.wp_region_store [.val (.agg #[.int .i64 56, .int .i64 0, .int .i64 0]), .val (.agg #[.int .i64 100, .int .i64 1000]), .val (.tuple #[.agg #[.int .i64 50, .int .i64 56, .int .i64 156, .int .i64 0], .int .i64 0]), .val (.tuple #[.agg #[.int .i64 50, .int .i64 56, .int .i64 156, .int .i64 0], .int .i64 0]), .val (.agg #[.int .i64 50, .int .i64 56, .int .i64 156, .int .i64 0]), .val (.int .i64 0), .var #[.int .i64 0, .int .i64 0, .int .i64 0, .int .i64 0] 23, .val undef, .val (.int .i64 0)] #[.int .i64 50, .int .i64 56, .int .i64 156, .int .i64 0] 23 7 6 [some 33, some 34, some 35, some 32, some 36, some 37, some 3, none, some 4] (by kernel_rfl) (by kernel_rfl) (by kernel_rfl) ⟨?_, ?_, ?_, ?_, ?_, ?_, ?_, ?_, ?_, trivial⟩ ?_
        · rw [if_neg (by decide)]
          intro a' w' K hext hsees hK
          have y2 : a'.tmps[2]? = some (.pointer (some ⟨wr.heap.size, 0, none⟩)) := (hsees.old (t := 2) (by kernel_rfl) (by kernel_rfl)).trans rfl
          have e2 := Dag.eval_of y2
          refine Dag.wpOp_lit rfl ?_
          have hb2 := ((BoxAt.new wr #[.int .i64 56, .int .i64 0, .int .i64 0] 42).ext ((Ext.refl _).drew.trans hext)).2
          go_simp
          exact hK _ _ rfl (Ext.refl _)
        · rw [if_neg (by decide)]
          intro a' w' K hext hsees hK
          refine Dag.wpOp_lit rfl ?_
          go_simp
          refine (limits_any _).mono ?_
          rintro e w_c ⟨rfl, hx_c⟩
          exact hK _ _ rfl hx_c
        · rw [if_neg (by decide)]
          intro a' w' K hext hsees hK
          obtain ⟨v33, y33, f33⟩ := hsees.new (t := 33) (j := 0) (by kernel_rfl) (by kernel_rfl)
          obtain rfl : v33 = (.agg #[.int .i64 56, .int .i64 0, .int .i64 0]) := f33
          have e33 := Dag.eval_of y33
          obtain ⟨v34, y34, f34⟩ := hsees.new (t := 34) (j := 1) (by kernel_rfl) (by kernel_rfl)
          obtain rfl : v34 = (.agg #[.int .i64 100, .int .i64 1000]) := f34
          have e34 := Dag.eval_of y34
          refine Dag.wpOp_lit rfl ?_
          go_simp
          refine (c_ki3 _).mono ?_
          rintro e w_c ⟨rfl, hx_c⟩
          exact hK _ _ rfl hx_c
        · rw [if_neg (by decide)]
          intro a' w' K hext hsees hK
          obtain ⟨v35, y35, f35⟩ := hsees.new (t := 35) (j := 2) (by kernel_rfl) (by kernel_rfl)
          obtain rfl : v35 = (.tuple #[.agg #[.int .i64 50, .int .i64 56, .int .i64 156, .int .i64 0], .int .i64 0]) := f35
          have e35 := Dag.eval_of y35
          refine Dag.wpOp_lit rfl ?_
          go_simp
          exact hK _ _ rfl (Ext.refl _)
        · rw [if_neg (by decide)]
          intro a' w' K hext hsees hK
          obtain ⟨v32, y32, f32⟩ := hsees.new (t := 32) (j := 3) (by kernel_rfl) (by kernel_rfl)
          obtain rfl : v32 = (.tuple #[.agg #[.int .i64 50, .int .i64 56, .int .i64 156, .int .i64 0], .int .i64 0]) := f32
          have e32 := Dag.eval_of y32
          refine Dag.wpOp_lit rfl ?_
          go_simp
          exact hK _ _ rfl (Ext.refl _)
        · rw [if_neg (by decide)]
          intro a' w' K hext hsees hK
          obtain ⟨v32, y32, f32⟩ := hsees.new (t := 32) (j := 3) (by kernel_rfl) (by kernel_rfl)
          obtain rfl : v32 = (.tuple #[.agg #[.int .i64 50, .int .i64 56, .int .i64 156, .int .i64 0], .int .i64 0]) := f32
          have e32 := Dag.eval_of y32
          refine Dag.wpOp_lit rfl ?_
          go_simp
          exact hK _ _ rfl (Ext.refl _)
        · rw [if_neg (by decide)]
          intro a' w' K hext hsees hK
          refine Dag.wpOp_lit rfl ?_
          go_simp
          exact hK _ _ ⟨_, rfl, heap_new _ _, hext.sz⟩ ((Ext.refl _).alloc _)
        · rw [if_pos rfl]
          intro a' w' K hext hsees hK
          obtain ⟨v3, y3, f3⟩ := hsees.new (t := 3) (j := 6) (by kernel_rfl) (by kernel_rfl)
          obtain ⟨b3, rfl, hb3, hB3⟩ := f3
          have hc3 := Dag.cell_of_heap hb3
          have hz3 := Dag.frozen_of_heap hb3
          have e3 := Dag.eval_of y3
          obtain ⟨v36, y36, f36⟩ := hsees.new (t := 36) (j := 4) (by kernel_rfl) (by kernel_rfl)
          obtain rfl : v36 = (.agg #[.int .i64 50, .int .i64 56, .int .i64 156, .int .i64 0]) := f36
          have e36 := Dag.eval_of y36
          refine Dag.wpOp_lit rfl ?_
          go_simp
          exact hK _ _ _ (Ext.setCell (Ext.setCell (Ext.setCell (Ext.setCell hext hB3 _) hB3 _) hB3 _) hB3 _) rfl y3 hB3 (Dag.heap_setCell (Dag.heap_setCell (Dag.heap_setCell (Dag.heap_setCell hb3 _) _) _) _)
        · rw [if_neg (by decide)]
          intro a' w' K hext hsees hK
          obtain ⟨v37, y37, f37⟩ := hsees.new (t := 37) (j := 5) (by kernel_rfl) (by kernel_rfl)
          obtain rfl : v37 = (.int .i64 0) := f37
          have e37 := Dag.eval_of y37
          refine Dag.wpOp_lit rfl ?_
          go_simp
          exact hK _ _ rfl (Ext.refl _)
        intro vs w' hw' hv hk
        obtain ⟨b, hb0, hb1, hb2⟩ := hk
        have h8 : vs 8 = (.int .i64 0) := hv 8 (by decide) (by decide) rfl
        simp only [Dag.putL, Act.put, List.setIfInBounds_toArray, List.set_cons_zero, List.set_cons_succ, hb0, h8]
        go_wp2_with fail
        go_meet
        exact ⟨b, rfl, rfl, BoxAt.of hb1, (by repeat (first | exact Ext.refl _ | assumption | refine Ext.drew ?_ | refine Ext.alloc ?_ _ | refine Ext.setCell ?_ (by first | exact Nat.le_refl _ | (simp; done) | (simp; omega)) _ | refine Ext.trans ?_ (by assumption)))⟩
      case rest =>
        obtain ⟨b, rfl, rfl, hB, hx4⟩ := hcut
        go_upto_region 5 with fail
        go_cut [49] (fun s49 wx => s49 = .bool false ∧ Ext wc wx)
        case first =>
          refine Dag.wp_region_facts [.val (.agg #[.int .i64 50, .int .i64 56, .int .i64 156, .int .i64 0]), .val (.int .i64 0), .box 5 #[.string ⟨#[53, 48, 32, 53, 48, 32, 49, 53, 48, 32, 48]⟩, .string ⟨#[53, 48, 32, 53, 48, 32, 49, 50, 48, 32, 53, 48, 48]⟩, .string ⟨#[53, 48, 32, 53, 48, 32, 49, 53, 48, 32, 48]⟩, .string ⟨#[53, 48, 32, 53, 54, 32, 49, 53, 54, 32, 48]⟩, .string ⟨#[]⟩] 9, .val (.int .i64 3), .into 3 #[.string ⟨#[53, 48, 32, 53, 48, 32, 49, 53, 48, 32, 48]⟩, .string ⟨#[53, 48, 32, 53, 48, 32, 49, 50, 48, 32, 53, 48, 48]⟩, .string ⟨#[53, 48, 32, 53, 48, 32, 49, 53, 48, 32, 48]⟩, .string ⟨#[53, 48, 32, 53, 54, 32, 49, 53, 54, 32, 48]⟩, .string ⟨#[]⟩] 9, .val (.string ⟨#[53, 48, 32, 53, 54, 32, 49, 53, 54, 32, 48]⟩), .box 5 #[.int .i64 0, .int .i64 0, .int .i64 0, .int .i64 0, .int .i64 143] 25, .val (.int .i64 3), .into 3 #[.int .i64 0, .int .i64 0, .int .i64 0, .int .i64 0, .int .i64 143] 25, .val (.int .i64 0), .val (.bool true), .val (.bool false)] [some 38, some 39, some 40, some 41, some 42, some 43, some 44, some 45, some 46, some 47, some 48, some 49] (by kernel_rfl) (by kernel_rfl) (by kernel_rfl) ⟨?_, ?_, ?_, ?_, ?_, ?_, ?_, ?_, ?_, ?_, ?_, ?_, trivial⟩ ?_
          · intro a' w' K hext hsees hK
            have y3 : a'.tmps[3]? = some (.pointer (some ⟨b, 0, none⟩)) := (hsees.old (t := 3) (by kernel_rfl) (by kernel_rfl)).trans rfl
            have e3 := Dag.eval_of y3
            refine Dag.wpOp_lit rfl ?_
            have hb' := hB.ext ((Ext.refl _).drew.trans hext)
            have hb2 := hb'.2
            go_simp
            exact hK _ _ rfl (Ext.refl _)
          · intro a' w' K hext hsees hK
            have y4 : a'.tmps[4]? = some (.int .i64 0) := (hsees.old (t := 4) (by kernel_rfl) (by kernel_rfl)).trans rfl
            have e4 := Dag.eval_of y4
            refine Dag.wpOp_lit rfl ?_
            go_simp
            exact hK _ _ rfl (Ext.refl _)
          · intro a' w' K hext hsees hK
            refine Dag.wpOp_lit rfl ?_
            go_simp
            exact hK _ _ ⟨_, rfl, heap_new _ _⟩ ((Ext.refl _).alloc _)
          · intro a' w' K hext hsees hK
            have y1 : a'.tmps[1]? = some (.int .i64 3) := (hsees.old (t := 1) (by kernel_rfl) (by kernel_rfl)).trans rfl
            have e1 := Dag.eval_of y1
            refine Dag.wpOp_lit rfl ?_
            go_simp
            exact hK _ _ rfl (Ext.refl _)
          · intro a' w' K hext hsees hK
            obtain ⟨v40, y40, f40⟩ := hsees.new (t := 40) (j := 2) (by kernel_rfl) (by kernel_rfl)
            obtain ⟨b40, rfl, hb40⟩ := f40
            have hc40 := Dag.cell_of_heap hb40
            have e40 := Dag.eval_of y40
            obtain ⟨v41, y41, f41⟩ := hsees.new (t := 41) (j := 3) (by kernel_rfl) (by kernel_rfl)
            obtain rfl : v41 = (.int .i64 3) := f41
            have e41 := Dag.eval_of y41
            refine Dag.wpOp_lit rfl ?_
            go_simp
            exact hK _ _ ⟨_, rfl, hb40⟩ (Ext.refl _)
          · intro a' w' K hext hsees hK
            obtain ⟨v42, y42, f42⟩ := hsees.new (t := 42) (j := 4) (by kernel_rfl) (by kernel_rfl)
            obtain ⟨b42, rfl, hb42⟩ := f42
            have hc42 := Dag.cell_of_heap hb42
            have e42 := Dag.eval_of y42
            refine Dag.wpOp_lit rfl ?_
            go_simp
            exact hK _ _ rfl (Ext.refl _)
          · intro a' w' K hext hsees hK
            refine Dag.wpOp_lit rfl ?_
            go_simp
            exact hK _ _ ⟨_, rfl, heap_new _ _⟩ ((Ext.refl _).alloc _)
          · intro a' w' K hext hsees hK
            have y1 : a'.tmps[1]? = some (.int .i64 3) := (hsees.old (t := 1) (by kernel_rfl) (by kernel_rfl)).trans rfl
            have e1 := Dag.eval_of y1
            refine Dag.wpOp_lit rfl ?_
            go_simp
            exact hK _ _ rfl (Ext.refl _)
          · intro a' w' K hext hsees hK
            obtain ⟨v44, y44, f44⟩ := hsees.new (t := 44) (j := 6) (by kernel_rfl) (by kernel_rfl)
            obtain ⟨b44, rfl, hb44⟩ := f44
            have hc44 := Dag.cell_of_heap hb44
            have e44 := Dag.eval_of y44
            obtain ⟨v45, y45, f45⟩ := hsees.new (t := 45) (j := 7) (by kernel_rfl) (by kernel_rfl)
            obtain rfl : v45 = (.int .i64 3) := f45
            have e45 := Dag.eval_of y45
            refine Dag.wpOp_lit rfl ?_
            go_simp
            exact hK _ _ ⟨_, rfl, hb44⟩ (Ext.refl _)
          · intro a' w' K hext hsees hK
            obtain ⟨v46, y46, f46⟩ := hsees.new (t := 46) (j := 8) (by kernel_rfl) (by kernel_rfl)
            obtain ⟨b46, rfl, hb46⟩ := f46
            have hc46 := Dag.cell_of_heap hb46
            have e46 := Dag.eval_of y46
            refine Dag.wpOp_lit rfl ?_
            go_simp
            exact hK _ _ rfl (Ext.refl _)
          · intro a' w' K hext hsees hK
            obtain ⟨v38, y38, f38⟩ := hsees.new (t := 38) (j := 0) (by kernel_rfl) (by kernel_rfl)
            obtain rfl : v38 = (.agg #[.int .i64 50, .int .i64 56, .int .i64 156, .int .i64 0]) := f38
            have e38 := Dag.eval_of y38
            obtain ⟨v39, y39, f39⟩ := hsees.new (t := 39) (j := 1) (by kernel_rfl) (by kernel_rfl)
            obtain rfl : v39 = (.int .i64 0) := f39
            have e39 := Dag.eval_of y39
            obtain ⟨v43, y43, f43⟩ := hsees.new (t := 43) (j := 5) (by kernel_rfl) (by kernel_rfl)
            obtain rfl : v43 = (.string ⟨#[53, 48, 32, 53, 54, 32, 49, 53, 54, 32, 48]⟩) := f43
            have e43 := Dag.eval_of y43
            obtain ⟨v47, y47, f47⟩ := hsees.new (t := 47) (j := 9) (by kernel_rfl) (by kernel_rfl)
            obtain rfl : v47 = (.int .i64 0) := f47
            have e47 := Dag.eval_of y47
            refine Dag.wpOp_lit rfl ?_
            go_simp
            refine (result_T _ _ _ _ _ _ kt2 (Ext.tab ((by repeat (first | exact Ext.refl _ | assumption | refine Ext.drew ?_ | refine Ext.alloc ?_ _ | refine Ext.setCell ?_ (by first | exact Nat.le_refl _ | (simp; done) | (simp; omega)) _ | refine Ext.trans ?_ (by assumption)))) pow10_g Htab.out)).mono ?_
            rintro e w_r ⟨rfl, hx_r⟩
            exact hK _ _ rfl hx_r
          · intro a' w' K hext hsees hK
            obtain ⟨v48, y48, f48⟩ := hsees.new (t := 48) (j := 10) (by kernel_rfl) (by kernel_rfl)
            obtain rfl : v48 = (.bool true) := f48
            have e48 := Dag.eval_of y48
            refine Dag.wpOp_lit rfl ?_
            go_simp
            exact hK _ _ rfl (Ext.refl _)
          intro vs w' hw' hv
          have h11 : vs 11 = (.bool false) := hv 11 (by decide)
          simp only [Dag.putL, Act.put, List.setIfInBounds_toArray, List.set_cons_zero, List.set_cons_succ, h11]
          go_wp2_with fail
          go_meet
          exact ⟨rfl, (by repeat (first | exact Ext.refl _ | assumption | refine Ext.drew ?_ | refine Ext.alloc ?_ _ | refine Ext.setCell ?_ (by first | exact Nat.le_refl _ | (simp; done) | (simp; omega)) _ | refine Ext.trans ?_ (by assumption)))⟩
        case rest =>
          obtain ⟨rfl, hx5⟩ := hcut
          go_wp2
          go_roundw
          case rel => exact ⟨4, by simp, by simp, hx.trans (hx4.trans hx5)⟩
          case measure => simp [intOf]
    · go_upto_region 4 with fail
      go_cut [3, 4] (fun s3 s4 wx => ∃ b, s3 = .pointer (some ⟨b, 0, none⟩) ∧ s4 = .int .i64 143 ∧ BoxAt wx b #[.int .i64 0, .int .i64 0, .int .i64 0, .int .i64 0] ∧ Ext wr wx)
      case first =>
        refine Dag.wp_region_store [.val (.agg #[.int .i64 0, .int .i64 50, .int .i64 0]), .val (.agg #[.int .i64 100, .int .i64 1000]), .val (.tuple #[.agg #[.int .i64 0, .int .i64 0, .int .i64 0, .int .i64 0], .int .i64 143]), .val (.tuple #[.agg #[.int .i64 0, .int .i64 0, .int .i64 0, .int .i64 0], .int .i64 143]), .val (.agg #[.int .i64 0, .int .i64 0, .int .i64 0, .int .i64 0]), .val (.int .i64 143), .var #[.int .i64 0, .int .i64 0, .int .i64 0, .int .i64 0] 23, .val undef, .val (.int .i64 143)] #[.int .i64 0, .int .i64 0, .int .i64 0, .int .i64 0] 23 7 6 [some 33, some 34, some 35, some 32, some 36, some 37, some 3, none, some 4] (by kernel_rfl) (by kernel_rfl) (by kernel_rfl) ⟨?_, ?_, ?_, ?_, ?_, ?_, ?_, ?_, ?_, trivial⟩ ?_
        · rw [if_neg (by decide)]
          intro a' w' K hext hsees hK
          have y2 : a'.tmps[2]? = some (.pointer (some ⟨wr.heap.size, 0, none⟩)) := (hsees.old (t := 2) (by kernel_rfl) (by kernel_rfl)).trans rfl
          have e2 := Dag.eval_of y2
          refine Dag.wpOp_lit rfl ?_
          have hb2 := ((BoxAt.new wr #[.int .i64 0, .int .i64 50, .int .i64 0] 42).ext ((Ext.refl _).drew.trans hext)).2
          go_simp
          exact hK _ _ rfl (Ext.refl _)
        · rw [if_neg (by decide)]
          intro a' w' K hext hsees hK
          refine Dag.wpOp_lit rfl ?_
          go_simp
          refine (limits_any _).mono ?_
          rintro e w_c ⟨rfl, hx_c⟩
          exact hK _ _ rfl hx_c
        · rw [if_neg (by decide)]
          intro a' w' K hext hsees hK
          obtain ⟨v33, y33, f33⟩ := hsees.new (t := 33) (j := 0) (by kernel_rfl) (by kernel_rfl)
          obtain rfl : v33 = (.agg #[.int .i64 0, .int .i64 50, .int .i64 0]) := f33
          have e33 := Dag.eval_of y33
          obtain ⟨v34, y34, f34⟩ := hsees.new (t := 34) (j := 1) (by kernel_rfl) (by kernel_rfl)
          obtain rfl : v34 = (.agg #[.int .i64 100, .int .i64 1000]) := f34
          have e34 := Dag.eval_of y34
          refine Dag.wpOp_lit rfl ?_
          go_simp
          refine (c_ki4 _).mono ?_
          rintro e w_c ⟨rfl, hx_c⟩
          exact hK _ _ rfl hx_c
        · rw [if_neg (by decide)]
          intro a' w' K hext hsees hK
          obtain ⟨v35, y35, f35⟩ := hsees.new (t := 35) (j := 2) (by kernel_rfl) (by kernel_rfl)
          obtain rfl : v35 = (.tuple #[.agg #[.int .i64 0, .int .i64 0, .int .i64 0, .int .i64 0], .int .i64 143]) := f35
          have e35 := Dag.eval_of y35
          refine Dag.wpOp_lit rfl ?_
          go_simp
          exact hK _ _ rfl (Ext.refl _)
        · rw [if_neg (by decide)]
          intro a' w' K hext hsees hK
          obtain ⟨v32, y32, f32⟩ := hsees.new (t := 32) (j := 3) (by kernel_rfl) (by kernel_rfl)
          obtain rfl : v32 = (.tuple #[.agg #[.int .i64 0, .int .i64 0, .int .i64 0, .int .i64 0], .int .i64 143]) := f32
          have e32 := Dag.eval_of y32
          refine Dag.wpOp_lit rfl ?_
          go_simp
          exact hK _ _ rfl (Ext.refl _)
        · rw [if_neg (by decide)]
          intro a' w' K hext hsees hK
          obtain ⟨v32, y32, f32⟩ := hsees.new (t := 32) (j := 3) (by kernel_rfl) (by kernel_rfl)
          obtain rfl : v32 = (.tuple #[.agg #[.int .i64 0, .int .i64 0, .int .i64 0, .int .i64 0], .int .i64 143]) := f32
          have e32 := Dag.eval_of y32
          refine Dag.wpOp_lit rfl ?_
          go_simp
          exact hK _ _ rfl (Ext.refl _)
        · rw [if_neg (by decide)]
          intro a' w' K hext hsees hK
          refine Dag.wpOp_lit rfl ?_
          go_simp
          exact hK _ _ ⟨_, rfl, heap_new _ _, hext.sz⟩ ((Ext.refl _).alloc _)
        · rw [if_pos rfl]
          intro a' w' K hext hsees hK
          obtain ⟨v3, y3, f3⟩ := hsees.new (t := 3) (j := 6) (by kernel_rfl) (by kernel_rfl)
          obtain ⟨b3, rfl, hb3, hB3⟩ := f3
          have hc3 := Dag.cell_of_heap hb3
          have hz3 := Dag.frozen_of_heap hb3
          have e3 := Dag.eval_of y3
          obtain ⟨v36, y36, f36⟩ := hsees.new (t := 36) (j := 4) (by kernel_rfl) (by kernel_rfl)
          obtain rfl : v36 = (.agg #[.int .i64 0, .int .i64 0, .int .i64 0, .int .i64 0]) := f36
          have e36 := Dag.eval_of y36
          refine Dag.wpOp_lit rfl ?_
          go_simp
          exact hK _ _ _ (Ext.setCell (Ext.setCell (Ext.setCell (Ext.setCell hext hB3 _) hB3 _) hB3 _) hB3 _) rfl y3 hB3 (Dag.heap_setCell (Dag.heap_setCell (Dag.heap_setCell (Dag.heap_setCell hb3 _) _) _) _)
        · rw [if_neg (by decide)]
          intro a' w' K hext hsees hK
          obtain ⟨v37, y37, f37⟩ := hsees.new (t := 37) (j := 5) (by kernel_rfl) (by kernel_rfl)
          obtain rfl : v37 = (.int .i64 143) := f37
          have e37 := Dag.eval_of y37
          refine Dag.wpOp_lit rfl ?_
          go_simp
          exact hK _ _ rfl (Ext.refl _)
        intro vs w' hw' hv hk
        obtain ⟨b, hb0, hb1, hb2⟩ := hk
        have h8 : vs 8 = (.int .i64 143) := hv 8 (by decide) (by decide) rfl
        simp only [Dag.putL, Act.put, List.setIfInBounds_toArray, List.set_cons_zero, List.set_cons_succ, hb0, h8]
        go_wp2_with fail
        go_meet
        exact ⟨b, rfl, rfl, BoxAt.of hb1, (by repeat (first | exact Ext.refl _ | assumption | refine Ext.drew ?_ | refine Ext.alloc ?_ _ | refine Ext.setCell ?_ (by first | exact Nat.le_refl _ | (simp; done) | (simp; omega)) _ | refine Ext.trans ?_ (by assumption)))⟩
      case rest =>
        obtain ⟨b, rfl, rfl, hB, hx4⟩ := hcut
        go_upto_region 5 with fail
        go_cut [49] (fun s49 wx => s49 = .bool false ∧ Ext wc wx)
        case first =>
          refine Dag.wp_region_facts [.val (.agg #[.int .i64 0, .int .i64 0, .int .i64 0, .int .i64 0]), .val (.int .i64 143), .box 5 #[.string ⟨#[53, 48, 32, 53, 48, 32, 49, 53, 48, 32, 48]⟩, .string ⟨#[53, 48, 32, 53, 48, 32, 49, 50, 48, 32, 53, 48, 48]⟩, .string ⟨#[53, 48, 32, 53, 48, 32, 49, 53, 48, 32, 48]⟩, .string ⟨#[53, 48, 32, 53, 54, 32, 49, 53, 54, 32, 48]⟩, .string ⟨#[]⟩] 9, .val (.int .i64 4), .into 4 #[.string ⟨#[53, 48, 32, 53, 48, 32, 49, 53, 48, 32, 48]⟩, .string ⟨#[53, 48, 32, 53, 48, 32, 49, 50, 48, 32, 53, 48, 48]⟩, .string ⟨#[53, 48, 32, 53, 48, 32, 49, 53, 48, 32, 48]⟩, .string ⟨#[53, 48, 32, 53, 54, 32, 49, 53, 54, 32, 48]⟩, .string ⟨#[]⟩] 9, .val (.string ⟨#[]⟩), .box 5 #[.int .i64 0, .int .i64 0, .int .i64 0, .int .i64 0, .int .i64 143] 25, .val (.int .i64 4), .into 4 #[.int .i64 0, .int .i64 0, .int .i64 0, .int .i64 0, .int .i64 143] 25, .val (.int .i64 143), .val (.bool true), .val (.bool false)] [some 38, some 39, some 40, some 41, some 42, some 43, some 44, some 45, some 46, some 47, some 48, some 49] (by kernel_rfl) (by kernel_rfl) (by kernel_rfl) ⟨?_, ?_, ?_, ?_, ?_, ?_, ?_, ?_, ?_, ?_, ?_, ?_, trivial⟩ ?_
          · intro a' w' K hext hsees hK
            have y3 : a'.tmps[3]? = some (.pointer (some ⟨b, 0, none⟩)) := (hsees.old (t := 3) (by kernel_rfl) (by kernel_rfl)).trans rfl
            have e3 := Dag.eval_of y3
            refine Dag.wpOp_lit rfl ?_
            have hb' := hB.ext ((Ext.refl _).drew.trans hext)
            have hb2 := hb'.2
            go_simp
            exact hK _ _ rfl (Ext.refl _)
          · intro a' w' K hext hsees hK
            have y4 : a'.tmps[4]? = some (.int .i64 143) := (hsees.old (t := 4) (by kernel_rfl) (by kernel_rfl)).trans rfl
            have e4 := Dag.eval_of y4
            refine Dag.wpOp_lit rfl ?_
            go_simp
            exact hK _ _ rfl (Ext.refl _)
          · intro a' w' K hext hsees hK
            refine Dag.wpOp_lit rfl ?_
            go_simp
            exact hK _ _ ⟨_, rfl, heap_new _ _⟩ ((Ext.refl _).alloc _)
          · intro a' w' K hext hsees hK
            have y1 : a'.tmps[1]? = some (.int .i64 4) := (hsees.old (t := 1) (by kernel_rfl) (by kernel_rfl)).trans rfl
            have e1 := Dag.eval_of y1
            refine Dag.wpOp_lit rfl ?_
            go_simp
            exact hK _ _ rfl (Ext.refl _)
          · intro a' w' K hext hsees hK
            obtain ⟨v40, y40, f40⟩ := hsees.new (t := 40) (j := 2) (by kernel_rfl) (by kernel_rfl)
            obtain ⟨b40, rfl, hb40⟩ := f40
            have hc40 := Dag.cell_of_heap hb40
            have e40 := Dag.eval_of y40
            obtain ⟨v41, y41, f41⟩ := hsees.new (t := 41) (j := 3) (by kernel_rfl) (by kernel_rfl)
            obtain rfl : v41 = (.int .i64 4) := f41
            have e41 := Dag.eval_of y41
            refine Dag.wpOp_lit rfl ?_
            go_simp
            exact hK _ _ ⟨_, rfl, hb40⟩ (Ext.refl _)
          · intro a' w' K hext hsees hK
            obtain ⟨v42, y42, f42⟩ := hsees.new (t := 42) (j := 4) (by kernel_rfl) (by kernel_rfl)
            obtain ⟨b42, rfl, hb42⟩ := f42
            have hc42 := Dag.cell_of_heap hb42
            have e42 := Dag.eval_of y42
            refine Dag.wpOp_lit rfl ?_
            go_simp
            exact hK _ _ rfl (Ext.refl _)
          · intro a' w' K hext hsees hK
            refine Dag.wpOp_lit rfl ?_
            go_simp
            exact hK _ _ ⟨_, rfl, heap_new _ _⟩ ((Ext.refl _).alloc _)
          · intro a' w' K hext hsees hK
            have y1 : a'.tmps[1]? = some (.int .i64 4) := (hsees.old (t := 1) (by kernel_rfl) (by kernel_rfl)).trans rfl
            have e1 := Dag.eval_of y1
            refine Dag.wpOp_lit rfl ?_
            go_simp
            exact hK _ _ rfl (Ext.refl _)
          · intro a' w' K hext hsees hK
            obtain ⟨v44, y44, f44⟩ := hsees.new (t := 44) (j := 6) (by kernel_rfl) (by kernel_rfl)
            obtain ⟨b44, rfl, hb44⟩ := f44
            have hc44 := Dag.cell_of_heap hb44
            have e44 := Dag.eval_of y44
            obtain ⟨v45, y45, f45⟩ := hsees.new (t := 45) (j := 7) (by kernel_rfl) (by kernel_rfl)
            obtain rfl : v45 = (.int .i64 4) := f45
            have e45 := Dag.eval_of y45
            refine Dag.wpOp_lit rfl ?_
            go_simp
            exact hK _ _ ⟨_, rfl, hb44⟩ (Ext.refl _)
          · intro a' w' K hext hsees hK
            obtain ⟨v46, y46, f46⟩ := hsees.new (t := 46) (j := 8) (by kernel_rfl) (by kernel_rfl)
            obtain ⟨b46, rfl, hb46⟩ := f46
            have hc46 := Dag.cell_of_heap hb46
            have e46 := Dag.eval_of y46
            refine Dag.wpOp_lit rfl ?_
            go_simp
            exact hK _ _ rfl (Ext.refl _)
          · intro a' w' K hext hsees hK
            obtain ⟨v38, y38, f38⟩ := hsees.new (t := 38) (j := 0) (by kernel_rfl) (by kernel_rfl)
            obtain rfl : v38 = (.agg #[.int .i64 0, .int .i64 0, .int .i64 0, .int .i64 0]) := f38
            have e38 := Dag.eval_of y38
            obtain ⟨v39, y39, f39⟩ := hsees.new (t := 39) (j := 1) (by kernel_rfl) (by kernel_rfl)
            obtain rfl : v39 = (.int .i64 143) := f39
            have e39 := Dag.eval_of y39
            obtain ⟨v43, y43, f43⟩ := hsees.new (t := 43) (j := 5) (by kernel_rfl) (by kernel_rfl)
            obtain rfl : v43 = (.string ⟨#[]⟩) := f43
            have e43 := Dag.eval_of y43
            obtain ⟨v47, y47, f47⟩ := hsees.new (t := 47) (j := 9) (by kernel_rfl) (by kernel_rfl)
            obtain rfl : v47 = (.int .i64 143) := f47
            have e47 := Dag.eval_of y47
            refine Dag.wpOp_lit rfl ?_
            go_simp
            refine (result_E _ _ _ (by decide)).mono ?_
            rintro e w_r ⟨rfl, hx_r⟩
            exact hK _ _ rfl hx_r
          · intro a' w' K hext hsees hK
            obtain ⟨v48, y48, f48⟩ := hsees.new (t := 48) (j := 10) (by kernel_rfl) (by kernel_rfl)
            obtain rfl : v48 = (.bool true) := f48
            have e48 := Dag.eval_of y48
            refine Dag.wpOp_lit rfl ?_
            go_simp
            exact hK _ _ rfl (Ext.refl _)
          intro vs w' hw' hv
          have h11 : vs 11 = (.bool false) := hv 11 (by decide)
          simp only [Dag.putL, Act.put, List.setIfInBounds_toArray, List.set_cons_zero, List.set_cons_succ, h11]
          go_wp2_with fail
          go_meet
          exact ⟨rfl, (by repeat (first | exact Ext.refl _ | assumption | refine Ext.drew ?_ | refine Ext.alloc ?_ _ | refine Ext.setCell ?_ (by first | exact Nat.le_refl _ | (simp; done) | (simp; omega)) _ | refine Ext.trans ?_ (by assumption)))⟩
        case rest =>
          obtain ⟨rfl, hx5⟩ := hcut
          go_wp2
          go_roundw
          case rel => exact ⟨5, by simp, by simp, hx.trans (hx4.trans hx5)⟩
          case measure => simp [intOf]
    · go_upto_region 9 with fail
      have hB5 := BoxAt.new wr #[.int .i64 10, .int .i64 40, .int .i64 90, .int .i64 300] 23
      go_upto_region 9 with fail
      go_cut [6, 7] (fun s6 s7 wx => ∃ b, s6 = .pointer (some ⟨b, 0, none⟩) ∧ s7 = .int .i64 0 ∧ BoxAt wx b #[.int .i64 10, .int .i64 50, .int .i64 90, .int .i64 300] ∧ BoxAt wx wr.heap.size #[.int .i64 10, .int .i64 40, .int .i64 90, .int .i64 300] ∧ Ext wr wx)
      case first =>
          refine Dag.wp_region_store [.val (.agg #[.int .i64 10, .int .i64 40, .int .i64 90, .int .i64 300]), .val (.agg #[.int .i64 0, .int .i64 0, .int .i64 400]), .val (.agg #[.int .i64 100, .int .i64 1000]), .val (.tuple #[.agg #[.int .i64 10, .int .i64 50, .int .i64 90, .int .i64 300], .int .i64 0]), .val (.tuple #[.agg #[.int .i64 10, .int .i64 50, .int .i64 90, .int .i64 300], .int .i64 0]), .val (.agg #[.int .i64 10, .int .i64 50, .int .i64 90, .int .i64 300]), .val (.int .i64 0), .var #[.int .i64 0, .int .i64 0, .int .i64 0, .int .i64 0] 23, .val undef, .val (.int .i64 0)] #[.int .i64 10, .int .i64 50, .int .i64 90, .int .i64 300] 23 8 7 [some 53, some 54, some 55, some 56, some 52, some 57, some 58, some 6, none, some 7] (by kernel_rfl) (by kernel_rfl) (by kernel_rfl) ⟨?_, ?_, ?_, ?_, ?_, ?_, ?_, ?_, ?_, ?_, trivial⟩ ?_
          · rw [if_neg (by decide)]
            intro a' w' K hext hsees hK
            have y5 : a'.tmps[5]? = some (.pointer (some ⟨wr.heap.size, 0, none⟩)) := (hsees.old (t := 5) (by kernel_rfl) (by kernel_rfl)).trans rfl
            have e5 := Dag.eval_of y5
            refine Dag.wpOp_lit rfl ?_
            have hb2 := (hB5.ext ((Ext.refl _).drew.trans hext)).2
            go_simp
            exact hK _ _ rfl (Ext.refl _)
          · rw [if_neg (by decide)]
            intro a' w' K hext hsees hK
            refine Dag.wpOp_lit rfl ?_
            go_simp
            exact hK _ _ rfl (Ext.refl _)
          · rw [if_neg (by decide)]
            intro a' w' K hext hsees hK
            refine Dag.wpOp_lit rfl ?_
            go_simp
            refine (limits_any _).mono ?_
            rintro e w_c ⟨rfl, hx_c⟩
            exact hK _ _ rfl hx_c
          · rw [if_neg (by decide)]
            intro a' w' K hext hsees hK
            obtain ⟨v53, y53, f53⟩ := hsees.new (t := 53) (j := 0) (by kernel_rfl) (by kernel_rfl)
            obtain rfl : v53 = (.agg #[.int .i64 10, .int .i64 40, .int .i64 90, .int .i64 300]) := f53
            have e53 := Dag.eval_of y53
            obtain ⟨v54, y54, f54⟩ := hsees.new (t := 54) (j := 1) (by kernel_rfl) (by kernel_rfl)
            obtain rfl : v54 = (.agg #[.int .i64 0, .int .i64 0, .int .i64 400]) := f54
            have e54 := Dag.eval_of y54
            obtain ⟨v55, y55, f55⟩ := hsees.new (t := 55) (j := 2) (by kernel_rfl) (by kernel_rfl)
            obtain rfl : v55 = (.agg #[.int .i64 100, .int .i64 1000]) := f55
            have e55 := Dag.eval_of y55
            refine Dag.wpOp_lit rfl ?_
            go_simp
            refine (c_kd0 _).mono ?_
            rintro e w_c ⟨rfl, hx_c⟩
            exact hK _ _ rfl hx_c
          · rw [if_neg (by decide)]
            intro a' w' K hext hsees hK
            obtain ⟨v56, y56, f56⟩ := hsees.new (t := 56) (j := 3) (by kernel_rfl) (by kernel_rfl)
            obtain rfl : v56 = (.tuple #[.agg #[.int .i64 10, .int .i64 50, .int .i64 90, .int .i64 300], .int .i64 0]) := f56
            have e56 := Dag.eval_of y56
            refine Dag.wpOp_lit rfl ?_
            go_simp
            exact hK _ _ rfl (Ext.refl _)
          · rw [if_neg (by decide)]
            intro a' w' K hext hsees hK
            obtain ⟨v52, y52, f52⟩ := hsees.new (t := 52) (j := 4) (by kernel_rfl) (by kernel_rfl)
            obtain rfl : v52 = (.tuple #[.agg #[.int .i64 10, .int .i64 50, .int .i64 90, .int .i64 300], .int .i64 0]) := f52
            have e52 := Dag.eval_of y52
            refine Dag.wpOp_lit rfl ?_
            go_simp
            exact hK _ _ rfl (Ext.refl _)
          · rw [if_neg (by decide)]
            intro a' w' K hext hsees hK
            obtain ⟨v52, y52, f52⟩ := hsees.new (t := 52) (j := 4) (by kernel_rfl) (by kernel_rfl)
            obtain rfl : v52 = (.tuple #[.agg #[.int .i64 10, .int .i64 50, .int .i64 90, .int .i64 300], .int .i64 0]) := f52
            have e52 := Dag.eval_of y52
            refine Dag.wpOp_lit rfl ?_
            go_simp
            exact hK _ _ rfl (Ext.refl _)
          · rw [if_neg (by decide)]
            intro a' w' K hext hsees hK
            refine Dag.wpOp_lit rfl ?_
            go_simp
            exact hK _ _ ⟨_, rfl, heap_new _ _, hext.sz⟩ ((Ext.refl _).alloc _)
          · rw [if_pos rfl]
            intro a' w' K hext hsees hK
            obtain ⟨v6, y6, f6⟩ := hsees.new (t := 6) (j := 7) (by kernel_rfl) (by kernel_rfl)
            obtain ⟨b6, rfl, hb6, hB6⟩ := f6
            have hc6 := Dag.cell_of_heap hb6
            have hz6 := Dag.frozen_of_heap hb6
            have e6 := Dag.eval_of y6
            obtain ⟨v57, y57, f57⟩ := hsees.new (t := 57) (j := 5) (by kernel_rfl) (by kernel_rfl)
            obtain rfl : v57 = (.agg #[.int .i64 10, .int .i64 50, .int .i64 90, .int .i64 300]) := f57
            have e57 := Dag.eval_of y57
            refine Dag.wpOp_lit rfl ?_
            go_simp
            exact hK _ _ _ (Ext.setCell (Ext.setCell (Ext.setCell (Ext.setCell hext hB6 _) hB6 _) hB6 _) hB6 _) rfl y6 hB6 (Dag.heap_setCell (Dag.heap_setCell (Dag.heap_setCell (Dag.heap_setCell hb6 _) _) _) _)
          · rw [if_neg (by decide)]
            intro a' w' K hext hsees hK
            obtain ⟨v58, y58, f58⟩ := hsees.new (t := 58) (j := 6) (by kernel_rfl) (by kernel_rfl)
            obtain rfl : v58 = (.int .i64 0) := f58
            have e58 := Dag.eval_of y58
            refine Dag.wpOp_lit rfl ?_
            go_simp
            exact hK _ _ rfl (Ext.refl _)
          intro vs w' hw' hv hk
          obtain ⟨b, hb0, hb1, hb2⟩ := hk
          have h9 : vs 9 = (.int .i64 0) := hv 9 (by decide) (by decide) rfl
          simp only [Dag.putL, Act.put, List.setIfInBounds_toArray, List.set_cons_zero, List.set_cons_succ, hb0, h9]
          go_wp2_with fail
          go_meet
          exact ⟨b, rfl, rfl, BoxAt.of hb1, hB5.ext (by repeat (first | exact Ext.refl _ | assumption | refine Ext.drew ?_ | refine Ext.alloc ?_ _ | refine Ext.setCell ?_ (by first | exact Nat.le_refl _ | (simp; done) | (simp; omega)) _ | refine Ext.trans ?_ (by assumption))), (by repeat (first | exact Ext.refl _ | assumption | refine Ext.drew ?_ | refine Ext.alloc ?_ _ | refine Ext.setCell ?_ (by first | exact Nat.le_refl _ | (simp; done) | (simp; omega)) _ | refine Ext.trans ?_ (by assumption)))⟩
      case rest =>
        clear hB5
        obtain ⟨b6, rfl, rfl, hB6, hB5, hx9⟩ := hcut
        go_upto_region 10 with fail
        go_cut [8, 9] (fun s8 s9 wx => ∃ b, s8 = .pointer (some ⟨b, 0, none⟩) ∧ s9 = .int .i64 0 ∧ BoxAt wx b #[.int .i64 10, .int .i64 50, .int .i64 80, .int .i64 0] ∧ BoxAt wx b6 #[.int .i64 10, .int .i64 50, .int .i64 90, .int .i64 300] ∧ Ext wr wx)
        case first =>
            refine Dag.wp_region_store [.val (.agg #[.int .i64 10, .int .i64 40, .int .i64 90, .int .i64 300]), .val (.agg #[.int .i64 0, .int .i64 80, .int .i64 60]), .val (.agg #[.int .i64 100, .int .i64 1000]), .val (.tuple #[.agg #[.int .i64 10, .int .i64 50, .int .i64 80, .int .i64 0], .int .i64 0]), .val (.tuple #[.agg #[.int .i64 10, .int .i64 50, .int .i64 80, .int .i64 0], .int .i64 0]), .val (.agg #[.int .i64 10, .int .i64 50, .int .i64 80, .int .i64 0]), .val (.int .i64 0), .var #[.int .i64 0, .int .i64 0, .int .i64 0, .int .i64 0] 23, .val undef, .val (.int .i64 0)] #[.int .i64 10, .int .i64 50, .int .i64 80, .int .i64 0] 23 8 7 [some 60, some 61, some 62, some 63, some 59, some 64, some 65, some 8, none, some 9] (by kernel_rfl) (by kernel_rfl) (by kernel_rfl) ⟨?_, ?_, ?_, ?_, ?_, ?_, ?_, ?_, ?_, ?_, trivial⟩ ?_
            · rw [if_neg (by decide)]
              intro a' w' K hext hsees hK
              have y5 : a'.tmps[5]? = some (.pointer (some ⟨wr.heap.size, 0, none⟩)) := (hsees.old (t := 5) (by kernel_rfl) (by kernel_rfl)).trans rfl
              have e5 := Dag.eval_of y5
              refine Dag.wpOp_lit rfl ?_
              have hb2 := (hB5.ext ((Ext.refl _).drew.trans hext)).2
              go_simp
              exact hK _ _ rfl (Ext.refl _)
            · rw [if_neg (by decide)]
              intro a' w' K hext hsees hK
              refine Dag.wpOp_lit rfl ?_
              go_simp
              exact hK _ _ rfl (Ext.refl _)
            · rw [if_neg (by decide)]
              intro a' w' K hext hsees hK
              refine Dag.wpOp_lit rfl ?_
              go_simp
              refine (limits_any _).mono ?_
              rintro e w_c ⟨rfl, hx_c⟩
              exact hK _ _ rfl hx_c
            · rw [if_neg (by decide)]
              intro a' w' K hext hsees hK
              obtain ⟨v60, y60, f60⟩ := hsees.new (t := 60) (j := 0) (by kernel_rfl) (by kernel_rfl)
              obtain rfl : v60 = (.agg #[.int .i64 10, .int .i64 40, .int .i64 90, .int .i64 300]) := f60
              have e60 := Dag.eval_of y60
              obtain ⟨v61, y61, f61⟩ := hsees.new (t := 61) (j := 1) (by kernel_rfl) (by kernel_rfl)
              obtain rfl : v61 = (.agg #[.int .i64 0, .int .i64 80, .int .i64 60]) := f61
              have e61 := Dag.eval_of y61
              obtain ⟨v62, y62, f62⟩ := hsees.new (t := 62) (j := 2) (by kernel_rfl) (by kernel_rfl)
              obtain rfl : v62 = (.agg #[.int .i64 100, .int .i64 1000]) := f62
              have e62 := Dag.eval_of y62
              refine Dag.wpOp_lit rfl ?_
              go_simp
              refine (c_kd1 _).mono ?_
              rintro e w_c ⟨rfl, hx_c⟩
              exact hK _ _ rfl hx_c
            · rw [if_neg (by decide)]
              intro a' w' K hext hsees hK
              obtain ⟨v63, y63, f63⟩ := hsees.new (t := 63) (j := 3) (by kernel_rfl) (by kernel_rfl)
              obtain rfl : v63 = (.tuple #[.agg #[.int .i64 10, .int .i64 50, .int .i64 80, .int .i64 0], .int .i64 0]) := f63
              have e63 := Dag.eval_of y63
              refine Dag.wpOp_lit rfl ?_
              go_simp
              exact hK _ _ rfl (Ext.refl _)
            · rw [if_neg (by decide)]
              intro a' w' K hext hsees hK
              obtain ⟨v59, y59, f59⟩ := hsees.new (t := 59) (j := 4) (by kernel_rfl) (by kernel_rfl)
              obtain rfl : v59 = (.tuple #[.agg #[.int .i64 10, .int .i64 50, .int .i64 80, .int .i64 0], .int .i64 0]) := f59
              have e59 := Dag.eval_of y59
              refine Dag.wpOp_lit rfl ?_
              go_simp
              exact hK _ _ rfl (Ext.refl _)
            · rw [if_neg (by decide)]
              intro a' w' K hext hsees hK
              obtain ⟨v59, y59, f59⟩ := hsees.new (t := 59) (j := 4) (by kernel_rfl) (by kernel_rfl)
              obtain rfl : v59 = (.tuple #[.agg #[.int .i64 10, .int .i64 50, .int .i64 80, .int .i64 0], .int .i64 0]) := f59
              have e59 := Dag.eval_of y59
              refine Dag.wpOp_lit rfl ?_
              go_simp
              exact hK _ _ rfl (Ext.refl _)
            · rw [if_neg (by decide)]
              intro a' w' K hext hsees hK
              refine Dag.wpOp_lit rfl ?_
              go_simp
              exact hK _ _ ⟨_, rfl, heap_new _ _, hext.sz⟩ ((Ext.refl _).alloc _)
            · rw [if_pos rfl]
              intro a' w' K hext hsees hK
              obtain ⟨v8, y8, f8⟩ := hsees.new (t := 8) (j := 7) (by kernel_rfl) (by kernel_rfl)
              obtain ⟨b8, rfl, hb8, hB8⟩ := f8
              have hc8 := Dag.cell_of_heap hb8
              have hz8 := Dag.frozen_of_heap hb8
              have e8 := Dag.eval_of y8
              obtain ⟨v64, y64, f64⟩ := hsees.new (t := 64) (j := 5) (by kernel_rfl) (by kernel_rfl)
              obtain rfl : v64 = (.agg #[.int .i64 10, .int .i64 50, .int .i64 80, .int .i64 0]) := f64
              have e64 := Dag.eval_of y64
              refine Dag.wpOp_lit rfl ?_
              go_simp
              exact hK _ _ _ (Ext.setCell (Ext.setCell (Ext.setCell (Ext.setCell hext hB8 _) hB8 _) hB8 _) hB8 _) rfl y8 hB8 (Dag.heap_setCell (Dag.heap_setCell (Dag.heap_setCell (Dag.heap_setCell hb8 _) _) _) _)
            · rw [if_neg (by decide)]
              intro a' w' K hext hsees hK
              obtain ⟨v65, y65, f65⟩ := hsees.new (t := 65) (j := 6) (by kernel_rfl) (by kernel_rfl)
              obtain rfl : v65 = (.int .i64 0) := f65
              have e65 := Dag.eval_of y65
              refine Dag.wpOp_lit rfl ?_
              go_simp
              exact hK _ _ rfl (Ext.refl _)
            intro vs w' hw' hv hk
            obtain ⟨b, hb0, hb1, hb2⟩ := hk
            have h9 : vs 9 = (.int .i64 0) := hv 9 (by decide) (by decide) rfl
            simp only [Dag.putL, Act.put, List.setIfInBounds_toArray, List.set_cons_zero, List.set_cons_succ, hb0, h9]
            go_wp2_with fail
            go_meet
            exact ⟨b, rfl, rfl, BoxAt.of hb1, hB6.ext (by repeat (first | exact Ext.refl _ | assumption | refine Ext.drew ?_ | refine Ext.alloc ?_ _ | refine Ext.setCell ?_ (by first | exact Nat.le_refl _ | (simp; done) | (simp; omega)) _ | refine Ext.trans ?_ (by assumption))), (by repeat (first | exact Ext.refl _ | assumption | refine Ext.drew ?_ | refine Ext.alloc ?_ _ | refine Ext.setCell ?_ (by first | exact Nat.le_refl _ | (simp; done) | (simp; omega)) _ | refine Ext.trans ?_ (by assumption)))⟩
        case rest =>
          clear hB6 hB5
          obtain ⟨b8, rfl, rfl, hB8, hB6, hx10⟩ := hcut
          go_upto_region 11 with fail
          go_cut [10, 11] (fun s10 s11 wx => ∃ b, s10 = .pointer (some ⟨b, 0, none⟩) ∧ s11 = .int .i64 141 ∧ BoxAt wx b #[.int .i64 0, .int .i64 0, .int .i64 0, .int .i64 0] ∧ BoxAt wx b8 #[.int .i64 10, .int .i64 50, .int .i64 80, .int .i64 0] ∧ BoxAt wx b6 #[.int .i64 10, .int .i64 50, .int .i64 90, .int .i64 300] ∧ Ext wr wx)
          case first =>
            go_wp2_with (first | (go_at_call 16; (with_reducible refine (limits_any _).mono ?_); rintro e w_limits ⟨rfl, hx_limits⟩; have hc_limits := hx_limits.cells; have hf_limits := hx_limits.frozens) | (go_at_call 18; (with_reducible refine (c_kd2 _).mono ?_); rintro e w_derive ⟨rfl, hx_derive⟩; have hc_derive := hx_derive.cells; have hf_derive := hx_derive.frozens))
            go_meet
            exact ⟨_, rfl, rfl, BoxAt.new _ _ _, hB8.ext (by repeat (first | exact Ext.refl _ | assumption | refine Ext.drew ?_ | refine Ext.alloc ?_ _ | refine Ext.setCell ?_ (by first | exact Nat.le_refl _ | (simp; done) | (simp; omega)) _ | refine Ext.trans ?_ (by assumption))), hB6.ext (by repeat (first | exact Ext.refl _ | assumption | refine Ext.drew ?_ | refine Ext.alloc ?_ _ | refine Ext.setCell ?_ (by first | exact Nat.le_refl _ | (simp; done) | (simp; omega)) _ | refine Ext.trans ?_ (by assumption))), (by repeat (first | exact Ext.refl _ | assumption | refine Ext.drew ?_ | refine Ext.alloc ?_ _ | refine Ext.setCell ?_ (by first | exact Nat.le_refl _ | (simp; done) | (simp; omega)) _ | refine Ext.trans ?_ (by assumption)))⟩
          case rest =>
            clear hB8 hB6
            obtain ⟨b10, rfl, rfl, hB10, hB8, hB6, hx11⟩ := hcut
            go_upto_region 12 with fail
            go_cut [12, 13] (fun s12 s13 wx => ∃ b, s12 = .pointer (some ⟨b, 0, none⟩) ∧ s13 = .int .i64 140 ∧ BoxAt wx b #[.int .i64 0, .int .i64 0, .int .i64 0, .int .i64 0] ∧ BoxAt wx b10 #[.int .i64 0, .int .i64 0, .int .i64 0, .int .i64 0] ∧ BoxAt wx b8 #[.int .i64 10, .int .i64 50, .int .i64 80, .int .i64 0] ∧ BoxAt wx b6 #[.int .i64 10, .int .i64 50, .int .i64 90, .int .i64 300] ∧ Ext wr wx)
            case first =>
              go_wp2_with (first | (go_at_call 16; (with_reducible refine (limits_any _).mono ?_); rintro e w_limits ⟨rfl, hx_limits⟩; have hc_limits := hx_limits.cells; have hf_limits := hx_limits.frozens) | (go_at_call 18; (with_reducible refine (c_kd3 _).mono ?_); rintro e w_derive ⟨rfl, hx_derive⟩; have hc_derive := hx_derive.cells; have hf_derive := hx_derive.frozens))
              go_meet
              exact ⟨_, rfl, rfl, BoxAt.new _ _ _, hB10.ext (by repeat (first | exact Ext.refl _ | assumption | refine Ext.drew ?_ | refine Ext.alloc ?_ _ | refine Ext.setCell ?_ (by first | exact Nat.le_refl _ | (simp; done) | (simp; omega)) _ | refine Ext.trans ?_ (by assumption))), hB8.ext (by repeat (first | exact Ext.refl _ | assumption | refine Ext.drew ?_ | refine Ext.alloc ?_ _ | refine Ext.setCell ?_ (by first | exact Nat.le_refl _ | (simp; done) | (simp; omega)) _ | refine Ext.trans ?_ (by assumption))), hB6.ext (by repeat (first | exact Ext.refl _ | assumption | refine Ext.drew ?_ | refine Ext.alloc ?_ _ | refine Ext.setCell ?_ (by first | exact Nat.le_refl _ | (simp; done) | (simp; omega)) _ | refine Ext.trans ?_ (by assumption))), (by repeat (first | exact Ext.refl _ | assumption | refine Ext.drew ?_ | refine Ext.alloc ?_ _ | refine Ext.setCell ?_ (by first | exact Nat.le_refl _ | (simp; done) | (simp; omega)) _ | refine Ext.trans ?_ (by assumption)))⟩
            case rest =>
              clear hB10 hB8 hB6
              obtain ⟨b12, rfl, rfl, hB12, hB10, hB8, hB6, hx12⟩ := hcut
              go_upto_region 13 with fail
              go_cut [101] (fun s101 wx => s101 = .bool false ∧ Ext wr wx)
              case first =>
                have q12 := hB12.2
                have q10 := hB10.2
                have q8 := hB8.2
                have q6 := hB6.2
                generalize hW : wc = W0 at *
                clear hW
                have HB12 := Lib.hid hB12
                have HB10 := Lib.hid hB10
                have HB8 := Lib.hid hB8
                have HB6 := Lib.hid hB6
                clear hB12 hB10 hB8 hB6
                go_wp2_with (go_at_call 17; (first | (with_reducible refine (result_T _ _ _ _ _ _ kt3 (Ext.tab ((by repeat (first | exact Ext.refl _ | assumption | refine Ext.drew ?_ | refine Ext.alloc ?_ _ | refine Ext.setCell ?_ (by first | exact Nat.le_refl _ | (simp; done) | (simp; omega)) _ | refine Ext.trans ?_ (by assumption)))) pow10_g Htab.out)).mono ?_) | (with_reducible refine (result_T _ _ _ _ _ _ kt4 (Ext.tab ((by repeat (first | exact Ext.refl _ | assumption | refine Ext.drew ?_ | refine Ext.alloc ?_ _ | refine Ext.setCell ?_ (by first | exact Nat.le_refl _ | (simp; done) | (simp; omega)) _ | refine Ext.trans ?_ (by assumption)))) pow10_g Htab.out)).mono ?_) | (with_reducible refine (result_E 141 _ _ (by decide)).mono ?_) | (with_reducible refine (result_E 140 _ _ (by decide)).mono ?_)); rintro e w_r ⟨rfl, hx_r⟩; have hxr : Ext W0 w_r := (by repeat (first | exact Ext.refl _ | assumption | refine Ext.drew ?_ | refine Ext.alloc ?_ _ | refine Ext.setCell ?_ (by first | exact Nat.le_refl _ | (simp; done) | (simp; omega)) _ | refine Ext.trans ?_ (by assumption))); have p12 := (HB12.out.ext hxr).2; have p10 := (HB10.out.ext hxr).2; have p8 := (HB8.out.ext hxr).2; have p6 := (HB6.out.ext hxr).2)
                go_meet
                exact ⟨rfl, (by repeat (first | exact Ext.refl _ | assumption | refine Ext.drew ?_ | refine Ext.alloc ?_ _ | refine Ext.setCell ?_ (by first | exact Nat.le_refl _ | (simp; done) | (simp; omega)) _ | refine Ext.trans ?_ (by assumption)))⟩
              case rest =>
                obtain ⟨rfl, hx13⟩ := hcut
                clear hB12 hB10 hB8 hB6
                go_wp2_with fail
                go_loopw [107] (fun i wq => ∃ k : Int, (k = 0 ∨ k = 1 ∨ k = 2 ∨ k = 3) ∧ i = .int .i64 k ∧ Ext (wc.alloc (.cells #[.int .i64 10, .int .i64 20, .int .i64 90, .int .i64 300, .int .i64 10, .int .i64 20, .int .i64 90, .int .i64 100, .int .i64 10, .int .i64 20, .int .i64 90, .int .i64 0] 23)) wq) (fun i _ => (3 - intOf i).toNat)
                case atStart => exact ⟨0, .inl rfl, rfl, Ext.refl _⟩
                case round =>
                  obtain ⟨wq, rfl⟩ : ∃ wq : World, wq = wr := ⟨_, rfl⟩
                  obtain ⟨k2, hk2, rfl, hx2⟩ := hrel
                  have hrw2 : ∀ i, wq.cell? ⟨wc.heap.size, i, none⟩ = _ := fun i => hx2.cells _ i (by simp)
                  have hsz2 : wc.heap.size < wq.heap.size := by have := hx2.sz; simp at this; omega
                  have hxw2 : Ext w wq := (by repeat (first | exact Ext.refl _ | assumption | refine Ext.drew ?_ | refine Ext.alloc ?_ _ | refine Ext.setCell ?_ (by first | exact Nat.le_refl _ | (simp; done) | (simp; omega)) _ | refine Ext.trans ?_ (by assumption)))
                  rcases hk2 with rfl | rfl | rfl | rfl
                  · go_upto_region 18 with fail
                    go_cut [16, 17] (fun s16 s17 wx => ∃ b, s16 = .pointer (some ⟨b, 0, none⟩) ∧ s17 = .int .i64 0 ∧ BoxAt wx b #[.int .i64 10, .int .i64 50, .int .i64 120, .int .i64 300] ∧ Ext wq wx)
                    case first =>
                      go_wp2_with (first | (go_at_call 19; (with_reducible refine (c_kr0 _).mono ?_); rintro e w_renew ⟨rfl, hx_renew⟩; have hc_renew := hx_renew.cells; have hf_renew := hx_renew.frozens) | (go_at_call 19; (with_reducible refine (c_kr1 _).mono ?_); rintro e w_renew ⟨rfl, hx_renew⟩; have hc_renew := hx_renew.cells; have hf_renew := hx_renew.frozens) | (go_at_call 19; (with_reducible refine (c_kr2 _).mono ?_); rintro e w_renew ⟨rfl, hx_renew⟩; have hc_renew := hx_renew.cells; have hf_renew := hx_renew.frozens))
                      go_meet
                      exact ⟨_, rfl, rfl, BoxAt.new _ _ _, (by repeat (first | exact Ext.refl _ | assumption | refine Ext.drew ?_ | refine Ext.alloc ?_ _ | refine Ext.setCell ?_ (by first | exact Nat.le_refl _ | (simp; done) | (simp; omega)) _ | refine Ext.trans ?_ (by assumption)))⟩
                    case rest =>
                      obtain ⟨b, rfl, rfl, hB, hx18⟩ := hcut
                      have hxw3 := hxw2.trans hx18
                      clear hrw2
                      go_upto_region 19 with fail
                      go_cut [128] (fun s128 wx => s128 = .bool false ∧ Ext wc wx)
                      case first =>
                        refine Dag.wp_region_facts [.val (.agg #[.int .i64 10, .int .i64 50, .int .i64 120, .int .i64 300]), .val (.int .i64 0), .box 3 #[.string ⟨#[49, 48, 32, 53, 48, 32, 49, 50, 48, 32, 51, 48, 48]⟩, .string ⟨#[49, 48, 32, 53, 48, 32, 49, 48, 48, 32, 49, 48, 48]⟩, .string ⟨#[]⟩] 9, .val (.int .i64 0), .into 0 #[.string ⟨#[49, 48, 32, 53, 48, 32, 49, 50, 48, 32, 51, 48, 48]⟩, .string ⟨#[49, 48, 32, 53, 48, 32, 49, 48, 48, 32, 49, 48, 48]⟩, .string ⟨#[]⟩] 9, .val (.string ⟨#[49, 48, 32, 53, 48, 32, 49, 50, 48, 32, 51, 48, 48]⟩), .box 3 #[.int .i64 0, .int .i64 0, .int .i64 142] 25, .val (.int .i64 0), .into 0 #[.int .i64 0, .int .i64 0, .int .i64 142] 25, .val (.int .i64 0), .val (.bool true), .val (.bool false)] [some 117, some 118, some 119, some 120, some 121, some 122, some 123, some 124, some 125, some 126, some 127, some 128] (by kernel_rfl) (by kernel_rfl) (by kernel_rfl) ⟨?_, ?_, ?_, ?_, ?_, ?_, ?_, ?_, ?_, ?_, ?_, ?_, trivial⟩ ?_
                        · intro a' w' K hext hsees hK
                          have y16 : a'.tmps[16]? = some (.pointer (some ⟨b, 0, none⟩)) := (hsees.old (t := 16) (by kernel_rfl) (by kernel_rfl)).trans rfl
                          have e16 := Dag.eval_of y16
                          refine Dag.wpOp_lit rfl ?_
                          have hb' := hB.ext ((Ext.refl _).drew.trans hext)
                          have hb2 := hb'.2
                          go_simp
                          exact hK _ _ rfl (Ext.refl _)
                        · intro a' w' K hext hsees hK
                          have y17 : a'.tmps[17]? = some (.int .i64 0) := (hsees.old (t := 17) (by kernel_rfl) (by kernel_rfl)).trans rfl
                          have e17 := Dag.eval_of y17
                          refine Dag.wpOp_lit rfl ?_
                          go_simp
                          exact hK _ _ rfl (Ext.refl _)
                        · intro a' w' K hext hsees hK
                          refine Dag.wpOp_lit rfl ?_
                          go_simp
                          exact hK _ _ ⟨_, rfl, heap_new _ _⟩ ((Ext.refl _).alloc _)
                        · intro a' w' K hext hsees hK
                          have y14 : a'.tmps[14]? = some (.int .i64 0) := (hsees.old (t := 14) (by kernel_rfl) (by kernel_rfl)).trans rfl
                          have e14 := Dag.eval_of y14
                          refine Dag.wpOp_lit rfl ?_
                          go_simp
                          exact hK _ _ rfl (Ext.refl _)
                        · intro a' w' K hext hsees hK
                          obtain ⟨v119, y119, f119⟩ := hsees.new (t := 119) (j := 2) (by kernel_rfl) (by kernel_rfl)
                          obtain ⟨b119, rfl, hb119⟩ := f119
                          have hc119 := Dag.cell_of_heap hb119
                          have e119 := Dag.eval_of y119
                          obtain ⟨v120, y120, f120⟩ := hsees.new (t := 120) (j := 3) (by kernel_rfl) (by kernel_rfl)
                          obtain rfl : v120 = (.int .i64 0) := f120
                          have e120 := Dag.eval_of y120
                          refine Dag.wpOp_lit rfl ?_
                          go_simp
                          exact hK _ _ ⟨_, rfl, hb119⟩ (Ext.refl _)
                        · intro a' w' K hext hsees hK
                          obtain ⟨v121, y121, f121⟩ := hsees.new (t := 121) (j := 4) (by kernel_rfl) (by kernel_rfl)
                          obtain ⟨b121, rfl, hb121⟩ := f121
                          have hc121 := Dag.cell_of_heap hb121
                          have e121 := Dag.eval_of y121
                          refine Dag.wpOp_lit rfl ?_
                          go_simp
                          exact hK _ _ rfl (Ext.refl _)
                        · intro a' w' K hext hsees hK
                          refine Dag.wpOp_lit rfl ?_
                          go_simp
                          exact hK _ _ ⟨_, rfl, heap_new _ _⟩ ((Ext.refl _).alloc _)
                        · intro a' w' K hext hsees hK
                          have y14 : a'.tmps[14]? = some (.int .i64 0) := (hsees.old (t := 14) (by kernel_rfl) (by kernel_rfl)).trans rfl
                          have e14 := Dag.eval_of y14
                          refine Dag.wpOp_lit rfl ?_
                          go_simp
                          exact hK _ _ rfl (Ext.refl _)
                        · intro a' w' K hext hsees hK
                          obtain ⟨v123, y123, f123⟩ := hsees.new (t := 123) (j := 6) (by kernel_rfl) (by kernel_rfl)
                          obtain ⟨b123, rfl, hb123⟩ := f123
                          have hc123 := Dag.cell_of_heap hb123
                          have e123 := Dag.eval_of y123
                          obtain ⟨v124, y124, f124⟩ := hsees.new (t := 124) (j := 7) (by kernel_rfl) (by kernel_rfl)
                          obtain rfl : v124 = (.int .i64 0) := f124
                          have e124 := Dag.eval_of y124
                          refine Dag.wpOp_lit rfl ?_
                          go_simp
                          exact hK _ _ ⟨_, rfl, hb123⟩ (Ext.refl _)
                        · intro a' w' K hext hsees hK
                          obtain ⟨v125, y125, f125⟩ := hsees.new (t := 125) (j := 8) (by kernel_rfl) (by kernel_rfl)
                          obtain ⟨b125, rfl, hb125⟩ := f125
                          have hc125 := Dag.cell_of_heap hb125
                          have e125 := Dag.eval_of y125
                          refine Dag.wpOp_lit rfl ?_
                          go_simp
                          exact hK _ _ rfl (Ext.refl _)
                        · intro a' w' K hext hsees hK
                          obtain ⟨v117, y117, f117⟩ := hsees.new (t := 117) (j := 0) (by kernel_rfl) (by kernel_rfl)
                          obtain rfl : v117 = (.agg #[.int .i64 10, .int .i64 50, .int .i64 120, .int .i64 300]) := f117
                          have e117 := Dag.eval_of y117
                          obtain ⟨v118, y118, f118⟩ := hsees.new (t := 118) (j := 1) (by kernel_rfl) (by kernel_rfl)
                          obtain rfl : v118 = (.int .i64 0) := f118
                          have e118 := Dag.eval_of y118
                          obtain ⟨v122, y122, f122⟩ := hsees.new (t := 122) (j := 5) (by kernel_rfl) (by kernel_rfl)
                          obtain rfl : v122 = (.string ⟨#[49, 48, 32, 53, 48, 32, 49, 50, 48, 32, 51, 48, 48]⟩) := f122
                          have e122 := Dag.eval_of y122
                          obtain ⟨v126, y126, f126⟩ := hsees.new (t := 126) (j := 9) (by kernel_rfl) (by kernel_rfl)
                          obtain rfl : v126 = (.int .i64 0) := f126
                          have e126 := Dag.eval_of y126
                          refine Dag.wpOp_lit rfl ?_
                          go_simp
                          refine (result_T _ _ _ _ _ _ kt5 (Ext.tab ((by repeat (first | exact Ext.refl _ | assumption | refine Ext.drew ?_ | refine Ext.alloc ?_ _ | refine Ext.setCell ?_ (by first | exact Nat.le_refl _ | (simp; done) | (simp; omega)) _ | refine Ext.trans ?_ (by assumption)))) pow10_g Htab.out)).mono ?_
                          rintro e w_r ⟨rfl, hx_r⟩
                          exact hK _ _ rfl hx_r
                        · intro a' w' K hext hsees hK
                          obtain ⟨v127, y127, f127⟩ := hsees.new (t := 127) (j := 10) (by kernel_rfl) (by kernel_rfl)
                          obtain rfl : v127 = (.bool true) := f127
                          have e127 := Dag.eval_of y127
                          refine Dag.wpOp_lit rfl ?_
                          go_simp
                          exact hK _ _ rfl (Ext.refl _)
                        intro vs w' hw' hv
                        have h11 : vs 11 = (.bool false) := hv 11 (by decide)
                        simp only [Dag.putL, Act.put, List.setIfInBounds_toArray, List.set_cons_zero, List.set_cons_succ, h11]
                        go_wp2_with fail
                        go_meet
                        exact ⟨rfl, (by repeat (first | exact Ext.refl _ | assumption | refine Ext.drew ?_ | refine Ext.alloc ?_ _ | refine Ext.setCell ?_ (by first | exact Nat.le_refl _ | (simp; done) | (simp; omega)) _ | refine Ext.trans ?_ (by assumption)))⟩
                      case rest =>
                        obtain ⟨rfl, hx19⟩ := hcut
                        go_wp2
                        go_roundw
                        case rel => exact ⟨1, by simp, by simp, hx2.trans (hx18.trans hx19)⟩
                        case measure => simp [intOf]
                  · go_upto_region 18 with fail
                    go_cut [16, 17] (fun s16 s17 wx => ∃ b, s16 = .pointer (some ⟨b, 0, none⟩) ∧ s17 = .int .i64 0 ∧ BoxAt wx b #[.int .i64 10, .int .i64 50, .int .i64 100, .int .i64 100] ∧ Ext wq wx)
                    case first =>
                      go_wp2_with (first | (go_at_call 19; (with_reducible refine (c_kr0 _).mono ?_); rintro e w_renew ⟨rfl, hx_renew⟩; have hc_renew := hx_renew.cells; have hf_renew := hx_renew.frozens) | (go_at_call 19; (with_reducible refine (c_kr1 _).mono ?_); rintro e w_renew ⟨rfl, hx_renew⟩; have hc_renew := hx_renew.cells; have hf_renew := hx_renew.frozens) | (go_at_call 19; (with_reducible refine (c_kr2 _).mono ?_); rintro e w_renew ⟨rfl, hx_renew⟩; have hc_renew := hx_renew.cells; have hf_renew := hx_renew.frozens))
                      go_meet
                      exact ⟨_, rfl, rfl, BoxAt.new _ _ _, (by repeat (first | exact Ext.refl _ | assumption | refine Ext.drew ?_ | refine Ext.alloc ?_ _ | refine Ext.setCell ?_ (by first | exact Nat.le_refl _ | (simp; done) | (simp; omega)) _ | refine Ext.trans ?_ (by assumption)))⟩
                    case rest =>
                      obtain ⟨b, rfl, rfl, hB, hx18⟩ := hcut
                      have hxw3 := hxw2.trans hx18
                      clear hrw2
                      go_upto_region 19 with fail
                      go_cut [128] (fun s128 wx => s128 = .bool false ∧ Ext wc wx)
                      case first =>
                        refine Dag.wp_region_facts [.val (.agg #[.int .i64 10, .int .i64 50, .int .i64 100, .int .i64 100]), .val (.int .i64 0), .box 3 #[.string ⟨#[49, 48, 32, 53, 48, 32, 49, 50, 48, 32, 51, 48, 48]⟩, .string ⟨#[49, 48, 32, 53, 48, 32, 49, 48, 48, 32, 49, 48, 48]⟩, .string ⟨#[]⟩] 9, .val (.int .i64 1), .into 1 #[.string ⟨#[49, 48, 32, 53, 48, 32, 49, 50, 48, 32, 51, 48, 48]⟩, .string ⟨#[49, 48, 32, 53, 48, 32, 49, 48, 48, 32, 49, 48, 48]⟩, .string ⟨#[]⟩] 9, .val (.string ⟨#[49, 48, 32, 53, 48, 32, 49, 48, 48, 32, 49, 48, 48]⟩), .box 3 #[.int .i64 0, .int .i64 0, .int .i64 142] 25, .val (.int .i64 1), .into 1 #[.int .i64 0, .int .i64 0, .int .i64 142] 25, .val (.int .i64 0), .val (.bool true), .val (.bool false)] [some 117, some 118, some 119, some 120, some 121, some 122, some 123, some 124, some 125, some 126, some 127, some 128] (by kernel_rfl) (by kernel_rfl) (by kernel_rfl) ⟨?_, ?_, ?_, ?_, ?_, ?_, ?_, ?_, ?_, ?_, ?_, ?_, trivial⟩ ?_
                        · intro a' w' K hext hsees hK
                          have y16 : a'.tmps[16]? = some (.pointer (some ⟨b, 0, none⟩)) := (hsees.old (t := 16) (by kernel_rfl) (by kernel_rfl)).trans rfl
                          have e16 := Dag.eval_of y16
                          refine Dag.wpOp_lit rfl ?_
                          have hb' := hB.ext ((Ext.refl _).drew.trans hext)
                          have hb2 := hb'.2
                          go_simp
                          exact hK _ _ rfl (Ext.refl _)
                        · intro a' w' K hext hsees hK
                          have y17 : a'.tmps[17]? = some (.int .i64 0) := (hsees.old (t := 17) (by kernel_rfl) (by kernel_rfl)).trans rfl
                          have e17 := Dag.eval_of y17
                          refine Dag.wpOp_lit rfl ?_
                          go_simp
                          exact hK _ _ rfl (Ext.refl _)
                        · intro a' w' K hext hsees hK
                          refine Dag.wpOp_lit rfl ?_
                          go_simp
                          exact hK _ _ ⟨_, rfl, heap_new _ _⟩ ((Ext.refl _).alloc _)
                        · intro a' w' K hext hsees hK
                          have y14 : a'.tmps[14]? = some (.int .i64 1) := (hsees.old (t := 14) (by kernel_rfl) (by kernel_rfl)).trans rfl
                          have e14 := Dag.eval_of y14
                          refine Dag.wpOp_lit rfl ?_
                          go_simp
                          exact hK _ _ rfl (Ext.refl _)
                        · intro a' w' K hext hsees hK
                          obtain ⟨v119, y119, f119⟩ := hsees.new (t := 119) (j := 2) (by kernel_rfl) (by kernel_rfl)
                          obtain ⟨b119, rfl, hb119⟩ := f119
                          have hc119 := Dag.cell_of_heap hb119
                          have e119 := Dag.eval_of y119
                          obtain ⟨v120, y120, f120⟩ := hsees.new (t := 120) (j := 3) (by kernel_rfl) (by kernel_rfl)
                          obtain rfl : v120 = (.int .i64 1) := f120
                          have e120 := Dag.eval_of y120
                          refine Dag.wpOp_lit rfl ?_
                          go_simp
                          exact hK _ _ ⟨_, rfl, hb119⟩ (Ext.refl _)
                        · intro a' w' K hext hsees hK
                          obtain ⟨v121, y121, f121⟩ := hsees.new (t := 121) (j := 4) (by kernel_rfl) (by kernel_rfl)
                          obtain ⟨b121, rfl, hb121⟩ := f121
                          have hc121 := Dag.cell_of_heap hb121
                          have e121 := Dag.eval_of y121
                          refine Dag.wpOp_lit rfl ?_
                          go_simp
                          exact hK _ _ rfl (Ext.refl _)
                        · intro a' w' K hext hsees hK
                          refine Dag.wpOp_lit rfl ?_
                          go_simp
                          exact hK _ _ ⟨_, rfl, heap_new _ _⟩ ((Ext.refl _).alloc _)
                        · intro a' w' K hext hsees hK
                          have y14 : a'.tmps[14]? = some (.int .i64 1) := (hsees.old (t := 14) (by kernel_rfl) (by kernel_rfl)).trans rfl
                          have e14 := Dag.eval_of y14
                          refine Dag.wpOp_lit rfl ?_
                          go_simp
                          exact hK _ _ rfl (Ext.refl _)
                        · intro a' w' K hext hsees hK
                          obtain ⟨v123, y123, f123⟩ := hsees.new (t := 123) (j := 6) (by kernel_rfl) (by kernel_rfl)
                          obtain ⟨b123, rfl, hb123⟩ := f123
                          have hc123 := Dag.cell_of_heap hb123
                          have e123 := Dag.eval_of y123
                          obtain ⟨v124, y124, f124⟩ := hsees.new (t := 124) (j := 7) (by kernel_rfl) (by kernel_rfl)
                          obtain rfl : v124 = (.int .i64 1) := f124
                          have e124 := Dag.eval_of y124
                          refine Dag.wpOp_lit rfl ?_
                          go_simp
                          exact hK _ _ ⟨_, rfl, hb123⟩ (Ext.refl _)
                        · intro a' w' K hext hsees hK
                          obtain ⟨v125, y125, f125⟩ := hsees.new (t := 125) (j := 8) (by kernel_rfl) (by kernel_rfl)
                          obtain ⟨b125, rfl, hb125⟩ := f125
                          have hc125 := Dag.cell_of_heap hb125
                          have e125 := Dag.eval_of y125
                          refine Dag.wpOp_lit rfl ?_
                          go_simp
                          exact hK _ _ rfl (Ext.refl _)
                        · intro a' w' K hext hsees hK
                          obtain ⟨v117, y117, f117⟩ := hsees.new (t := 117) (j := 0) (by kernel_rfl) (by kernel_rfl)
                          obtain rfl : v117 = (.agg #[.int .i64 10, .int .i64 50, .int .i64 100, .int .i64 100]) := f117
                          have e117 := Dag.eval_of y117
                          obtain ⟨v118, y118, f118⟩ := hsees.new (t := 118) (j := 1) (by kernel_rfl) (by kernel_rfl)
                          obtain rfl : v118 = (.int .i64 0) := f118
                          have e118 := Dag.eval_of y118
                          obtain ⟨v122, y122, f122⟩ := hsees.new (t := 122) (j := 5) (by kernel_rfl) (by kernel_rfl)
                          obtain rfl : v122 = (.string ⟨#[49, 48, 32, 53, 48, 32, 49, 48, 48, 32, 49, 48, 48]⟩) := f122
                          have e122 := Dag.eval_of y122
                          obtain ⟨v126, y126, f126⟩ := hsees.new (t := 126) (j := 9) (by kernel_rfl) (by kernel_rfl)
                          obtain rfl : v126 = (.int .i64 0) := f126
                          have e126 := Dag.eval_of y126
                          refine Dag.wpOp_lit rfl ?_
                          go_simp
                          refine (result_T _ _ _ _ _ _ kt6 (Ext.tab ((by repeat (first | exact Ext.refl _ | assumption | refine Ext.drew ?_ | refine Ext.alloc ?_ _ | refine Ext.setCell ?_ (by first | exact Nat.le_refl _ | (simp; done) | (simp; omega)) _ | refine Ext.trans ?_ (by assumption)))) pow10_g Htab.out)).mono ?_
                          rintro e w_r ⟨rfl, hx_r⟩
                          exact hK _ _ rfl hx_r
                        · intro a' w' K hext hsees hK
                          obtain ⟨v127, y127, f127⟩ := hsees.new (t := 127) (j := 10) (by kernel_rfl) (by kernel_rfl)
                          obtain rfl : v127 = (.bool true) := f127
                          have e127 := Dag.eval_of y127
                          refine Dag.wpOp_lit rfl ?_
                          go_simp
                          exact hK _ _ rfl (Ext.refl _)
                        intro vs w' hw' hv
                        have h11 : vs 11 = (.bool false) := hv 11 (by decide)
                        simp only [Dag.putL, Act.put, List.setIfInBounds_toArray, List.set_cons_zero, List.set_cons_succ, h11]
                        go_wp2_with fail
                        go_meet
                        exact ⟨rfl, (by repeat (first | exact Ext.refl _ | assumption | refine Ext.drew ?_ | refine Ext.alloc ?_ _ | refine Ext.setCell ?_ (by first | exact Nat.le_refl _ | (simp; done) | (simp; omega)) _ | refine Ext.trans ?_ (by assumption)))⟩
                      case rest =>
                        obtain ⟨rfl, hx19⟩ := hcut
                        go_wp2
                        go_roundw
                        case rel => exact ⟨2, by simp, by simp, hx2.trans (hx18.trans hx19)⟩
                        case measure => simp [intOf]
                  · go_upto_region 18 with fail
                    go_cut [16, 17] (fun s16 s17 wx => ∃ b, s16 = .pointer (some ⟨b, 0, none⟩) ∧ s17 = .int .i64 142 ∧ BoxAt wx b #[.int .i64 0, .int .i64 0, .int .i64 0, .int .i64 0] ∧ Ext wq wx)
                    case first =>
                      go_wp2_with (first | (go_at_call 19; (with_reducible refine (c_kr0 _).mono ?_); rintro e w_renew ⟨rfl, hx_renew⟩; have hc_renew := hx_renew.cells; have hf_renew := hx_renew.frozens) | (go_at_call 19; (with_reducible refine (c_kr1 _).mono ?_); rintro e w_renew ⟨rfl, hx_renew⟩; have hc_renew := hx_renew.cells; have hf_renew := hx_renew.frozens) | (go_at_call 19; (with_reducible refine (c_kr2 _).mono ?_); rintro e w_renew ⟨rfl, hx_renew⟩; have hc_renew := hx_renew.cells; have hf_renew := hx_renew.frozens))
                      go_meet
                      exact ⟨_, rfl, rfl, BoxAt.new _ _ _, (by repeat (first | exact Ext.refl _ | assumption | refine Ext.drew ?_ | refine Ext.alloc ?_ _ | refine Ext.setCell ?_ (by first | exact Nat.le_refl _ | (simp; done) | (simp; omega)) _ | refine Ext.trans ?_ (by assumption)))⟩
                    case rest =>
                      obtain ⟨b, rfl, rfl, hB, hx18⟩ := hcut
                      have hxw3 := hxw2.trans hx18
                      clear hrw2
                      go_upto_region 19 with fail
                      go_cut [128] (fun s128 wx => s128 = .bool false ∧ Ext wc wx)
                      case first =>
                        refine Dag.wp_region_facts [.val (.agg #[.int .i64 0, .int .i64 0, .int .i64 0, .int .i64 0]), .val (.int .i64 142), .box 3 #[.string ⟨#[49, 48, 32, 53, 48, 32, 49, 50, 48, 32, 51, 48, 48]⟩, .string ⟨#[49, 48, 32, 53, 48, 32, 49, 48, 48, 32, 49, 48, 48]⟩, .string ⟨#[]⟩] 9, .val (.int .i64 2), .into 2 #[.string ⟨#[49, 48, 32, 53, 48, 32, 49, 50, 48, 32, 51, 48, 48]⟩, .string ⟨#[49, 48, 32, 53, 48, 32, 49, 48, 48, 32, 49, 48, 48]⟩, .string ⟨#[]⟩] 9, .val (.string ⟨#[]⟩), .box 3 #[.int .i64 0, .int .i64 0, .int .i64 142] 25, .val (.int .i64 2), .into 2 #[.int .i64 0, .int .i64 0, .int .i64 142] 25, .val (.int .i64 142), .val (.bool true), .val (.bool false)] [some 117, some 118, some 119, some 120, some 121, some 122, some 123, some 124, some 125, some 126, some 127, some 128] (by kernel_rfl) (by kernel_rfl) (by kernel_rfl) ⟨?_, ?_, ?_, ?_, ?_, ?_, ?_, ?_, ?_, ?_, ?_, ?_, trivial⟩ ?_
                        · intro a' w' K hext hsees hK
                          have y16 : a'.tmps[16]? = some (.pointer (some ⟨b, 0, none⟩)) := (hsees.old (t := 16) (by kernel_rfl) (by kernel_rfl)).trans rfl
                          have e16 := Dag.eval_of y16
                          refine Dag.wpOp_lit rfl ?_
                          have hb' := hB.ext ((Ext.refl _).drew.trans hext)
                          have hb2 := hb'.2
                          go_simp
                          exact hK _ _ rfl (Ext.refl _)
                        · intro a' w' K hext hsees hK
                          have y17 : a'.tmps[17]? = some (.int .i64 142) := (hsees.old (t := 17) (by kernel_rfl) (by kernel_rfl)).trans rfl
                          have e17 := Dag.eval_of y17
                          refine Dag.wpOp_lit rfl ?_
                          go_simp
                          exact hK _ _ rfl (Ext.refl _)
                        · intro a' w' K hext hsees hK
                          refine Dag.wpOp_lit rfl ?_
                          go_simp
                          exact hK _ _ ⟨_, rfl, heap_new _ _⟩ ((Ext.refl _).alloc _)
                        · intro a' w' K hext hsees hK
                          have y14 : a'.tmps[14]? = some (.int .i64 2) := (hsees.old (t := 14) (by kernel_rfl) (by kernel_rfl)).trans rfl
                          have e14 := Dag.eval_of y14
                          refine Dag.wpOp_lit rfl ?_
                          go_simp
                          exact hK _ _ rfl (Ext.refl _)
                        · intro a' w' K hext hsees hK
                          obtain ⟨v119, y119, f119⟩ := hsees.new (t := 119) (j := 2) (by kernel_rfl) (by kernel_rfl)
                          obtain ⟨b119, rfl, hb119⟩ := f119
                          have hc119 := Dag.cell_of_heap hb119
                          have e119 := Dag.eval_of y119
                          obtain ⟨v120, y120, f120⟩ := hsees.new (t := 120) (j := 3) (by kernel_rfl) (by kernel_rfl)
                          obtain rfl : v120 = (.int .i64 2) := f120
                          have e120 := Dag.eval_of y120
                          refine Dag.wpOp_lit rfl ?_
                          go_simp
                          exact hK _ _ ⟨_, rfl, hb119⟩ (Ext.refl _)
                        · intro a' w' K hext hsees hK
                          obtain ⟨v121, y121, f121⟩ := hsees.new (t := 121) (j := 4) (by kernel_rfl) (by kernel_rfl)
                          obtain ⟨b121, rfl, hb121⟩ := f121
                          have hc121 := Dag.cell_of_heap hb121
                          have e121 := Dag.eval_of y121
                          refine Dag.wpOp_lit rfl ?_
                          go_simp
                          exact hK _ _ rfl (Ext.refl _)
                        · intro a' w' K hext hsees hK
                          refine Dag.wpOp_lit rfl ?_
                          go_simp
                          exact hK _ _ ⟨_, rfl, heap_new _ _⟩ ((Ext.refl _).alloc _)
                        · intro a' w' K hext hsees hK
                          have y14 : a'.tmps[14]? = some (.int .i64 2) := (hsees.old (t := 14) (by kernel_rfl) (by kernel_rfl)).trans rfl
                          have e14 := Dag.eval_of y14
                          refine Dag.wpOp_lit rfl ?_
                          go_simp
                          exact hK _ _ rfl (Ext.refl _)
                        · intro a' w' K hext hsees hK
                          obtain ⟨v123, y123, f123⟩ := hsees.new (t := 123) (j := 6) (by kernel_rfl) (by kernel_rfl)
                          obtain ⟨b123, rfl, hb123⟩ := f123
                          have hc123 := Dag.cell_of_heap hb123
                          have e123 := Dag.eval_of y123
                          obtain ⟨v124, y124, f124⟩ := hsees.new (t := 124) (j := 7) (by kernel_rfl) (by kernel_rfl)
                          obtain rfl : v124 = (.int .i64 2) := f124
                          have e124 := Dag.eval_of y124
                          refine Dag.wpOp_lit rfl ?_
                          go_simp
                          exact hK _ _ ⟨_, rfl, hb123⟩ (Ext.refl _)
                        · intro a' w' K hext hsees hK
                          obtain ⟨v125, y125, f125⟩ := hsees.new (t := 125) (j := 8) (by kernel_rfl) (by kernel_rfl)
                          obtain ⟨b125, rfl, hb125⟩ := f125
                          have hc125 := Dag.cell_of_heap hb125
                          have e125 := Dag.eval_of y125
                          refine Dag.wpOp_lit rfl ?_
                          go_simp
                          exact hK _ _ rfl (Ext.refl _)
                        · intro a' w' K hext hsees hK
                          obtain ⟨v117, y117, f117⟩ := hsees.new (t := 117) (j := 0) (by kernel_rfl) (by kernel_rfl)
                          obtain rfl : v117 = (.agg #[.int .i64 0, .int .i64 0, .int .i64 0, .int .i64 0]) := f117
                          have e117 := Dag.eval_of y117
                          obtain ⟨v118, y118, f118⟩ := hsees.new (t := 118) (j := 1) (by kernel_rfl) (by kernel_rfl)
                          obtain rfl : v118 = (.int .i64 142) := f118
                          have e118 := Dag.eval_of y118
                          obtain ⟨v122, y122, f122⟩ := hsees.new (t := 122) (j := 5) (by kernel_rfl) (by kernel_rfl)
                          obtain rfl : v122 = (.string ⟨#[]⟩) := f122
                          have e122 := Dag.eval_of y122
                          obtain ⟨v126, y126, f126⟩ := hsees.new (t := 126) (j := 9) (by kernel_rfl) (by kernel_rfl)
                          obtain rfl : v126 = (.int .i64 142) := f126
                          have e126 := Dag.eval_of y126
                          refine Dag.wpOp_lit rfl ?_
                          go_simp
                          refine (result_E _ _ _ (by decide)).mono ?_
                          rintro e w_r ⟨rfl, hx_r⟩
                          exact hK _ _ rfl hx_r
                        · intro a' w' K hext hsees hK
                          obtain ⟨v127, y127, f127⟩ := hsees.new (t := 127) (j := 10) (by kernel_rfl) (by kernel_rfl)
                          obtain rfl : v127 = (.bool true) := f127
                          have e127 := Dag.eval_of y127
                          refine Dag.wpOp_lit rfl ?_
                          go_simp
                          exact hK _ _ rfl (Ext.refl _)
                        intro vs w' hw' hv
                        have h11 : vs 11 = (.bool false) := hv 11 (by decide)
                        simp only [Dag.putL, Act.put, List.setIfInBounds_toArray, List.set_cons_zero, List.set_cons_succ, h11]
                        go_wp2_with fail
                        go_meet
                        exact ⟨rfl, (by repeat (first | exact Ext.refl _ | assumption | refine Ext.drew ?_ | refine Ext.alloc ?_ _ | refine Ext.setCell ?_ (by first | exact Nat.le_refl _ | (simp; done) | (simp; omega)) _ | refine Ext.trans ?_ (by assumption)))⟩
                      case rest =>
                        obtain ⟨rfl, hx19⟩ := hcut
                        go_wp2
                        go_roundw
                        case rel => exact ⟨3, by simp, by simp, hx2.trans (hx18.trans hx19)⟩
                        case measure => simp [intOf]
                  · go_wp2_with fail
                    go_loopw [136] (fun i wz => ∃ k : Int, (k = 0 ∨ k = 1 ∨ k = 2 ∨ k = 3 ∨ k = 4) ∧ i = .int .i64 k ∧ Ext (wq.alloc (.cells #[.int .i64 10, .int .i64 55, .int .i64 60, .int .i64 0, .int .i64 10, .int .i64 56, .int .i64 60, .int .i64 0, .int .i64 10, .int .i64 20, .int .i64 45, .int .i64 0, .int .i64 10, .int .i64 20, .int .i64 44, .int .i64 0] 23)) wz) (fun i _ => (4 - intOf i).toNat)
                    case atStart => exact ⟨0, .inl rfl, rfl, Ext.refl _⟩
                    case round =>
                      obtain ⟨wz, rfl⟩ : ∃ wz : World, wz = wr := ⟨_, rfl⟩
                      obtain ⟨k3, hk3, rfl, hx3⟩ := hrel
                      have hrw3 : ∀ i, wz.cell? ⟨wq.heap.size, i, none⟩ = _ := fun i => hx3.cells _ i (by simp)
                      have hsz3 : wq.heap.size < wz.heap.size := by have := hx3.sz; simp at this; omega
                      have hxw3 : Ext w wz := (by repeat (first | exact Ext.refl _ | assumption | refine Ext.drew ?_ | refine Ext.alloc ?_ _ | refine Ext.setCell ?_ (by first | exact Nat.le_refl _ | (simp; done) | (simp; omega)) _ | refine Ext.trans ?_ (by assumption)))
                      rcases hk3 with rfl | rfl | rfl | rfl | rfl
                      · go_upto_region 25 with fail
                        go_cut [147] (fun s147 wx => s147 = .bool false ∧ Ext wz wx)
                        case first =>
                          refine Dag.wp_region_facts [.val (.agg #[.int .i64 10, .int .i64 55, .int .i64 60, .int .i64 0]), .val (.int .i64 0), .box 4 #[.int .i64 0, .int .i64 140, .int .i64 0, .int .i64 141] 25, .val (.int .i64 0), .into 0 #[.int .i64 0, .int .i64 140, .int .i64 0, .int .i64 141] 25, .val (.int .i64 0), .val (.bool false)] [some 141, some 142, some 143, some 144, some 145, some 146, some 147] (by kernel_rfl) (by kernel_rfl) (by kernel_rfl) ⟨?_, ?_, ?_, ?_, ?_, ?_, ?_, trivial⟩ ?_
                          · intro a' w' K hext hsees hK
                            have y19 : a'.tmps[19]? = some (.pointer (some ⟨wz.heap.size, 0, none⟩)) := (hsees.old (t := 19) (by kernel_rfl) (by kernel_rfl)).trans rfl
                            have e19 := Dag.eval_of y19
                            refine Dag.wpOp_lit rfl ?_
                            have hb2 := ((BoxAt.new wz #[.int .i64 10, .int .i64 55, .int .i64 60, .int .i64 0] 23).ext ((Ext.refl _).drew.trans hext)).2
                            go_simp
                            exact hK _ _ rfl (Ext.refl _)
                          · intro a' w' K hext hsees hK
                            obtain ⟨v141, y141, f141⟩ := hsees.new (t := 141) (j := 0) (by kernel_rfl) (by kernel_rfl)
                            obtain rfl : v141 = (.agg #[.int .i64 10, .int .i64 55, .int .i64 60, .int .i64 0]) := f141
                            have e141 := Dag.eval_of y141
                            refine Dag.wpOp_lit rfl ?_
                            go_simp
                            refine (c_ku0 _).mono ?_
                            rintro e w_c ⟨rfl, hx_c⟩
                            exact hK _ _ rfl hx_c
                          · intro a' w' K hext hsees hK
                            refine Dag.wpOp_lit rfl ?_
                            go_simp
                            exact hK _ _ ⟨_, rfl, heap_new _ _⟩ ((Ext.refl _).alloc _)
                          · intro a' w' K hext hsees hK
                            have y18 : a'.tmps[18]? = some (.int .i64 0) := (hsees.old (t := 18) (by kernel_rfl) (by kernel_rfl)).trans rfl
                            have e18 := Dag.eval_of y18
                            refine Dag.wpOp_lit rfl ?_
                            go_simp
                            exact hK _ _ rfl (Ext.refl _)
                          · intro a' w' K hext hsees hK
                            obtain ⟨v143, y143, f143⟩ := hsees.new (t := 143) (j := 2) (by kernel_rfl) (by kernel_rfl)
                            obtain ⟨b143, rfl, hb143⟩ := f143
                            have hc143 := Dag.cell_of_heap hb143
                            have e143 := Dag.eval_of y143
                            obtain ⟨v144, y144, f144⟩ := hsees.new (t := 144) (j := 3) (by kernel_rfl) (by kernel_rfl)
                            obtain rfl : v144 = (.int .i64 0) := f144
                            have e144 := Dag.eval_of y144
                            refine Dag.wpOp_lit rfl ?_
                            go_simp
                            exact hK _ _ ⟨_, rfl, hb143⟩ (Ext.refl _)
                          · intro a' w' K hext hsees hK
                            obtain ⟨v145, y145, f145⟩ := hsees.new (t := 145) (j := 4) (by kernel_rfl) (by kernel_rfl)
                            obtain ⟨b145, rfl, hb145⟩ := f145
                            have hc145 := Dag.cell_of_heap hb145
                            have e145 := Dag.eval_of y145
                            refine Dag.wpOp_lit rfl ?_
                            go_simp
                            exact hK _ _ rfl (Ext.refl _)
                          · intro a' w' K hext hsees hK
                            obtain ⟨v142, y142, f142⟩ := hsees.new (t := 142) (j := 1) (by kernel_rfl) (by kernel_rfl)
                            obtain rfl : v142 = (.int .i64 0) := f142
                            have e142 := Dag.eval_of y142
                            obtain ⟨v146, y146, f146⟩ := hsees.new (t := 146) (j := 5) (by kernel_rfl) (by kernel_rfl)
                            obtain rfl : v146 = (.int .i64 0) := f146
                            have e146 := Dag.eval_of y146
                            refine Dag.wpOp_lit rfl ?_
                            go_simp
                            exact hK _ _ rfl (Ext.refl _)
                          intro vs w' hw' hv
                          have h6 : vs 6 = (.bool false) := hv 6 (by decide)
                          simp only [Dag.putL, Act.put, List.setIfInBounds_toArray, List.set_cons_zero, List.set_cons_succ, h6]
                          go_wp2_with fail
                          go_meet
                          exact ⟨rfl, (by repeat (first | exact Ext.refl _ | assumption | refine Ext.drew ?_ | refine Ext.alloc ?_ _ | refine Ext.setCell ?_ (by first | exact Nat.le_refl _ | (simp; done) | (simp; omega)) _ | refine Ext.trans ?_ (by assumption)))⟩
                        case rest =>
                          obtain ⟨rfl, hx25⟩ := hcut
                          go_wp2
                          go_roundw
                          case rel => exact ⟨1, by simp, by simp, hx3.trans hx25⟩
                          case measure => simp [intOf]
                      · go_upto_region 25 with fail
                        go_cut [147] (fun s147 wx => s147 = .bool false ∧ Ext wz wx)
                        case first =>
                          refine Dag.wp_region_facts [.val (.agg #[.int .i64 10, .int .i64 56, .int .i64 60, .int .i64 0]), .val (.int .i64 140), .box 4 #[.int .i64 0, .int .i64 140, .int .i64 0, .int .i64 141] 25, .val (.int .i64 1), .into 1 #[.int .i64 0, .int .i64 140, .int .i64 0, .int .i64 141] 25, .val (.int .i64 140), .val (.bool false)] [some 141, some 142, some 143, some 144, some 145, some 146, some 147] (by kernel_rfl) (by kernel_rfl) (by kernel_rfl) ⟨?_, ?_, ?_, ?_, ?_, ?_, ?_, trivial⟩ ?_
                          · intro a' w' K hext hsees hK
                            have y19 : a'.tmps[19]? = some (.pointer (some ⟨wz.heap.size, 0, none⟩)) := (hsees.old (t := 19) (by kernel_rfl) (by kernel_rfl)).trans rfl
                            have e19 := Dag.eval_of y19
                            refine Dag.wpOp_lit rfl ?_
                            have hb2 := ((BoxAt.new wz #[.int .i64 10, .int .i64 56, .int .i64 60, .int .i64 0] 23).ext ((Ext.refl _).drew.trans hext)).2
                            go_simp
                            exact hK _ _ rfl (Ext.refl _)
                          · intro a' w' K hext hsees hK
                            obtain ⟨v141, y141, f141⟩ := hsees.new (t := 141) (j := 0) (by kernel_rfl) (by kernel_rfl)
                            obtain rfl : v141 = (.agg #[.int .i64 10, .int .i64 56, .int .i64 60, .int .i64 0]) := f141
                            have e141 := Dag.eval_of y141
                            refine Dag.wpOp_lit rfl ?_
                            go_simp
                            refine (c_ku1 _).mono ?_
                            rintro e w_c ⟨rfl, hx_c⟩
                            exact hK _ _ rfl hx_c
                          · intro a' w' K hext hsees hK
                            refine Dag.wpOp_lit rfl ?_
                            go_simp
                            exact hK _ _ ⟨_, rfl, heap_new _ _⟩ ((Ext.refl _).alloc _)
                          · intro a' w' K hext hsees hK
                            have y18 : a'.tmps[18]? = some (.int .i64 1) := (hsees.old (t := 18) (by kernel_rfl) (by kernel_rfl)).trans rfl
                            have e18 := Dag.eval_of y18
                            refine Dag.wpOp_lit rfl ?_
                            go_simp
                            exact hK _ _ rfl (Ext.refl _)
                          · intro a' w' K hext hsees hK
                            obtain ⟨v143, y143, f143⟩ := hsees.new (t := 143) (j := 2) (by kernel_rfl) (by kernel_rfl)
                            obtain ⟨b143, rfl, hb143⟩ := f143
                            have hc143 := Dag.cell_of_heap hb143
                            have e143 := Dag.eval_of y143
                            obtain ⟨v144, y144, f144⟩ := hsees.new (t := 144) (j := 3) (by kernel_rfl) (by kernel_rfl)
                            obtain rfl : v144 = (.int .i64 1) := f144
                            have e144 := Dag.eval_of y144
                            refine Dag.wpOp_lit rfl ?_
                            go_simp
                            exact hK _ _ ⟨_, rfl, hb143⟩ (Ext.refl _)
                          · intro a' w' K hext hsees hK
                            obtain ⟨v145, y145, f145⟩ := hsees.new (t := 145) (j := 4) (by kernel_rfl) (by kernel_rfl)
                            obtain ⟨b145, rfl, hb145⟩ := f145
                            have hc145 := Dag.cell_of_heap hb145
                            have e145 := Dag.eval_of y145
                            refine Dag.wpOp_lit rfl ?_
                            go_simp
                            exact hK _ _ rfl (Ext.refl _)
                          · intro a' w' K hext hsees hK
                            obtain ⟨v142, y142, f142⟩ := hsees.new (t := 142) (j := 1) (by kernel_rfl) (by kernel_rfl)
                            obtain rfl : v142 = (.int .i64 140) := f142
                            have e142 := Dag.eval_of y142
                            obtain ⟨v146, y146, f146⟩ := hsees.new (t := 146) (j := 5) (by kernel_rfl) (by kernel_rfl)
                            obtain rfl : v146 = (.int .i64 140) := f146
                            have e146 := Dag.eval_of y146
                            refine Dag.wpOp_lit rfl ?_
                            go_simp
                            exact hK _ _ rfl (Ext.refl _)
                          intro vs w' hw' hv
                          have h6 : vs 6 = (.bool false) := hv 6 (by decide)
                          simp only [Dag.putL, Act.put, List.setIfInBounds_toArray, List.set_cons_zero, List.set_cons_succ, h6]
                          go_wp2_with fail
                          go_meet
                          exact ⟨rfl, (by repeat (first | exact Ext.refl _ | assumption | refine Ext.drew ?_ | refine Ext.alloc ?_ _ | refine Ext.setCell ?_ (by first | exact Nat.le_refl _ | (simp; done) | (simp; omega)) _ | refine Ext.trans ?_ (by assumption)))⟩
                        case rest =>
                          obtain ⟨rfl, hx25⟩ := hcut
                          go_wp2
                          go_roundw
                          case rel => exact ⟨2, by simp, by simp, hx3.trans hx25⟩
                          case measure => simp [intOf]
                      · go_upto_region 25 with fail
                        go_cut [147] (fun s147 wx => s147 = .bool false ∧ Ext wz wx)
                        case first =>
                          refine Dag.wp_region_facts [.val (.agg #[.int .i64 10, .int .i64 20, .int .i64 45, .int .i64 0]), .val (.int .i64 0), .box 4 #[.int .i64 0, .int .i64 140, .int .i64 0, .int .i64 141] 25, .val (.int .i64 2), .into 2 #[.int .i64 0, .int .i64 140, .int .i64 0, .int .i64 141] 25, .val (.int .i64 0), .val (.bool false)] [some 141, some 142, some 143, some 144, some 145, some 146, some 147] (by kernel_rfl) (by kernel_rfl) (by kernel_rfl) ⟨?_, ?_, ?_, ?_, ?_, ?_, ?_, trivial⟩ ?_
                          · intro a' w' K hext hsees hK
                            have y19 : a'.tmps[19]? = some (.pointer (some ⟨wz.heap.size, 0, none⟩)) := (hsees.old (t := 19) (by kernel_rfl) (by kernel_rfl)).trans rfl
                            have e19 := Dag.eval_of y19
                            refine Dag.wpOp_lit rfl ?_
                            have hb2 := ((BoxAt.new wz #[.int .i64 10, .int .i64 20, .int .i64 45, .int .i64 0] 23).ext ((Ext.refl _).drew.trans hext)).2
                            go_simp
                            exact hK _ _ rfl (Ext.refl _)
                          · intro a' w' K hext hsees hK
                            obtain ⟨v141, y141, f141⟩ := hsees.new (t := 141) (j := 0) (by kernel_rfl) (by kernel_rfl)
                            obtain rfl : v141 = (.agg #[.int .i64 10, .int .i64 20, .int .i64 45, .int .i64 0]) := f141
                            have e141 := Dag.eval_of y141
                            refine Dag.wpOp_lit rfl ?_
                            go_simp
                            refine (c_ku2 _).mono ?_
                            rintro e w_c ⟨rfl, hx_c⟩
                            exact hK _ _ rfl hx_c
                          · intro a' w' K hext hsees hK
                            refine Dag.wpOp_lit rfl ?_
                            go_simp
                            exact hK _ _ ⟨_, rfl, heap_new _ _⟩ ((Ext.refl _).alloc _)
                          · intro a' w' K hext hsees hK
                            have y18 : a'.tmps[18]? = some (.int .i64 2) := (hsees.old (t := 18) (by kernel_rfl) (by kernel_rfl)).trans rfl
                            have e18 := Dag.eval_of y18
                            refine Dag.wpOp_lit rfl ?_
                            go_simp
                            exact hK _ _ rfl (Ext.refl _)
                          · intro a' w' K hext hsees hK
                            obtain ⟨v143, y143, f143⟩ := hsees.new (t := 143) (j := 2) (by kernel_rfl) (by kernel_rfl)
                            obtain ⟨b143, rfl, hb143⟩ := f143
                            have hc143 := Dag.cell_of_heap hb143
                            have e143 := Dag.eval_of y143
                            obtain ⟨v144, y144, f144⟩ := hsees.new (t := 144) (j := 3) (by kernel_rfl) (by kernel_rfl)
                            obtain rfl : v144 = (.int .i64 2) := f144
                            have e144 := Dag.eval_of y144
                            refine Dag.wpOp_lit rfl ?_
                            go_simp
                            exact hK _ _ ⟨_, rfl, hb143⟩ (Ext.refl _)
                          · intro a' w' K hext hsees hK
                            obtain ⟨v145, y145, f145⟩ := hsees.new (t := 145) (j := 4) (by kernel_rfl) (by kernel_rfl)
                            obtain ⟨b145, rfl, hb145⟩ := f145
                            have hc145 := Dag.cell_of_heap hb145
                            have e145 := Dag.eval_of y145
                            refine Dag.wpOp_lit rfl ?_
                            go_simp
                            exact hK _ _ rfl (Ext.refl _)
                          · intro a' w' K hext hsees hK
                            obtain ⟨v142, y142, f142⟩ := hsees.new (t := 142) (j := 1) (by kernel_rfl) (by kernel_rfl)
                            obtain rfl : v142 = (.int .i64 0) := f142
                            have e142 := Dag.eval_of y142
                            obtain ⟨v146, y146, f146⟩ := hsees.new (t := 146) (j := 5) (by kernel_rfl) (by kernel_rfl)
                            obtain rfl : v146 = (.int .i64 0) := f146
                            have e146 := Dag.eval_of y146
                            refine Dag.wpOp_lit rfl ?_
                            go_simp
                            exact hK _ _ rfl (Ext.refl _)
                          intro vs w' hw' hv
                          have h6 : vs 6 = (.bool false) := hv 6 (by decide)
                          simp only [Dag.putL, Act.put, List.setIfInBounds_toArray, List.set_cons_zero, List.set_cons_succ, h6]
                          go_wp2_with fail
                          go_meet
                          exact ⟨rfl, (by repeat (first | exact Ext.refl _ | assumption | refine Ext.drew ?_ | refine Ext.alloc ?_ _ | refine Ext.setCell ?_ (by first | exact Nat.le_refl _ | (simp; done) | (simp; omega)) _ | refine Ext.trans ?_ (by assumption)))⟩
                        case rest =>
                          obtain ⟨rfl, hx25⟩ := hcut
                          go_wp2
                          go_roundw
                          case rel => exact ⟨3, by simp, by simp, hx3.trans hx25⟩
                          case measure => simp [intOf]
                      · go_upto_region 25 with fail
                        go_cut [147] (fun s147 wx => s147 = .bool false ∧ Ext wz wx)
                        case first =>
                          refine Dag.wp_region_facts [.val (.agg #[.int .i64 10, .int .i64 20, .int .i64 44, .int .i64 0]), .val (.int .i64 141), .box 4 #[.int .i64 0, .int .i64 140, .int .i64 0, .int .i64 141] 25, .val (.int .i64 3), .into 3 #[.int .i64 0, .int .i64 140, .int .i64 0, .int .i64 141] 25, .val (.int .i64 141), .val (.bool false)] [some 141, some 142, some 143, some 144, some 145, some 146, some 147] (by kernel_rfl) (by kernel_rfl) (by kernel_rfl) ⟨?_, ?_, ?_, ?_, ?_, ?_, ?_, trivial⟩ ?_
                          · intro a' w' K hext hsees hK
                            have y19 : a'.tmps[19]? = some (.pointer (some ⟨wz.heap.size, 0, none⟩)) := (hsees.old (t := 19) (by kernel_rfl) (by kernel_rfl)).trans rfl
                            have e19 := Dag.eval_of y19
                            refine Dag.wpOp_lit rfl ?_
                            have hb2 := ((BoxAt.new wz #[.int .i64 10, .int .i64 20, .int .i64 44, .int .i64 0] 23).ext ((Ext.refl _).drew.trans hext)).2
                            go_simp
                            exact hK _ _ rfl (Ext.refl _)
                          · intro a' w' K hext hsees hK
                            obtain ⟨v141, y141, f141⟩ := hsees.new (t := 141) (j := 0) (by kernel_rfl) (by kernel_rfl)
                            obtain rfl : v141 = (.agg #[.int .i64 10, .int .i64 20, .int .i64 44, .int .i64 0]) := f141
                            have e141 := Dag.eval_of y141
                            refine Dag.wpOp_lit rfl ?_
                            go_simp
                            refine (c_ku3 _).mono ?_
                            rintro e w_c ⟨rfl, hx_c⟩
                            exact hK _ _ rfl hx_c
                          · intro a' w' K hext hsees hK
                            refine Dag.wpOp_lit rfl ?_
                            go_simp
                            exact hK _ _ ⟨_, rfl, heap_new _ _⟩ ((Ext.refl _).alloc _)
                          · intro a' w' K hext hsees hK
                            have y18 : a'.tmps[18]? = some (.int .i64 3) := (hsees.old (t := 18) (by kernel_rfl) (by kernel_rfl)).trans rfl
                            have e18 := Dag.eval_of y18
                            refine Dag.wpOp_lit rfl ?_
                            go_simp
                            exact hK _ _ rfl (Ext.refl _)
                          · intro a' w' K hext hsees hK
                            obtain ⟨v143, y143, f143⟩ := hsees.new (t := 143) (j := 2) (by kernel_rfl) (by kernel_rfl)
                            obtain ⟨b143, rfl, hb143⟩ := f143
                            have hc143 := Dag.cell_of_heap hb143
                            have e143 := Dag.eval_of y143
                            obtain ⟨v144, y144, f144⟩ := hsees.new (t := 144) (j := 3) (by kernel_rfl) (by kernel_rfl)
                            obtain rfl : v144 = (.int .i64 3) := f144
                            have e144 := Dag.eval_of y144
                            refine Dag.wpOp_lit rfl ?_
                            go_simp
                            exact hK _ _ ⟨_, rfl, hb143⟩ (Ext.refl _)
                          · intro a' w' K hext hsees hK
                            obtain ⟨v145, y145, f145⟩ := hsees.new (t := 145) (j := 4) (by kernel_rfl) (by kernel_rfl)
                            obtain ⟨b145, rfl, hb145⟩ := f145
                            have hc145 := Dag.cell_of_heap hb145
                            have e145 := Dag.eval_of y145
                            refine Dag.wpOp_lit rfl ?_
                            go_simp
                            exact hK _ _ rfl (Ext.refl _)
                          · intro a' w' K hext hsees hK
                            obtain ⟨v142, y142, f142⟩ := hsees.new (t := 142) (j := 1) (by kernel_rfl) (by kernel_rfl)
                            obtain rfl : v142 = (.int .i64 141) := f142
                            have e142 := Dag.eval_of y142
                            obtain ⟨v146, y146, f146⟩ := hsees.new (t := 146) (j := 5) (by kernel_rfl) (by kernel_rfl)
                            obtain rfl : v146 = (.int .i64 141) := f146
                            have e146 := Dag.eval_of y146
                            refine Dag.wpOp_lit rfl ?_
                            go_simp
                            exact hK _ _ rfl (Ext.refl _)
                          intro vs w' hw' hv
                          have h6 : vs 6 = (.bool false) := hv 6 (by decide)
                          simp only [Dag.putL, Act.put, List.setIfInBounds_toArray, List.set_cons_zero, List.set_cons_succ, h6]
                          go_wp2_with fail
                          go_meet
                          exact ⟨rfl, (by repeat (first | exact Ext.refl _ | assumption | refine Ext.drew ?_ | refine Ext.alloc ?_ _ | refine Ext.setCell ?_ (by first | exact Nat.le_refl _ | (simp; done) | (simp; omega)) _ | refine Ext.trans ?_ (by assumption)))⟩
                        case rest =>
                          obtain ⟨rfl, hx25⟩ := hcut
                          go_wp2
                          go_roundw
                          case rel => exact ⟨4, by simp, by simp, hx3.trans hx25⟩
                          case measure => simp [intOf]
                      · go_wp2
                        go_ret
                        exact ⟨rfl, hxw3⟩
end Go.Proofs.YtdpjkocpdomkbaaGreatDoor
