/- The contract of the reference's Decode of times. Bytes of at most 2^47. -/
import Derived.Test.YtdpjkocpdomkbaaDoorRefLife
import Derived.Test.YtdpjkocpdomkbaaDoorLifeD
namespace Go.Proofs.YtdpjkocpdomkbaaDoor
open Go.RowKit
theorem rRead13_z (A : Option Addr) (bs : List UInt8) (L c : Nat) (w : World) (hB : BSw w A bs) (hL : bs.length = L) (hb : L ≤ 140737488355328) (hcap : L ≤ c) :
    Calls Tryd.prog 31 #[.slice A L c, .int .i64 0] w (RRead13Post bs 0 w) := rRead13_any A bs L c 0 w hB hL hb hcap
set_option maxRecDepth 8000 in
set_option maxHeartbeats 3200000 in
theorem rDecode13_any (A : Option Addr) (bs : List UInt8) (L c : Nat) (w : World) (hB : BSw w A bs) (hL : bs.length = L) (hb : L ≤ 140737488355328) (hcap : L ≤ c) :
    Calls Tryd.prog 28 #[.slice A L c] w (DecPost bs w) := by
  have HB := Lib.hid (hB.ext ((Ext.refl w).alloc (.cells #[.int .i64 0, .int .i64 0, .int .i64 0, .int .i64 0] 27)))
  have HL := Lib.hid hL
  clear hB hL
  go_enter Tryd.func28, Tryd.ntmps28
  go_wp2_with fail
  (go_at_call 31; (with_reducible refine (rRead13_z A bs L c _ HB.out HL.out hb hcap).mono ?_); rintro e w2 ⟨hx, (⟨a, s, t, r, q, hbd, rfl⟩ | ⟨er, hbd, hne, rfl⟩)⟩)
  all_goals
    have K1 := hx.heap (heap_new w (.cells #[.int .i64 0, .int .i64 0, .int .i64 0, .int .i64 0] 27))
    have X2 : Ext w w2 := ((Ext.refl w).alloc _).trans hx
    obtain ⟨k0, k1, k2, k3, f0, f1, f2, f3⟩ := four_cells K1
    have hlt : w.heap.size < w2.heap.size := (Array.getElem?_eq_some_iff.1 K1).1
    clear hx K1
  · have hD := decodeR_ok hbd
    by_cases hql : q < bs.length
    · have HD := Lib.hid (hD.trans (if_pos hql))
      have e1 : (q : Int) < (L : Int) := by rw [HL.out] at hql; omega
      clear hD hbd hql
      go_wp2
      refine bodyPost_ret (v := .tuple #[.agg #[.int .i64 0, .int .i64 0, .int .i64 0, .int .i64 0], .int .i64 5]) (by simp [results, Tryd.results28, go_sem, k0, k1, k2, k3, hlt]) rfl ⟨_, _, _, _, _, HD.out, rfl, (by repeat (first | exact Ext.refl _ | assumption | refine Ext.drew ?_ | refine Ext.drewN ?_ _ | refine Ext.alloc ?_ _ | refine Ext.setCell ?_ (by first | exact Nat.le_refl _ | (simp; done) | (simp; omega)) _ | refine Ext.trans ?_ (by assumption)))⟩
    · have HD := Lib.hid (hD.trans (if_neg hql))
      have e1 : ¬ (q : Int) < (L : Int) := by rw [HL.out] at hql; omega
      clear hD hbd hql
      go_wp2
      refine bodyPost_ret (v := .tuple #[.agg #[.int .i64 (a : Int), .int .i64 (s : Int), .int .i64 (t : Int), .int .i64 (r : Int)], .int .i64 0]) (by simp [results, Tryd.results28, go_sem, k0, k1, k2, k3, hlt]) rfl ⟨_, _, _, _, _, HD.out, rfl, (by repeat (first | exact Ext.refl _ | assumption | refine Ext.drew ?_ | refine Ext.drewN ?_ _ | refine Ext.alloc ?_ _ | refine Ext.setCell ?_ (by first | exact Nat.le_refl _ | (simp; done) | (simp; omega)) _ | refine Ext.trans ?_ (by assumption)))⟩
  · have HD := Lib.hid (decodeR_no hbd hne)
    have d1 : ((er : Int) == 0) = false := by simpa using hne
    clear hbd hne
    go_wp2
    refine bodyPost_ret (v := .tuple #[.agg #[.int .i64 0, .int .i64 0, .int .i64 0, .int .i64 0], .int .i64 er]) (by simp [results, Tryd.results28, go_sem, k0, k1, k2, k3, hlt]) rfl ⟨_, _, _, _, _, HD.out, rfl, (by repeat (first | exact Ext.refl _ | assumption | refine Ext.drew ?_ | refine Ext.drewN ?_ _ | refine Ext.alloc ?_ _ | refine Ext.setCell ?_ (by first | exact Nat.le_refl _ | (simp; done) | (simp; omega)) _ | refine Ext.trans ?_ (by assumption)))⟩
end Go.Proofs.YtdpjkocpdomkbaaDoor
