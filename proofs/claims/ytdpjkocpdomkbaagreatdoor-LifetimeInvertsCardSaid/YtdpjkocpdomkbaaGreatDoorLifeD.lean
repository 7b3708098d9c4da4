/- The contract of lifetime.Decode. Bytes of at most 2^47. -/
import Derived.Test.YtdpjkocpdomkbaaGreatDoorLifeC
namespace Go.Proofs.YtdpjkocpdomkbaaGreatDoor
open Go.RowKit
theorem Ext.drewN {a b : World} (h : Ext a b) (n : Nat) : Ext a (b.drewN n) := h.trans (ext_drewN b n)
/-- The times of an encoding and the error. -/
def decodeR (bs : List UInt8) : (Nat × Nat × Nat × Nat) × Int :=
  if (bodyR bs 0).1 = 0 then if (bodyR bs 0).2.2 < bs.length then ((0, 0, 0, 0), 5) else ((bodyR bs 0).2.1, 0) else ((0, 0, 0, 0), (bodyR bs 0).1)
theorem decodeR_ok {bs : List UInt8} {x : Nat × Nat × Nat × Nat} {q : Nat} (h : bodyR bs 0 = (0, x, q)) : decodeR bs = if q < bs.length then ((0, 0, 0, 0), 5) else (x, 0) := by unfold decodeR; rw [h]; rfl
theorem decodeR_no {bs : List UInt8} {x : Nat × Nat × Nat × Nat} {q : Nat} {er : Int} (h : bodyR bs 0 = (er, x, q)) (hne : er ≠ 0) : decodeR bs = ((0, 0, 0, 0), er) := by unfold decodeR; rw [h]; exact if_neg hne
def DecPost (bs : List UInt8) (w : World) (e : Ending) (w' : World) : Prop :=
  ∃ (a s t r : Nat) (er : Int), decodeR bs = ((a, s, t, r), er) ∧ e = .returned (.tuple #[.agg #[.int .i64 (a : Int), .int .i64 (s : Int), .int .i64 (t : Int), .int .i64 (r : Int)], .int .i64 er]) ∧ Ext w w'
set_option maxRecDepth 8000 in
set_option maxHeartbeats 3200000 in
theorem decode_any (A : Option Addr) (bs : List UInt8) (L c : Nat) (w : World) (hB : BSw w A bs) (hL : bs.length = L) (hb : L ≤ 140737488355328) :
    Calls Tryz.prog 14 #[.slice A L c] w (DecPost bs w) := by
  have HB := Lib.hid (hB.ext ((Ext.refl w).alloc (.cells #[.int .i64 0, .int .i64 0, .int .i64 0, .int .i64 0] 23)))
  have HL := Lib.hid hL
  clear hB hL
  go_enter Tryz.func14, Tryz.ntmps14
  go_wp2_with fail
  (go_at_call 34; (with_reducible refine (new_any A bs L c _ HB.out HL.out hb).mono ?_); rintro e w1 ⟨R, A', c', rfl, hrd, hx, hR⟩)
  have K0 := Lib.hid (hx.heap (heap_new w (.cells #[.int .i64 0, .int .i64 0, .int .i64 0, .int .i64 0] 23)))
  have X1 := Lib.hid (((Ext.refl w).alloc _).trans hx)
  simp at hR
  clear hx
  go_wp2_with fail
  (go_at_call 35; (with_reducible refine (read_any R A' bs c' 0 _ hrd).mono ?_); rintro e w2 ⟨hg, (⟨a, s, t, r, q, hbd, rfl, hrd2⟩ | ⟨er, hbd, hne, rfl, hrd2⟩)⟩)
  · have hq := hrd2.2.2.2.2
    have K1 := hg.heap K0.out (by omega)
    have X2 := Lib.hid (hg.ext X1.out (by omega))
    have hD := decodeR_ok hbd
    obtain ⟨k0, k1, k2, k3, f0, f1, f2, f3⟩ := four_cells K1
    have HK := Lib.hid K1
    have HR := hrd2.ext ((Ext.refl w2).alloc (.cells #[.int .i64 (a : Int), .int .i64 (s : Int), .int .i64 (t : Int), .int .i64 (r : Int)] 23))
    have hlt : w.heap.size < w2.heap.size := (Array.getElem?_eq_some_iff.1 K1).1
    clear hg hbd hrd hrd2 K1
    have hX := X2.out
    by_cases hql : q < bs.length
    · have HD := Lib.hid (hD.trans (if_pos hql))
      clear hD
      go_wp2_with (go_at_call 36; (with_reducible refine (rleft_any R A' bs c' q _ HR).mono ?_); rintro e w' ⟨rfl, n1, rfl⟩)
      refine bodyPost_ret (v := .tuple #[.agg #[.int .i64 0, .int .i64 0, .int .i64 0, .int .i64 0], .int .i64 5]) (by simp [results, Tryz.results14, go_sem, k0, k1, k2, k3, hlt]) rfl ⟨_, _, _, _, _, HD.out, rfl, (by repeat (first | exact Ext.refl _ | assumption | refine Ext.drew ?_ | refine Ext.drewN ?_ _ | refine Ext.alloc ?_ _ | refine Ext.setCell ?_ (by first | exact Nat.le_refl _ | (simp; done) | (simp; omega)) _ | refine Ext.trans ?_ (by assumption)))⟩
    · have HD := Lib.hid (hD.trans (if_neg hql))
      clear hD
      go_wp2_with (go_at_call 36; (with_reducible refine (rleft_any R A' bs c' q _ HR).mono ?_); rintro e w' ⟨rfl, n1, rfl⟩)
      refine bodyPost_ret (v := .tuple #[.agg #[.int .i64 (a : Int), .int .i64 (s : Int), .int .i64 (t : Int), .int .i64 (r : Int)], .int .i64 0]) (by simp [results, Tryz.results14, go_sem, k0, k1, k2, k3, hlt]) rfl ⟨_, _, _, _, _, HD.out, rfl, (by repeat (first | exact Ext.refl _ | assumption | refine Ext.drew ?_ | refine Ext.drewN ?_ _ | refine Ext.alloc ?_ _ | refine Ext.setCell ?_ (by first | exact Nat.le_refl _ | (simp; done) | (simp; omega)) _ | refine Ext.trans ?_ (by assumption)))⟩
  · have K1 := hg.heap K0.out (by omega)
    have X2 := Lib.hid (hg.ext X1.out (by omega))
    have HD := Lib.hid (decodeR_no hbd hne)
    obtain ⟨k0, k1, k2, k3, f0, f1, f2, f3⟩ := four_cells K1
    have hlt : w.heap.size < w2.heap.size := (Array.getElem?_eq_some_iff.1 K1).1
    have d1 : ((er : Int) == 0) = false := by simpa using hne
    have hX := X2.out
    clear hg hbd hrd hrd2 K1 hne
    go_wp2
    refine bodyPost_ret (v := .tuple #[.agg #[.int .i64 0, .int .i64 0, .int .i64 0, .int .i64 0], .int .i64 er]) (by simp [results, Tryz.results14, go_sem, k0, k1, k2, k3, hlt]) rfl ⟨_, _, _, _, _, HD.out, rfl, (by repeat (first | exact Ext.refl _ | assumption | refine Ext.drew ?_ | refine Ext.drewN ?_ _ | refine Ext.alloc ?_ _ | refine Ext.setCell ?_ (by first | exact Nat.le_refl _ | (simp; done) | (simp; omega)) _ | refine Ext.trans ?_ (by assumption)))⟩
end Go.Proofs.YtdpjkocpdomkbaaGreatDoor
