/- The law LifetimeDecodes: every call returns true. The table of powers of ten as the program lays it. -/
import Derived.Test.YtdpjkocpdomkbaaDoorRefLifeB
import Derived.Test.YtdpjkocpdomkbaaDoorKnown
namespace Go.Proofs.YtdpjkocpdomkbaaDoor
open Go.RowKit
theorem read_eq {R : Nat} {A : Option Addr} {bs : List UInt8} {c : Nat} {w : World} {a s t r q : Nat} {er : Int} (hb : bodyR bs 0 = (er, (a, s, t, r), q)) (h : Rd w R A bs c 0) :
    Calls Tryd.prog 30 #[.pointer (some ⟨R, 0, none⟩)] w fun e w' => e = .returned (.tuple #[.agg #[.int .i64 (a : Int), .int .i64 (s : Int), .int .i64 (t : Int), .int .i64 (r : Int)], .int .i64 er]) ∧ Rd w' R A bs c q ∧ Gr R w w' := by
  refine (read_any R A bs c 0 w h).mono fun e w' ⟨hg, hp⟩ => ?_
  rcases hp with ⟨a', s', t', r', q', h1, he, hr⟩ | ⟨er', h1, hne, he, hr⟩
  · rw [hb] at h1
    simp only [Prod.mk.injEq] at h1
    obtain ⟨rfl, ⟨rfl, rfl, rfl, rfl⟩, rfl⟩ := h1
    exact ⟨he, hr, hg⟩
  · rw [hb] at h1
    simp only [Prod.mk.injEq] at h1
    obtain ⟨rfl, ⟨rfl, rfl, rfl, rfl⟩, rfl⟩ := h1
    exact ⟨he, hr, hg⟩
theorem rRead13_eq {A : Option Addr} {bs : List UInt8} {L c : Nat} {w : World} {a s t r q : Nat} {er : Int} (h0 : bodyR bs 0 = (er, (a, s, t, r), q)) (hB : BSw w A bs) (hL : bs.length = L) (hb : L ≤ 140737488355328) (hcap : L ≤ c) :
    Calls Tryd.prog 31 #[.slice A L c, .int .i64 0] w fun e w' => e = .returned (.tuple #[.agg #[.int .i64 (a : Int), .int .i64 (s : Int), .int .i64 (t : Int), .int .i64 (r : Int)], .int .i64 (q : Int), .int .i64 er]) ∧ Ext w w' := by
  refine (rRead13_z A bs L c w hB hL hb hcap).mono fun e w' ⟨hx, hp⟩ => ?_
  rcases hp with ⟨a', s', t', r', q', h1, he⟩ | ⟨er', h1, hne, he⟩
  · rw [h0] at h1
    simp only [Prod.mk.injEq] at h1
    obtain ⟨rfl, ⟨rfl, rfl, rfl, rfl⟩, rfl⟩ := h1
    exact ⟨he, hx⟩
  · rw [h0] at h1
    simp only [Prod.mk.injEq] at h1
    obtain ⟨rfl, ⟨rfl, rfl, rfl, rfl⟩, rfl⟩ := h1
    exact ⟨he, hx⟩
theorem dec_eq {bs : List UInt8} {w : World} {e : Ending} {w' : World} {a s t r : Nat} {er : Int} (h0 : decodeR bs = ((a, s, t, r), er)) (h : DecPost bs w e w') : e = .returned (.tuple #[.agg #[.int .i64 (a : Int), .int .i64 (s : Int), .int .i64 (t : Int), .int .i64 (r : Int)], .int .i64 er]) ∧ Ext w w' := by
  obtain ⟨a', s', t', r', er', h1, he, hx⟩ := h
  rw [h0] at h1
  simp only [Prod.mk.injEq] at h1
  obtain ⟨⟨rfl, rfl, rfl, rfl⟩, rfl⟩ := h1
  exact ⟨he, hx⟩
set_option maxRecDepth 8000 in
set_option maxHeartbeats 12800000 in
theorem lawDecodes_any (A : Option Addr) (bs : List UInt8) (L c : Nat) (w : World) (hB : BSw w A bs) (hL : bs.length = L) (hcap : L ≤ c) (htab : Lib.TabIs Tryd.prog w "internal/strconv.uint64pow10" .u64 Lib.pow10Tab) :
    Calls Tryd.prog 9 #[.slice A L c] w fun e w' => e = .returned (.bool true) ∧ Ext w w' := by
  have Htab := Lib.hid htab
  have HB := Lib.hid hB
  have HL := Lib.hid hL
  clear htab hB hL
  go_enter Tryd.func9, Tryd.ntmps9
  by_cases h100 : (100 : Int) < (L : Int)
  · go_wp2_with (go_at_call 12; refine (known_any _ Htab.out).mono ?_; rintro e w_known ⟨rfl, hx_known⟩)
    go_ret
    exact ⟨rfl, hx_known⟩
  · have hb : L ≤ 140737488355328 := by omega
    rcases hD : decodeR bs with ⟨⟨a, s, t, r⟩, er⟩
    rcases hF : bodyR bs 0 with ⟨fr, ⟨x, y, z, u⟩, q⟩
    have HD := Lib.hid hD
    have HF := Lib.hid hF
    clear hD hF
    go_wp2_with fail
    (go_at_call 27; (with_reducible refine (decode_any A bs L c _ HB.out HL.out hb).mono ?_); rintro e w1 hp; obtain ⟨rfl, hx1⟩ := dec_eq HD.out hp; clear hp)
    have X1 := Lib.hid (hx1.alloc (.cells #[.int .i64 (a : Int), .int .i64 (s : Int), .int .i64 (t : Int), .int .i64 (r : Int)] 27))
    clear hx1
    go_wp2_with fail
    (go_at_call 28; (with_reducible refine (rDecode13_any A bs L c _ (HB.out.ext X1.out) HL.out hb hcap).mono ?_); rintro e w2 hp; obtain ⟨rfl, hx2⟩ := dec_eq HD.out hp; clear hp)
    have X2 := Lib.hid ((X1.out.trans hx2).alloc (.cells #[.int .i64 (a : Int), .int .i64 (s : Int), .int .i64 (t : Int), .int .i64 (r : Int)] 27))
    obtain ⟨k0, k1, k2, k3, _, _, _, _⟩ := four_cells (hx2.heap (heap_new w1 _))
    have hlt2 : w1.heap.size < w2.heap.size := by have := hx2.sz; simp at this; omega
    clear hx2
    go_wp2_with fail
    (go_at_call 29; (with_reducible refine (new_any A bs L c _ (HB.out.ext X2.out) HL.out hb).mono ?_); rintro e w3 ⟨R, A', c', rfl, hrd, hx3, hR⟩)
    have X3 := Lib.hid (X2.out.trans hx3)
    have hwR : w.heap.size ≤ R := Nat.le_trans X2.out.sz hR
    clear hx3 hlt2 k0 k1 k2 k3
    go_wp2_with fail
    (go_at_call 30; (with_reducible refine (read_eq HF.out hrd).mono ?_); rintro e w4 ⟨rfl, hrd4, hg4⟩)
    have X4 := Lib.hid ((hg4.ext X3.out hwR).alloc (.cells #[.int .i64 (x : Int), .int .i64 (y : Int), .int .i64 (z : Int), .int .i64 (u : Int)] 27))
    have hq := hrd4.2.2.2.2
    rw [HL.out] at hq
    clear hg4 hrd
    go_wp2_with fail
    (go_at_call 31; (with_reducible refine (rRead13_eq HF.out (HB.out.ext X4.out) HL.out hb hcap).mono ?_); rintro e w5 ⟨rfl, hx5⟩)
    have X5 := Lib.hid ((X4.out.trans hx5).alloc (.cells #[.int .i64 (x : Int), .int .i64 (y : Int), .int .i64 (z : Int), .int .i64 (u : Int)] 27))
    obtain ⟨k0, k1, k2, k3, _, _, _, _⟩ := four_cells (hx5.heap (heap_new w4 _))
    have hlt5 : w4.heap.size < w5.heap.size := by have := hx5.sz; simp at this; omega
    have R5 := ((hrd4.ext ((Ext.refl w4).alloc _)).ext hx5).ext ((Ext.refl w5).alloc (.cells #[.int .i64 (x : Int), .int .i64 (y : Int), .int .i64 (z : Int), .int .i64 (u : Int)] 27))
    clear hx5 hrd4
    have hbl := HL.out
    go_wp2_with (go_at_call 32; (with_reducible refine (rleft_any R A' bs c' q _ R5).mono ?_); rintro e w' ⟨rfl, n1, rfl⟩)
    clear R5 hbl k0 k1 k2 k3 hR
    have hX5 := X5.out
    (go_at_call 30; (with_reducible refine (read_nil _).mono ?_); rintro e w6 ⟨rfl, hx6⟩)
    go_wp2_with fail
    (go_at_call 30; refine (read_closed _ _ (by simp [go_sem])).mono ?_; rintro e w7 ⟨rfl, hx7⟩)
    go_wp2_with (go_at_call 12; refine (known_any _ (Ext.tab ((by repeat (first | exact Ext.refl _ | assumption | refine Ext.drew ?_ | refine Ext.drewN ?_ _ | refine Ext.alloc ?_ _ | refine Ext.setCell ?_ (by first | exact Nat.le_refl _ | (simp; done) | (simp; omega)) _ | refine Ext.trans ?_ (by assumption)))) pow10_g Htab.out)).mono ?_; rintro e w_known ⟨rfl, hx_known⟩)
    go_ret
    exact ⟨rfl, (by repeat (first | exact Ext.refl _ | assumption | refine Ext.drew ?_ | refine Ext.drewN ?_ _ | refine Ext.alloc ?_ _ | refine Ext.setCell ?_ (by first | exact Nat.le_refl _ | (simp; done) | (simp; omega)) _ | refine Ext.trans ?_ (by assumption)))⟩
end Go.Proofs.YtdpjkocpdomkbaaDoor
