/- The contract of lifetime.body. Bytes of at most 2^47. -/
import Derived.Test.YtdpjkocpdomkbaaGreatDoorLifeA
import Derived.Deep.CutBlock
namespace Go.Proofs.YtdpjkocpdomkbaaGreatDoor
open Go.RowKit
def bindR {α : Type} (x : Int × Nat × Nat) (f : Nat → Nat → Int × α × Nat) (z : α) : Int × α × Nat := if x.1 = 0 then f x.2.1 x.2.2 else (x.1, z, 0)
theorem bindR_ok {α : Type} {x : Int × Nat × Nat} {v q : Nat} {f : Nat → Nat → Int × α × Nat} {z : α} (h : x = (0, v, q)) : bindR x f z = f v q := by unfold bindR; rw [h]; rfl
theorem bindR_no {α : Type} {x : Int × Nat × Nat} {er : Int} {f : Nat → Nat → Int × α × Nat} {z : α} (h : x = (er, 0, 0)) (hne : er ≠ 0) : bindR x f z = (er, z, 0) := by unfold bindR; rw [h]; exact if_neg hne
/-- The elements of times. -/
def partsR (sub : List UInt8) (fr n : Nat) : Int × (Nat × Nat × Nat × Nat) × Nat :=
  bindR (oneR 0 true sub 0) (fun a q1 => bindR (oneR 1 true sub q1) (fun s q2 => bindR (oneR 2 true sub q2) (fun t q3 => bindR (oneR 3 false sub q3) (fun r q4 =>
    if q4 = n ∧ validT a s t r = true then (0, (a, s, t, r), fr + n) else (6, (0, 0, 0, 0), 0)) (0, 0, 0, 0)) (0, 0, 0, 0)) (0, 0, 0, 0)) (0, 0, 0, 0)
/-- The times at an offset: the error, the times, the offset behind them. -/
def bodyR (bs : List UInt8) (p : Nat) : Int × (Nat × Nat × Nat × Nat) × Nat := bindR (elR 48 bs p) (fun fr n => partsR ((bs.drop fr).take n) fr n) (0, 0, 0, 0)
def BodyPost (R : Nat) (A : Option Addr) (bs : List UInt8) (c p : Nat) (w : World) (e : Ending) (w' : World) : Prop :=
  Gr R w w' ∧ ((∃ (a s t r q : Nat), bodyR bs p = (0, (a, s, t, r), q) ∧ e = .returned (.agg #[.int .i64 (a : Int), .int .i64 (s : Int), .int .i64 (t : Int), .int .i64 (r : Int)]) ∧ Rd w' R A bs c q) ∨ (∃ er q, bodyR bs p = (er, (0, 0, 0, 0), 0) ∧ er ≠ 0 ∧ Rd w' R A bs c q ∧ e = .panicked [{ v := .iface 25 (.int .i64 er), recovered := false }]))
theorem four_cells {w : World} {b : Nat} {x0 x1 x2 x3 : Value} {T : TypeId} (h : w.heap[b]? = some (.cells #[x0, x1, x2, x3] T (0, 0))) :
    w.cell? ⟨b, 0, none⟩ = some x0 ∧ w.cell? ⟨b, 1, none⟩ = some x1 ∧ w.cell? ⟨b, 2, none⟩ = some x2 ∧ w.cell? ⟨b, 3, none⟩ = some x3 ∧ w.frozen? ⟨b, 0, none⟩ = false ∧ w.frozen? ⟨b, 1, none⟩ = false ∧ w.frozen? ⟨b, 2, none⟩ = false ∧ w.frozen? ⟨b, 3, none⟩ = false :=
  ⟨cell_heap h 0, cell_heap h 1, cell_heap h 2, cell_heap h 3, frozen_heap h 0, frozen_heap h 1, frozen_heap h 2, frozen_heap h 3⟩
theorem gr_set4 (w : World) (b : Nat) (v0 v1 v2 v3 : Value) : Gr b w ((((w.setCell ⟨b, 0, none⟩ v0).setCell ⟨b, 1, none⟩ v1).setCell ⟨b, 2, none⟩ v2).setCell ⟨b, 3, none⟩ v3) := by
  have e1 := (Gr.refl b w).setCell (p := ⟨b, 0, none⟩) (.inl rfl) v0
  have e2 := e1.setCell (p := ⟨b, 1, none⟩) (.inl rfl) v1
  have e3 := e2.setCell (p := ⟨b, 2, none⟩) (.inl rfl) v2
  exact e3.setCell (p := ⟨b, 3, none⟩) (.inl rfl) v3
theorem heap_set4 {w : World} {b : Nat} {x0 x1 x2 x3 v0 v1 v2 v3 : Value} {T : TypeId} (h : w.heap[b]? = some (.cells #[x0, x1, x2, x3] T (0, 0))) :
    ((((w.setCell ⟨b, 0, none⟩ v0).setCell ⟨b, 1, none⟩ v1).setCell ⟨b, 2, none⟩ v2).setCell ⟨b, 3, none⟩ v3).heap[b]? = some (.cells #[v0, v1, v2, v3] T (0, 0)) := by
  have e1 := set_heap (i := 0) h v0
  have e2 := set_heap (i := 1) e1 v1
  have e3 := set_heap (i := 2) e2 v2
  exact set_heap (i := 3) e3 v3
set_option maxRecDepth 8000 in
set_option maxHeartbeats 6400000 in
theorem body_any (R : Nat) (A : Option Addr) (bs : List UInt8) (c p : Nat) (w : World) (h : Rd w R A bs c p) :
    Calls Tryz.prog 60 #[.pointer (some ⟨R, 0, none⟩)] w (BodyPost R A bs c p w) := by
  have hlt := h.lt
  have h0 := h.ext ((Ext.refl w).alloc (.cells #[.int .i64 0, .int .i64 0, .int .i64 0, .int .i64 0] 23))
  have k0 := heap_new w (.cells #[.int .i64 0, .int .i64 0, .int .i64 0, .int .i64 0] 23)
  have g0 : Gr R w (w.alloc (.cells #[.int .i64 0, .int .i64 0, .int .i64 0, .int .i64 0] 23)) := (Gr.refl R w).alloc _
  have H0 := Lib.hid h0
  have K0 := Lib.hid k0
  have G0 := Lib.hid g0
  clear h h0 k0 g0
  go_enter Tryz.func60, Tryz.ntmps60
  go_wp2_with fail
  (go_at_call 83; (with_reducible refine (sequence_any R A bs c p _ H0.out).mono ?_); rintro e w1 (⟨fr, n, R', A', c', hr, rfl, hrd', hR', hfn, hrd, hg⟩ | ⟨er, hr, hne, rfl, hx⟩))
  · have HB := Lib.hid (bindR_ok (f := fun fr n => partsR ((bs.drop fr).take n) fr n) (z := (0, 0, 0, 0)) hr)
    have hln : ((bs.drop fr).take n).length = n := by simp; omega
    have Hln := Lib.hid hln
    clear hln hr
    generalize (bs.drop fr).take n = sub at *
    simp at hR'
    have K1 := Lib.hid (hg.heap K0.out (by omega))
    have G1 := Lib.hid (G0.out.trans hg)
    have R1 := Lib.hid hrd
    have T1 := Lib.hid hrd'
    have s1 : w.heap.size + 1 ≤ w1.heap.size := by have := hg.size; simp at this; omega
    clear hg hrd hrd'
    go_wp2_with (first | (go_at_call 82; (with_reducible refine (mustR_ok _ _).mono ?_); rintro e w' ⟨rfl, rfl⟩))
    (go_at_call 84; (with_reducible refine (one_any 0 true (by decide) (by decide) R' A' sub c' 0 _ T1.out).mono ?_); rintro e w2 ⟨hg, (⟨a, q1, hr, rfl, hrd'⟩ | ⟨er, hr, hne, rfl⟩)⟩)
    rotate_left
    · have HO := Lib.hid (HB.out.trans (bindR_no hr hne))
      have G2 := Lib.hid (Gr.of_new G1.out hg (by omega))
      have R2 := Lib.hid (R1.out.gr hg (by omega) T1.out.type (by decide))
      clear hr hg
      go_wp2
      exact ⟨rfl, G2.out, .inr ⟨_, _, HO.out, hne, R2.out, rfl⟩⟩
    have HP1 := Lib.hid (HB.out.trans (bindR_ok hr))
    have K2 := Lib.hid (hg.heap K1.out (by omega))
    have G2 := Lib.hid (Gr.of_new G1.out hg (by omega))
    have R2 := Lib.hid (R1.out.gr hg (by omega) T1.out.type (by decide))
    have T2 := Lib.hid hrd'
    have s2 : w.heap.size + 1 ≤ w2.heap.size := Nat.le_trans s1 hg.size
    clear hg hrd' hr
    go_wp2_with fail
    (go_at_call 84; (with_reducible refine (one_any 1 true (by decide) (by decide) R' A' sub c' q1 _ T2.out).mono ?_); rintro e w3 ⟨hg, (⟨s, q2, hr, rfl, hrd'⟩ | ⟨er, hr, hne, rfl⟩)⟩)
    rotate_left
    · have HO := Lib.hid (HP1.out.trans (bindR_no hr hne))
      have G3 := Lib.hid (Gr.of_new G2.out hg (by omega))
      have R3 := Lib.hid (R2.out.gr hg (by omega) T2.out.type (by decide))
      clear hr hg
      go_wp2
      exact ⟨rfl, G3.out, .inr ⟨_, _, HO.out, hne, R3.out, rfl⟩⟩
    have HP2 := Lib.hid (HP1.out.trans (bindR_ok hr))
    have K3 := Lib.hid (hg.heap K2.out (by omega))
    have G3 := Lib.hid (Gr.of_new G2.out hg (by omega))
    have R3 := Lib.hid (R2.out.gr hg (by omega) T2.out.type (by decide))
    have T3 := Lib.hid hrd'
    have s3 : w.heap.size + 1 ≤ w3.heap.size := Nat.le_trans s2 hg.size
    clear hg hrd' hr
    go_wp2_with fail
    (go_at_call 84; (with_reducible refine (one_any 2 true (by decide) (by decide) R' A' sub c' q2 _ T3.out).mono ?_); rintro e w4 ⟨hg, (⟨t, q3, hr, rfl, hrd'⟩ | ⟨er, hr, hne, rfl⟩)⟩)
    rotate_left
    · have HO := Lib.hid (HP2.out.trans (bindR_no hr hne))
      have G4 := Lib.hid (Gr.of_new G3.out hg (by omega))
      have R4 := Lib.hid (R3.out.gr hg (by omega) T3.out.type (by decide))
      clear hr hg
      go_wp2
      exact ⟨rfl, G4.out, .inr ⟨_, _, HO.out, hne, R4.out, rfl⟩⟩
    have HP3 := Lib.hid (HP2.out.trans (bindR_ok hr))
    have K4 := Lib.hid (hg.heap K3.out (by omega))
    have G4 := Lib.hid (Gr.of_new G3.out hg (by omega))
    have R4 := Lib.hid (R3.out.gr hg (by omega) T3.out.type (by decide))
    have T4 := Lib.hid hrd'
    have s4 : w.heap.size + 1 ≤ w4.heap.size := Nat.le_trans s3 hg.size
    clear hg hrd' hr
    go_wp2_with fail
    (go_at_call 84; (with_reducible refine (one_any 3 false (by decide) (by decide) R' A' sub c' q3 _ T4.out).mono ?_); rintro e w5 ⟨hg, (⟨r, q4, hr, rfl, hrd'⟩ | ⟨er, hr, hne, rfl⟩)⟩)
    rotate_left
    · have HO := Lib.hid (HP3.out.trans (bindR_no hr hne))
      have G5 := Lib.hid (Gr.of_new G4.out hg (by omega))
      have R5 := Lib.hid (R4.out.gr hg (by omega) T4.out.type (by decide))
      clear hr hg
      go_wp2
      exact ⟨rfl, G5.out, .inr ⟨_, _, HO.out, hne, R5.out, rfl⟩⟩
    have HP4 := Lib.hid (HP3.out.trans (bindR_ok hr))
    have K5 := Lib.hid (hg.heap K4.out (by omega))
    have G5 := Lib.hid (Gr.of_new G4.out hg (by omega))
    have R5 := Lib.hid (R4.out.gr hg (by omega) T4.out.type (by decide))
    have T5 := Lib.hid hrd'
    have s5 : w.heap.size + 1 ≤ w5.heap.size := Nat.le_trans s4 hg.size
    clear hg hrd' hr
    go_wp2_with fail
    have W6 := Lib.hid ((Ext.refl w5).alloc (.cells #[.int .i64 (a : Int), .int .i64 (s : Int), .int .i64 (t : Int), .int .i64 (r : Int)] 23))
    have k0 := cell_heap K5.out 0
    have k1 := cell_heap K5.out 1
    have k2 := cell_heap K5.out 2
    have k3 := cell_heap K5.out 3
    have f0 := frozen_heap K5.out 0
    have f1 := frozen_heap K5.out 1
    have f2 := frozen_heap K5.out 2
    have f3 := frozen_heap K5.out 3
    simp at k0 k1 k2 k3
    clear HB HP1 HP2 HP3 K0 K1 K2 K3 K4 G0 G1 G2 G3 G4 H0 R1 R2 R3 R4 T1 T2 T3 T4
    by_cases hq : q4 = sub.length
    · have d1 : ((sub.length : Int) - (q4 : Int) == 0) = true := by simp; omega
      have HQ := Lib.hid (hq.trans Hln.out)
      clear hq
      cases hv : validT a s t r
      · have HO := Lib.hid (HP4.out.trans (if_neg (fun h => by rw [hv] at h; cases h.2)))
        have HV := Lib.hid hv
        clear hv
        go_wp2_with (first | (go_at_call 36; (with_reducible refine (rleft_any R' A' sub c' q4 _ (T5.out.ext W6.out)).mono ?_); rintro e w' ⟨rfl, n1, rfl⟩) | (go_at_call 13; (with_reducible refine (valid_any _ _ _ _ _).mono ?_); rintro e wv ⟨rfl, hxv⟩; rw [HV.out]) | (go_at_call 85; (with_reducible refine (fine_f _).mono ?_); rintro e w' ⟨rfl, rfl⟩))
        exact ⟨rfl, G5.out.trans (Gr.of_ext ((W6.out.trans (ext_drewN _ _)).trans hxv)), .inr ⟨_, _, HO.out, by decide, R5.out.ext ((W6.out.trans (ext_drewN _ _)).trans hxv), rfl⟩⟩
      · have HO := Lib.hid (HP4.out.trans (if_pos ⟨HQ.out, hv⟩))
        have HV := Lib.hid hv
        clear hv
        go_wp2_with (first | (go_at_call 36; (with_reducible refine (rleft_any R' A' sub c' q4 _ (T5.out.ext W6.out)).mono ?_); rintro e w' ⟨rfl, n1, rfl⟩) | (go_at_call 13; (with_reducible refine (valid_any _ _ _ _ _).mono ?_); rintro e wv ⟨rfl, hxv⟩; rw [HV.out]; have KV := Lib.hid (hxv.heap ((ext_drewN _ _).heap (W6.out.heap K5.out))); obtain ⟨a0, a1, a2, a3, z0, z1, z2, z3⟩ := four_cells KV.out; obtain ⟨b0, b1, b2, b3, _, _, _, _⟩ := four_cells (hxv.heap ((ext_drewN _ _).heap (heap_new w5 _)))) | (go_at_call 85; (with_reducible refine (fine_t _).mono ?_); rintro e w' ⟨rfl, rfl⟩))
        have gv : Gr R w wv := G5.out.trans (Gr.of_ext ((W6.out.trans (ext_drewN _ _)).trans hxv))
        have rv : Rd wv R A bs c (fr + n) := R5.out.ext ((W6.out.trans (ext_drewN _ _)).trans hxv)
        have hx9 : Gr w.heap.size wv ((((wv.setCell ⟨w.heap.size, 0, none⟩ (.int .i64 (a : Int))).setCell ⟨w.heap.size, 1, none⟩ (.int .i64 (s : Int))).setCell ⟨w.heap.size, 2, none⟩ (.int .i64 (t : Int))).setCell ⟨w.heap.size, 3, none⟩ (.int .i64 (r : Int))) :=
          gr_set4 _ _ _ _ _ _
        have rv2 := Lib.hid (rv.gr hx9 (by omega) ⟨_, _, KV.out⟩ (by decide))
        have gv2 := Lib.hid (Gr.of_new gv hx9 (Nat.le_refl _))
        have r9 : ((((wv.setCell ⟨w.heap.size, 0, none⟩ (.int .i64 (a : Int))).setCell ⟨w.heap.size, 1, none⟩ (.int .i64 (s : Int))).setCell ⟨w.heap.size, 2, none⟩ (.int .i64 (t : Int))).setCell ⟨w.heap.size, 3, none⟩ (.int .i64 (r : Int))).heap[w.heap.size]? = some (.cells #[.int .i64 (a : Int), .int .i64 (s : Int), .int .i64 (t : Int), .int .i64 (r : Int)] 23 (0, 0)) :=
          heap_set4 KV.out
        obtain ⟨y0, y1, y2, y3, _, _, _, _⟩ := four_cells r9
        clear gv rv hx9 hxv r9 a0 a1 a2 a3 b0 b1 b2 b3 z0 z1 z2 z3 k0 k1 k2 k3 f0 f1 f2 f3
        generalize (((wv.setCell ⟨w.heap.size, 0, none⟩ (.int .i64 (a : Int))).setCell ⟨w.heap.size, 1, none⟩ (.int .i64 (s : Int))).setCell ⟨w.heap.size, 2, none⟩ (.int .i64 (t : Int))).setCell ⟨w.heap.size, 3, none⟩ (.int .i64 (r : Int)) = w9 at *
        refine bodyPost_ret (v := .agg #[.int .i64 (a : Int), .int .i64 (s : Int), .int .i64 (t : Int), .int .i64 (r : Int)]) (by simp [results, Tryz.results60, go_sem, y0, y1, y2, y3]) rfl ?_
        exact ⟨gv2.out, .inl ⟨_, _, _, _, _, HO.out, rfl, rv2.out⟩⟩
    · have d1 : ((sub.length : Int) - (q4 : Int) == 0) = false := by simp; omega
      have HO := Lib.hid (HP4.out.trans (if_neg (fun h => hq (h.1.trans Hln.out.symm))))
      clear hq
      go_wp2_with (first | (go_at_call 36; (with_reducible refine (rleft_any R' A' sub c' q4 _ (T5.out.ext W6.out)).mono ?_); rintro e w' ⟨rfl, n1, rfl⟩) | (go_at_call 85; (with_reducible refine (fine_f _).mono ?_); rintro e w' ⟨rfl, rfl⟩))
      exact ⟨rfl, G5.out.trans (Gr.of_ext (W6.out.trans (ext_drewN _ _))), .inr ⟨_, _, HO.out, by decide, R5.out.ext (W6.out.trans (ext_drewN _ _)), rfl⟩⟩
  · have HO := Lib.hid (bindR_no (f := fun fr n => partsR ((bs.drop fr).take n) fr n) (z := (0, 0, 0, 0)) hr hne)
    clear hr
    go_wp2_with (first | (go_at_call 82; (with_reducible refine (mustR_no _ _ hne _).mono ?_); rintro e w' ⟨rfl, rfl⟩))
    exact ⟨rfl, G0.out.trans (Gr.of_ext hx), .inr ⟨_, _, HO.out, hne, H0.out.ext hx, rfl⟩⟩
end Go.Proofs.YtdpjkocpdomkbaaGreatDoor
