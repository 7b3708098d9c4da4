/- Contracts of flags.Read and Decode. Bytes of at most 2^47. -/
import Derived.Test.YtbgiciijiopklaaDoorDerU
import Derived.Test.YtbgiciijiopklaaDoorFlagA
namespace Go.Proofs.YtbgiciijiopklaaDoor
open Go.RowKit
theorem bitsR_lt {bs : List UInt8} {p v q : Nat} (h : bitsR bs p = (0, v, q)) : v < 4294967296 := by
  unfold bitsR at h
  split at h
  · split at h
    · rename_i h2
      simp only [Prod.mk.injEq] at h
      rw [← h.2.1]; exact h2.2
    · simp at h
  · rename_i hne
    simp only [Prod.mk.injEq] at h
    exact absurd h.1 hne
/-- Flags that are read: the error, the flags, the offset behind them. -/
def readF (bs : List UInt8) (p : Nat) : Int × Nat × Nat :=
  if (bitsR bs p).1 = 0 then if namedB (bitsR bs p).2.1 then bitsR bs p else (6, 0, 0) else ((bitsR bs p).1, 0, 0)
theorem three_cells {w : World} {b : Nat} {x0 x1 x2 : Value} {T : TypeId} (h : w.heap[b]? = some (.cells #[x0, x1, x2] T (0, 0))) :
    w.cell? ⟨b, 0, none⟩ = some x0 ∧ w.cell? ⟨b, 1, none⟩ = some x1 ∧ w.cell? ⟨b, 2, none⟩ = some x2 ∧ w.frozen? ⟨b, 0, none⟩ = false ∧ w.frozen? ⟨b, 1, none⟩ = false ∧ w.frozen? ⟨b, 2, none⟩ = false :=
  ⟨cell_heap h 0, cell_heap h 1, cell_heap h 2, frozen_heap h 0, frozen_heap h 1, frozen_heap h 2⟩
def ReadFPost (R : Nat) (A : Option Addr) (bs : List UInt8) (c p : Nat) (w : World) (e : Ending) (w' : World) : Prop :=
  (∃ (v q : Nat), readF bs p = (0, v, q) ∧ v < 4294967296 ∧ namedB v = true ∧ e = .returned (.tuple #[.int .u32 (v : Int), .int .i64 0]) ∧ Rd w' R A bs c q ∧ Gr R w w') ∨
  (∃ er, readF bs p = (er, 0, 0) ∧ er ≠ 0 ∧ e = .returned (.tuple #[.int .u32 0, .int .i64 er]) ∧ Ext w w')
set_option maxRecDepth 8000 in
set_option maxHeartbeats 3200000 in
theorem readF_any (R : Nat) (A : Option Addr) (bs : List UInt8) (c p : Nat) (w : World) (h : Rd w R A bs c p) : Calls Tryd.prog 33 #[.pointer (some ⟨R, 0, none⟩)] w (ReadFPost R A bs c p w) := by
  have hlt := h.lt
  have HH := Lib.hid h
  clear h
  go_enter Tryd.func33, Tryd.ntmps33
  go_wp2_with fail
  (go_at_call 65; (with_reducible refine (copy_any R A bs c p _ HH.out).mono ?_); rintro e w1 ⟨rfl, hcp, hx1⟩)
  have HC := Lib.hid hcp
  have hRlt : R < w.heap.size := hlt
  clear hcp
  go_wp2_with fail
  (go_at_call 66; (with_reducible refine (bits_any w.heap.size A bs c p _ HC.out).mono ?_); rintro e w2 (⟨v, q, hr, rfl, hrd, hg⟩ | ⟨er, hr, hne, rfl, hx⟩))
  · have hvl := bitsR_lt hr
    have HR := Lib.hid hr
    have hx2 : Ext w w2 := hg.ext hx1 (Nat.le_refl _)
    cases hn : namedB v
    · have HF : Hid (readF bs p = (6, 0, 0)) := by unfold readF; rw [HR.out, if_pos rfl, hn]; exact rfl
      have HN := Lib.hid hn
      clear hr hn hrd
      go_wp2_with (go_at_call 39; (with_reducible refine (named_any v hvl _).mono ?_); rintro e w3 ⟨rfl, hx3⟩; rw [HN.out])
      go_ret2
      exact .inr ⟨_, HF.out, by decide, rfl, hx2.trans hx3⟩
    · have HF : Hid (readF bs p = (0, v, q)) := by unfold readF; rw [HR.out, if_pos rfl, hn]; exact rfl
      have HN := Lib.hid hn
      clear hr hn
      have HRD := Lib.hid hrd
      clear hrd
      go_wp2_with fail
      (go_at_call 39; (with_reducible refine (named_any v hvl _).mono ?_); rintro e w3 ⟨rfl, hx3⟩; rw [HN.out])
      have hx3' := hx2.trans hx3
      have hC3 := HRD.out.ext hx3
      have hR3 := HH.out.ext hx3'
      obtain ⟨k0, k1, k2, _, _, _⟩ := three_cells hC3.1
      obtain ⟨r0, r1, r2, q0, q1, q2⟩ := three_cells hR3.1
      have H3 := Lib.hid (And.intro hC3 hR3)
      clear hC3 hR3
      go_wp2
      go_ret2
      have hd := H3.out.2.1
      have e1 := set_heap (i := 0) hd (.slice A bs.length c)
      have e2 := set_heap (i := 1) e1 (.int .i64 (q : Int))
      have e3 := set_heap (i := 2) e2 (.bool true)
      have a1 := (Gr.of_ext (X := R) hx3').setCell (p := ⟨R, 0, none⟩) (.inl rfl) (.slice A bs.length c)
      have a2 := a1.setCell (p := ⟨R, 1, none⟩) (.inl rfl) (.int .i64 (q : Int))
      have a3 := a2.setCell (p := ⟨R, 2, none⟩) (.inl rfl) (.bool true)
      refine .inl ⟨v, q, HF.out, hvl, HN.out, rfl, ⟨e3, HH.out.2.1.gr a3 HH.out.type (by decide), HH.out.2.2.1, HH.out.2.2.2.1, HRD.out.2.2.2.2⟩, a3⟩
  · have HF : Hid (readF bs p = (er, 0, 0)) := by unfold readF; rw [hr, if_neg hne]; exact rfl
    have HN := Lib.hid hne
    have d : ((er : Int) != 0) = true := by simpa using hne
    clear hr hne
    go_wp2
    go_ret2
    exact .inr ⟨_, HF.out, HN.out, rfl, hx1.trans hx⟩
set_option maxHeartbeats 800000 in
theorem readF_nil (w : World) : Calls Tryd.prog 33 #[.pointer none] w fun e w' => e = .returned (.tuple #[.int .u32 0, .int .i64 1]) ∧ w = w' := by
  go_enter Tryd.func33, Tryd.ntmps33
  go_wp2_with (go_at_call 65; (with_reducible refine (copy_nil _).mono ?_); rintro e w' ⟨rfl, rfl⟩)
  go_ret2
  exact ⟨rfl, rfl⟩
set_option maxHeartbeats 800000 in
theorem readF_closed (R : Nat) (w : World) (h : w.cell? ⟨R, 2, none⟩ = some (.bool false)) : Calls Tryd.prog 33 #[.pointer (some ⟨R, 0, none⟩)] w fun e w' => e = .returned (.tuple #[.int .u32 0, .int .i64 1]) ∧ w = w' := by
  have H := Lib.hid h
  clear h
  go_enter Tryd.func33, Tryd.ntmps33
  go_wp2_with (go_at_call 65; (with_reducible refine (copy_closed R _ H.out).mono ?_); rintro e w' ⟨rfl, rfl⟩)
  go_ret2
  exact ⟨rfl, rfl⟩
/-- Flags that are decoded: the error, the flags. -/
def decF (bs : List UInt8) : Int × Nat :=
  if (readF bs 0).1 = 0 then if (readF bs 0).2.2 < bs.length then (5, 0) else (0, (readF bs 0).2.1) else ((readF bs 0).1, 0)
set_option maxRecDepth 8000 in
set_option maxHeartbeats 1600000 in
theorem decF_any (A : Option Addr) (bs : List UInt8) (n c : Nat) (w : World) (hB : BSw w A bs) (hn : bs.length = n) (hL : n ≤ 140737488355328) :
    Calls Tryd.prog 30 #[.slice A n c] w fun e w' => e = .returned (.tuple #[.int .u32 ((decF bs).2 : Nat), .int .i64 (decF bs).1]) ∧ Ext w w' := by
  have HB := Lib.hid hB
  have HN := Lib.hid hn
  clear hB hn
  go_enter Tryd.func30, Tryd.ntmps30
  go_wp2_with fail
  (go_at_call 32; (with_reducible refine (new_any A bs n c _ HB.out HN.out hL).mono ?_); rintro e w1 ⟨R, A', c', rfl, hrd, hx1, hsz⟩)
  have HRD := Lib.hid hrd
  clear hrd
  go_wp2_with fail
  (go_at_call 33; (with_reducible refine (readF_any R A' bs c' 0 _ HRD.out).mono ?_); rintro e w2 (⟨v, q, hr, hvl, hnm, rfl, hrd2, hg⟩ | ⟨er, hr, hne, rfl, hx⟩))
  · have hx2 : Ext w w2 := hg.ext hx1 hsz
    have HRD2 := Lib.hid hrd2
    have hqle := hrd2.2.2.2.2
    by_cases hq : q < bs.length
    · have HD : Hid (decF bs = (5, 0)) := by unfold decF; rw [hr, if_pos rfl, if_pos hq]; exact rfl
      have d : decide ((0 : Int) < (bs.length : Int) - (q : Int)) = true := by simp; omega
      clear hr hrd2 hnm
      go_wp2_with (go_at_call 35; (with_reducible refine (rleft_any R A' bs c' q _ HRD2.out).mono ?_); rintro e w3 ⟨rfl, m, rfl⟩)
      go_ret2
      rw [HD.out]
      exact ⟨rfl, hx2.trans ⟨rfl, rfl, rfl, Nat.le_refl _, fun _ _ => rfl⟩⟩
    · have HD : Hid (decF bs = (0, v)) := by unfold decF; rw [hr, if_pos rfl, if_neg hq]; exact rfl
      have d : decide ((0 : Int) < (bs.length : Int) - (q : Int)) = false := by simp; omega
      clear hr hrd2 hnm
      go_wp2_with (go_at_call 35; (with_reducible refine (rleft_any R A' bs c' q _ HRD2.out).mono ?_); rintro e w3 ⟨rfl, m, rfl⟩)
      go_ret2
      rw [HD.out]
      exact ⟨rfl, hx2.trans ⟨rfl, rfl, rfl, Nat.le_refl _, fun _ _ => rfl⟩⟩
  · have HD : Hid (decF bs = (er, 0)) := by unfold decF; rw [hr, if_neg hne]; exact rfl
    have d : ((er : Int) == 0) = false := by simpa using hne
    clear hr hne
    go_wp2
    go_ret2
    rw [HD.out]
    exact ⟨rfl, hx1.trans hx⟩
end Go.Proofs.YtbgiciijiopklaaDoor
