/- The walk of FlagsDecodes: true at every argument. The table of the lowest bits as the program lays it. -/
import Derived.Test.YtbgiciijiopklaaDoorKnown
import Derived.Test.YtbgiciijiopklaaDoorFlagW
import Derived.Test.YtbgiciijiopklaaDoorRefR
namespace Go.Proofs.YtbgiciijiopklaaDoor
open Go.RowKit Go.Shelf
theorem readF_eq {R : Nat} {A : Option Addr} {bs : List UInt8} {c : Nat} {w : World} {v q : Nat} {er : Int} (h0 : readF bs 0 = (er, v, q)) (h : Rd w R A bs c 0) :
    Calls Tryd.prog 33 #[.pointer (some ⟨R, 0, none⟩)] w fun e w' => e = .returned (.tuple #[.int .u32 (v : Int), .int .i64 er]) ∧ Rd w' R A bs c q ∧ Gr R w w' := by
  refine (readF_any R A bs c 0 w h).mono fun e w' hp => ?_
  rcases hp with ⟨v', q', h1, _, _, he, hr, hg⟩ | ⟨er', h1, _, he, hx⟩
  · rw [h0] at h1
    simp only [Prod.mk.injEq] at h1
    obtain ⟨rfl, rfl, rfl⟩ := h1
    exact ⟨he, hr, hg⟩
  · rw [h0] at h1
    simp only [Prod.mk.injEq] at h1
    obtain ⟨rfl, rfl, rfl⟩ := h1
    exact ⟨he, h.ext hx, Gr.of_ext hx⟩
theorem rfRead_eq {A : Option Addr} {bs : List UInt8} {L c : Nat} {w : World} {v q : Nat} {er : Int} (h0 : readF bs 0 = (er, v, q)) (hB : BSw w A bs) (hL : bs.length = L) (hb : L ≤ 140737488355328) (hcap : L ≤ c) :
    Calls Tryd.prog 34 #[.slice A L c, .int .i64 0] w fun e w' => e = .returned (.tuple #[.int .u32 (v : Int), .int .i64 (q : Int), .int .i64 er]) ∧ Ext w w' := by
  refine (rfRead_any A bs L c 0 0 rfl w hB hL hb hcap).mono fun e w' ⟨hx, hp⟩ => ?_
  rcases hp with ⟨v', q', h1, _, he⟩ | ⟨er', h1, _, he⟩
  · rw [h0] at h1
    simp only [Prod.mk.injEq] at h1
    obtain ⟨rfl, rfl, rfl⟩ := h1
    exact ⟨he, hx⟩
  · rw [h0] at h1
    simp only [Prod.mk.injEq] at h1
    obtain ⟨rfl, rfl, rfl⟩ := h1
    exact ⟨he, hx⟩
theorem dec_at {bs : List UInt8} {v : Nat} {er : Int} (h0 : decF bs = (er, v)) (A : Option Addr) (n c : Nat) (w : World) (hB : BSw w A bs) (hn : bs.length = n) (hL : n ≤ 140737488355328) :
    Calls Tryd.prog 30 #[.slice A n c] w fun e w' => e = .returned (.tuple #[.int .u32 (v : Nat), .int .i64 er]) ∧ Ext w w' := by
  have h := decF_any A bs n c w hB hn hL
  rw [h0] at h
  exact h
theorem rdec_at {bs : List UInt8} {v : Nat} {er : Int} (h0 : decF bs = (er, v)) (A : Option Addr) (n c : Nat) (w : World) (hB : BSw w A bs) (hn : bs.length = n) (hL : n ≤ 140737488355328) (hcap : n ≤ c) :
    Calls Tryd.prog 31 #[.slice A n c] w fun e w' => e = .returned (.tuple #[.int .u32 (v : Nat), .int .i64 er]) ∧ Ext w w' := by
  have h := rfDecode_any A bs n c w hB hn hL hcap
  rw [h0] at h
  exact h
theorem BSw.lit {w : World} {b : Nat} {T : TypeId} {fr : Nat × Nat} {bs : List UInt8} (h : w.heap[b]? = some (.cells ⟨cellsOf bs⟩ T fr)) : BSw w (some ⟨b, 0, none⟩) bs := fun _ =>
  ⟨b, 0, rfl, fun j hj => by rw [Nat.zero_add, cell_heap h j]; simp [cellsOf, hj]⟩
theorem Ext.drewN {a b : World} (h : Ext a b) (n : Nat) : Ext a (b.drewN n) := h.trans (ext_drewN' b n)
theorem conv_lit (f : Nat) (hf : f < 4294967296) (w : World) : (convert 50 9 (.slice (some ⟨w.heap.size, 0, none⟩) 7 7)).run Tryd.prog (w.alloc (.cells #[.int .u8 3, .int .u8 5, .int .u8 0, .int .u8 ((f : Int) / 16777216), .int .u8 ((f : Int) / 65536 % 256), .int .u8 ((f : Int) / 256 % 256), .int .u8 ((f : Int) % 256)] 5)) = .ok (.string (bsOf (encB f))) (w.alloc (.cells #[.int .u8 3, .int .u8 5, .int .u8 0, .int .u8 ((f : Int) / 16777216), .int .u8 ((f : Int) / 65536 % 256), .int .u8 ((f : Int) / 256 % 256), .int .u8 ((f : Int) % 256)] 5)) := by
  refine conv_bs 7 7 (BSw.lit (T := 5) (fr := (0, 0)) ?_) (encB_len f)
  rw [encB_lit f hf]
  exact heap_new w _
set_option maxRecDepth 8000 in
set_option maxHeartbeats 6400000 in
theorem lawDecodes_any (f : Nat) (A : Option Addr) (bs : List UInt8) (L c : Nat) (w : World) (hB : BSw w A bs) (hL : bs.length = L) (hcap : L ≤ c) (hT : TabAt 0 Lib.deBruijn32tab w) (hf : f < 4294967296) : Calls Tryd.prog 9 #[.int .u32 (f : Int), .slice A L c] w fun e w' => e = .returned (.bool true) ∧ Ext w w' := by
  have HT := Lib.hid hT
  have HB := Lib.hid hB
  have HL := Lib.hid hL
  clear hT hB hL
  by_cases h100 : (100 : Int) < (L : Int)
  · go_enter Tryd.func9, Tryd.ntmps9
    go_wp2_with (go_at_call 16; (with_reducible refine (known_any _ (TabAt.ext HT.out (by repeat (first | exact Ext.refl _ | assumption | refine Ext.drew ?_ | refine Ext.alloc ?_ _ | refine Ext.setCell ?_ (by first | exact Nat.le_refl _ | (simp; done) | (simp; omega)) _ | refine Ext.trans ?_ (by assumption))))).mono ?_); rintro e w9 ⟨rfl, hx9⟩)
    go_ret
    exact ⟨rfl, (by repeat (first | exact Ext.refl _ | assumption | refine Ext.drew ?_ | refine Ext.alloc ?_ _ | refine Ext.setCell ?_ (by first | exact Nat.le_refl _ | (simp; done) | (simp; omega)) _ | refine Ext.trans ?_ (by assumption)))⟩
  have hb : L ≤ 140737488355328 := by omega
  rcases hD : decF bs with ⟨der, dv⟩
  rcases hF : readF bs 0 with ⟨er, v, q⟩
  have HD := Lib.hid hD
  have HF := Lib.hid hF
  clear hD hF
  cases hn : namedB f
  · have HN := Lib.hid hn
    clear hn
    go_enter Tryd.func9, Tryd.ntmps9
    go_wp2_with fail
    (go_at_call 29; (with_reducible refine (encode_no f hf HN.out _).mono ?_); rintro e w1 ⟨rfl, hx1⟩)
    go_wp2_with fail
    (go_at_call 18; (with_reducible refine (rNamed_any f hf _).mono ?_); rintro e w2 ⟨rfl, hx2⟩; rw [HN.out])
    have X1 := Lib.hid (hx1.trans hx2)
    clear hx1 hx2
    go_wp2_with fail
    (go_at_call 30; (with_reducible refine (dec_at HD.out A L c _ (HB.out.ext X1.out) HL.out hb).mono ?_); rintro e w3 ⟨rfl, hx3⟩)
    have X3 := Lib.hid (X1.out.trans hx3)
    clear hx3
    go_wp2_with fail
    (go_at_call 31; (with_reducible refine (rdec_at HD.out A L c _ (HB.out.ext X3.out) HL.out hb hcap).mono ?_); rintro e w4 ⟨rfl, hx4⟩)
    have X4 := Lib.hid (X3.out.trans hx4)
    clear hx4
    go_wp2_with fail
    (go_at_call 32; (with_reducible refine (new_any A bs L c _ (HB.out.ext X4.out) HL.out hb).mono ?_); rintro e w5 ⟨R, A', c', rfl, hrd, hx5, hR⟩)
    have X5 := Lib.hid (X4.out.trans hx5)
    have hwR : w.heap.size ≤ R := Nat.le_trans X4.out.sz hR
    clear hx5
    go_wp2_with fail
    (go_at_call 33; (with_reducible refine (readF_eq HF.out hrd).mono ?_); rintro e w6 ⟨rfl, hrd6, hg6⟩)
    have X6 := Lib.hid (hg6.ext X5.out hwR)
    have hq := hrd6.2.2.2.2
    rw [HL.out] at hq
    clear hg6 hrd
    go_wp2_with fail
    (go_at_call 34; (with_reducible refine (rfRead_eq HF.out (HB.out.ext X6.out) HL.out hb hcap).mono ?_); rintro e w7 ⟨rfl, hx7⟩)
    have X7 := Lib.hid (X6.out.trans hx7)
    have R7 := hrd6.ext hx7
    clear hx7 hrd6
    have hbl := HL.out
    go_wp2_with (go_at_call 35; (with_reducible refine (rleft_any R A' bs c' q _ R7).mono ?_); rintro e w' ⟨rfl, n1, rfl⟩)
    clear R7 hbl hR
    have hX7 := X7.out
    (go_at_call 33; (with_reducible refine (readF_nil _).mono ?_); rintro e w8 ⟨rfl, rfl⟩)
    go_wp2_with fail
    (go_at_call 33; refine (readF_closed _ _ (by exact cell_heap (heap_new (w7.drewN n1) (.cells #[.slice none 0 0, .int .i64 0, .bool false] 65)) 2)).mono ?_; rintro e w9 ⟨rfl, rfl⟩)
    go_wp2_with (go_at_call 16; (with_reducible refine (known_any _ (TabAt.ext HT.out (by repeat (first | exact Ext.refl _ | assumption | refine Ext.drew ?_ | refine Ext.drewN ?_ _ | refine Ext.alloc ?_ _ | refine Ext.setCell ?_ (by first | exact Nat.le_refl _ | (simp; done) | (simp; omega)) _ | refine Ext.trans ?_ (by assumption))))).mono ?_); rintro e w10 ⟨rfl, hx10⟩)
    go_ret
    exact ⟨rfl, (by repeat (first | exact Ext.refl _ | assumption | refine Ext.drew ?_ | refine Ext.drewN ?_ _ | refine Ext.alloc ?_ _ | refine Ext.setCell ?_ (by first | exact Nat.le_refl _ | (simp; done) | (simp; omega)) _ | refine Ext.trans ?_ (by assumption)))⟩
  · have HN := Lib.hid hn
    clear hn
    go_enter Tryd.func9, Tryd.ntmps9
    go_wp2_with fail
    (go_at_call 29; (with_reducible refine (encode_yes f hf HN.out _).mono ?_); rintro e w1 ⟨Ax, cx, rfl, hbx, hcx, hx1⟩)
    go_wp2_with fail
    (go_at_call 18; (with_reducible refine (rNamed_any f hf _).mono ?_); rintro e w2 ⟨rfl, hx2⟩; rw [HN.out])
    have hv := conv_bs 7 cx (hbx.ext hx2).weak (encB_len f)
    have hl := conv_lit f hf w2
    have X1 := Lib.hid ((hx1.trans hx2).alloc (.cells #[.int .u8 3, .int .u8 5, .int .u8 0, .int .u8 ((f : Int) / 16777216), .int .u8 ((f : Int) / 65536 % 256), .int .u8 ((f : Int) / 256 % 256), .int .u8 ((f : Int) % 256)] 5))
    clear hx1 hx2
    go_wp2_with fail
    (go_at_call 30; (with_reducible refine (dec_at HD.out A L c _ (HB.out.ext X1.out) HL.out hb).mono ?_); rintro e w3 ⟨rfl, hx3⟩)
    have X3 := Lib.hid (X1.out.trans hx3)
    clear hx3
    go_wp2_with fail
    (go_at_call 31; (with_reducible refine (rdec_at HD.out A L c _ (HB.out.ext X3.out) HL.out hb hcap).mono ?_); rintro e w4 ⟨rfl, hx4⟩)
    have X4 := Lib.hid (X3.out.trans hx4)
    clear hx4
    go_wp2_with fail
    (go_at_call 32; (with_reducible refine (new_any A bs L c _ (HB.out.ext X4.out) HL.out hb).mono ?_); rintro e w5 ⟨R, A', c', rfl, hrd, hx5, hR⟩)
    have X5 := Lib.hid (X4.out.trans hx5)
    have hwR : w.heap.size ≤ R := Nat.le_trans X4.out.sz hR
    clear hx5
    go_wp2_with fail
    (go_at_call 33; (with_reducible refine (readF_eq HF.out hrd).mono ?_); rintro e w6 ⟨rfl, hrd6, hg6⟩)
    have X6 := Lib.hid (hg6.ext X5.out hwR)
    have hq := hrd6.2.2.2.2
    rw [HL.out] at hq
    clear hg6 hrd
    go_wp2_with fail
    (go_at_call 34; (with_reducible refine (rfRead_eq HF.out (HB.out.ext X6.out) HL.out hb hcap).mono ?_); rintro e w7 ⟨rfl, hx7⟩)
    have X7 := Lib.hid (X6.out.trans hx7)
    have R7 := hrd6.ext hx7
    clear hx7 hrd6
    have hbl := HL.out
    go_wp2_with (go_at_call 35; (with_reducible refine (rleft_any R A' bs c' q _ R7).mono ?_); rintro e w' ⟨rfl, n1, rfl⟩)
    clear R7 hbl hR
    have hX7 := X7.out
    (go_at_call 33; (with_reducible refine (readF_nil _).mono ?_); rintro e w8 ⟨rfl, rfl⟩)
    go_wp2_with fail
    (go_at_call 33; refine (readF_closed _ _ (by exact cell_heap (heap_new (w7.drewN n1) (.cells #[.slice none 0 0, .int .i64 0, .bool false] 65)) 2)).mono ?_; rintro e w9 ⟨rfl, rfl⟩)
    go_wp2_with (go_at_call 16; (with_reducible refine (known_any _ (TabAt.ext HT.out (by repeat (first | exact Ext.refl _ | assumption | refine Ext.drew ?_ | refine Ext.drewN ?_ _ | refine Ext.alloc ?_ _ | refine Ext.setCell ?_ (by first | exact Nat.le_refl _ | (simp; done) | (simp; omega)) _ | refine Ext.trans ?_ (by assumption))))).mono ?_); rintro e w10 ⟨rfl, hx10⟩)
    go_ret
    exact ⟨rfl, (by repeat (first | exact Ext.refl _ | assumption | refine Ext.drew ?_ | refine Ext.drewN ?_ _ | refine Ext.alloc ?_ _ | refine Ext.setCell ?_ (by first | exact Nat.le_refl _ | (simp; done) | (simp; omega)) _ | refine Ext.trans ?_ (by assumption)))⟩
end Go.Proofs.YtbgiciijiopklaaDoor
