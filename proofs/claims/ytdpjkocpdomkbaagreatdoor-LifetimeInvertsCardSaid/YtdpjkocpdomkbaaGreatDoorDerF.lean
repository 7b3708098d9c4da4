/- Contracts of package der's Tagged. Bytes of at most 2^47. -/
import Derived.Test.YtdpjkocpdomkbaaGreatDoorDerE
namespace Go.Proofs.YtdpjkocpdomkbaaGreatDoor
open Go.RowKit
/-- Does an element with this tag begin here? -/
def hasTag (tag : Int) (bs : List UInt8) (p : Nat) : Bool := match bs[p]? with | some b => decide ((b.toNat : Int) = tag) | none => false
theorem hasTag_end (tag : Int) (bs : List UInt8) (p : Nat) (h : ¬ p < bs.length) : hasTag tag bs p = false := by
  unfold hasTag; rw [List.getElem?_eq_none (by omega)]
theorem hasTag_at (tag : Int) (bs : List UInt8) (p : Nat) (h : p < bs.length) : hasTag tag bs p = decide ((bs[p].toNat : Int) = tag) := by
  unfold hasTag; rw [List.getElem?_eq_getElem h]
def TagPost (tag : Int) (R : Nat) (A : Option Addr) (bs : List UInt8) (c p : Nat) (w : World) (e : Ending) (w' : World) : Prop :=
  (hasTag tag bs p = false ∧ e = .returned (.tuple #[.pointer none, .bool false, .int .i64 0]) ∧ Ext w w') ∨
  (∃ fr n R' A' c', hasTag tag bs p = true ∧ elR tag bs p = (0, fr, n) ∧ e = .returned (.tuple #[.pointer (some ⟨R', 0, none⟩), .bool true, .int .i64 0]) ∧ Rd w' R' A' ((bs.drop fr).take n) c' 0 ∧ w.heap.size ≤ R' ∧ fr + n ≤ bs.length ∧ Rd w' R A bs c (fr + n) ∧ Gr R w w') ∨
  (∃ er, hasTag tag bs p = true ∧ elR tag bs p = (er, 0, 0) ∧ er ≠ 0 ∧ e = .returned (.tuple #[.pointer none, .bool false, .int .i64 er]) ∧ Ext w w')
theorem quiet_l {P : Program} {f : FuncId} {args : Array Value} {w : World} {n : Nat} {v : Value} (h : Calls P f args (w.drewN n) fun e w' => e = .returned v ∧ w.drewN n = w') : Calls P f args (w.drewN n) fun e w'' => e = .returned v ∧ ∃ m, w'' = w.drewN m :=
  h.mono fun _ _ ⟨he, hm⟩ => ⟨he, n, hm.symm⟩
theorem ext_drewN (w : World) (n : Nat) : Ext w (w.drewN n) := ⟨rfl, rfl, rfl, Nat.le_refl _, fun _ _ => rfl⟩
set_option maxHeartbeats 1600000 in
theorem tagged_end (k : Int) (hk0 : 0 ≤ k) (hk1 : k ≤ 30) (R : Nat) (A : Option Addr) (bs : List UInt8) (c p : Nat) (w : World) (h : Rd w R A bs c p) (hp : ¬ p < bs.length) :
    Calls Tryz.prog 101 #[.pointer (some ⟨R, 0, none⟩), .int .i64 k] w fun e w' => e = .returned (.tuple #[.pointer none, .bool false, .int .i64 0]) ∧ Ext w w' := by
  have hL := h.2.2.2.1
  have hpe : p = bs.length := by have := h.2.2.2.2; omega
  have hR0 := cell_heap h.1 0
  have hR1 := cell_heap h.1 1
  have hR2 := cell_heap h.1 2
  simp at hR0 hR1 hR2
  subst hpe
  have d1 : decide (0 ≤ k) = true := by simp; omega
  have d2 : decide (k ≤ 30) = true := by simp; omega
  clear h
  go_enter Tryz.func101, Tryz.ntmps101
  go_wp2
  go_quiet ((first | (go_at_call 61; exact quiet_l (rnone_f _ _ hR2)) | (go_at_call 62; exact Calls.quiet_of (inLeft_any _ _ _ _ _ _ hR0 hR1 hL (by omega) (by omega)))))
  go_wp2
  go_ret3
  exact ⟨rfl, ext_drewN _ _⟩
set_option maxHeartbeats 1600000 in
theorem tagged_no (k : Int) (hk0 : 0 ≤ k) (hk1 : k ≤ 30) (R : Nat) (A : Option Addr) (bs : List UInt8) (c p : Nat) (w : World) (h : Rd w R A bs c p) (hp : p < bs.length) (hb : (bs[p].toNat : Int) ≠ 160 + k) :
    Calls Tryz.prog 101 #[.pointer (some ⟨R, 0, none⟩), .int .i64 k] w fun e w' => e = .returned (.tuple #[.pointer none, .bool false, .int .i64 0]) ∧ Ext w w' := by
  have hL := h.2.2.2.1
  have hR0 := cell_heap h.1 0
  have hR1 := cell_heap h.1 1
  have hR2 := cell_heap h.1 2
  simp at hR0 hR1 hR2
  obtain ⟨b, off, rfl, hc⟩ := h.2.1.at_ hp
  have hcell := hc p hp
  have hx := bs[p].toNat_lt
  generalize bs[p].toNat = x at *
  have d1 : decide (0 ≤ k) = true := by simp; omega
  have d2 : decide (k ≤ 30) = true := by simp; omega
  have d3 : ((bs.length : Int) - (p : Int) == 0) = false := by simp; omega
  have d4 : ((x : Int) != 160 + k) = true := by simpa using hb
  have d5 : (0 : Int) ≤ (p : Int) := by omega
  have d6 : (p : Int) < (bs.length : Int) := by omega
  clear h hc hb
  go_enter Tryz.func101, Tryz.ntmps101
  go_wp2
  go_quiet ((first | (go_at_call 61; exact quiet_l (rnone_f _ _ hR2)) | (go_at_call 62; exact Calls.quiet_of (inLeft_any _ _ _ _ _ _ hR0 hR1 hL (by omega) (by omega)))))
  go_wp2
  go_ret3
  exact ⟨rfl, ext_drewN _ _⟩
set_option maxHeartbeats 1600000 in
theorem tagged_yes (k : Int) (hk0 : 0 ≤ k) (hk1 : k ≤ 30) (R : Nat) (A : Option Addr) (bs : List UInt8) (c p : Nat) (w : World) (h : Rd w R A bs c p) (hp : p < bs.length) (hb : (bs[p].toNat : Int) = 160 + k) :
    Calls Tryz.prog 101 #[.pointer (some ⟨R, 0, none⟩), .int .i64 k] w (TagPost (160 + k) R A bs c p w) := by
  have HT : Hid (hasTag (160 + k) bs p = true) := by rw [hasTag_at _ _ _ hp]; exact decide_eq_true hb
  have hL := h.2.2.2.1
  have hR0 := cell_heap h.1 0
  have hR1 := cell_heap h.1 1
  have hR2 := cell_heap h.1 2
  simp at hR0 hR1 hR2
  obtain ⟨b, off, rfl, hc⟩ := h.2.1.at_ hp
  have hcell := hc p hp
  have hx := bs[p].toNat_lt
  rw [hb] at hcell
  have d1 : decide (0 ≤ k) = true := by simp; omega
  have d2 : decide (k ≤ 30) = true := by simp; omega
  have d3 : ((bs.length : Int) - (p : Int) == 0) = false := by simp; omega
  have d4 : (((160 : Int) + k) != 160 + k) = false := by simp
  have d5 : (0 : Int) ≤ (p : Int) := by omega
  have d6 : (p : Int) < (bs.length : Int) := by omega
  have HH := Lib.hid h
  clear h hc hb hx
  go_enter Tryz.func101, Tryz.ntmps101
  go_wp2
  go_quiet ((first | (go_at_call 61; exact quiet_l (rnone_f _ _ hR2)) | (go_at_call 62; exact Calls.quiet_of (inLeft_any _ _ _ _ _ _ hR0 hR1 hL (by omega) (by omega)))))
  go_wp2_with fail
  (go_at_call 119; (with_reducible refine (numbered_any 160 k hk0 hk1 (by decide) (by decide) R _ bs c p _ (HH.out.ext (ext_drewN _ _))).mono ?_); rintro e w1 (⟨fr, n, R', A', c', hr, rfl, hrd', hR', hfn, hrd, hg⟩ | ⟨er, hr, hne, rfl, hx⟩))
  · have HR := Lib.hid hr
    clear hr
    go_wp2
    go_ret3
    exact .inr (.inl ⟨_, _, _, _, _, HT.out, HR.out, rfl, hrd', by simpa using hR', hfn, hrd, (Gr.of_ext (ext_drewN _ _)).trans hg⟩)
  · have HR := Lib.hid hr
    clear hr
    have d7 : ((er : Int) == 0) = false := by simpa using hne
    have HN := Lib.hid hne
    clear hne
    go_wp2
    go_ret3
    exact .inr (.inr ⟨_, HT.out, HR.out, HN.out, rfl, (ext_drewN _ _).trans hx⟩)
theorem tagged_any (k : Int) (hk0 : 0 ≤ k) (hk1 : k ≤ 30) (R : Nat) (A : Option Addr) (bs : List UInt8) (c p : Nat) (w : World) (h : Rd w R A bs c p) :
    Calls Tryz.prog 101 #[.pointer (some ⟨R, 0, none⟩), .int .i64 k] w (TagPost (160 + k) R A bs c p w) := by
  by_cases hp : p < bs.length
  · by_cases hb : (bs[p].toNat : Int) = 160 + k
    · exact tagged_yes k hk0 hk1 R A bs c p w h hp hb
    · exact (tagged_no k hk0 hk1 R A bs c p w h hp hb).mono fun e w' ⟨he, hx⟩ => .inl ⟨by rw [hasTag_at _ _ _ hp]; exact decide_eq_false hb, he, hx⟩
  · exact (tagged_end k hk0 hk1 R A bs c p w h hp).mono fun e w' ⟨he, hx⟩ => .inl ⟨hasTag_end _ _ _ hp, he, hx⟩
end Go.Proofs.YtdpjkocpdomkbaaGreatDoor
