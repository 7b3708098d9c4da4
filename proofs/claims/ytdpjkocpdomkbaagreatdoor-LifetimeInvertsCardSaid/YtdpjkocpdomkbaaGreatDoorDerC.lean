/- Contracts of package der's Reader: Clone, New, none, Left, Copy. Bytes of at most 2^47. -/
import Derived.Test.YtdpjkocpdomkbaaGreatDoorDerB
import Derived.OwnWalk
namespace Go.Proofs.YtdpjkocpdomkbaaGreatDoor
open Go.RowKit
theorem info_u8 : (Tryz.prog.info? 5).map (fun i => (i.zero, i.size, i.bytes)) = some (some (.int .u8 0), 1, 1) := by kernel_rfl
def cellsOf (bs : List UInt8) : List Value := bs.map fun b => .int .u8 (b.toNat : Int)
theorem BS.of_own {w : World} {base n : Nat} {A : Option Addr} {c : Nat} {bs : List UInt8} (h : w.ownsRow base 5 1 (.slice A n c) n (cellsOf bs)) : BS w A bs ∧ n ≤ c ∧ bs.length = n := by
  have hl : bs.length = n := by have := h.1; simpa [cellsOf] using this
  rcases h.2 with ⟨hv, h0⟩ | ⟨g, cap, cur, hv, _, hg, hnc, _, hs, ht⟩
  · injection hv with h1 h2 h3
    subst h1 h2 h3
    have : bs = [] := List.eq_nil_of_length_eq_zero hl
    subst this
    exact ⟨BS.nil _ _, Nat.le_refl _, hl⟩
  · injection hv with h1 h2 h3
    subst h1 h3
    refine ⟨fun _ => ⟨g, 0, cur, (0, 0), rfl, hg, fun j hj => ?_⟩, hnc, hl⟩
    have hj' : j < cur.toList.length := by simp [hs]; omega
    have h4 : (cur.toList.take (n * 1))[j]? = (cellsOf bs)[j]? := by rw [ht]
    rw [List.getElem?_take_of_lt (by omega)] at h4
    simp only [Nat.zero_add]
    rw [← Array.getElem?_toList, h4]
    simp [cellsOf, hj]
theorem BSw.news {w : World} {bs : List UInt8} {b off : Nat} (h : BSw w (some ⟨b, off, none⟩) bs) (hne : bs ≠ []) : ∀ j u, (cellsOf bs)[j]? = some u → w.cell? ((⟨b, off, none⟩ : Addr).add j) = some u := by
  intro j u hu
  obtain ⟨b', off', hA', hc⟩ := h hne
  injection hA' with hA'
  injection hA' with e1 e2
  subst e1 e2
  have hj : j < bs.length := by
    have := (List.getElem?_eq_some_iff.1 hu).1
    simpa [cellsOf] using this
  have h1 : (cellsOf bs)[j]? = some (.int .u8 (bs[j].toNat : Int)) := by simp [cellsOf, hj]
  rw [h1] at hu
  injection hu with hu
  subst hu
  unfold Addr.add
  split
  · rename_i h0; subst h0
    simpa using hc 0 hj
  · exact hc j hj
theorem Ext.of_grown_new {w w1 w2 : World} {row : Option Nat} (h : Ext w w1) (hg : w1.grownBy w2 row) (hr : ∀ k, row = some k → w.heap.size ≤ k) : Ext w w2 :=
  ⟨hg.os.trans (Below.os h), hg.tape.trans (Below.tape h), hg.output.trans (Below.output h), Nat.le_trans (Below.size h) hg.size, fun i hi =>
    (hg.block i (Nat.lt_of_lt_of_le hi (Below.size h)) (fun e => by have := hr i e.symm; omega)).trans (Below.block h i hi)⟩
/-- A slice with these bytes is handed back; memory has grown. -/
def Cloned (bs : List UInt8) (n : Nat) (w : World) (e : Ending) (w' : World) : Prop := ∃ A' c', e = .returned (.slice A' n c') ∧ BS w' A' bs ∧ n ≤ c' ∧ Ext w w'
set_option maxHeartbeats 1600000 in
theorem clone_any (A : Option Addr) (bs : List UInt8) (n c : Nat) (w : World) (hB : BSw w A bs) (hn : bs.length = n) (hL : n ≤ 140737488355328) :
    Calls Tryz.prog 57 #[.slice A n c] w (Cloned bs n w) := by
  obtain ⟨i0, hi, hz0, hz1, hz2⟩ := info_parts info_u8
  have hE := fun (w : World) (a : Option Addr) (n c n' c' : Nat) => Lib.run_eql_slice_nil (P := Tryz.prog) w 28 5 a n c n' c' Tryz.underlying28
  cases A with
  | none =>
    have h0 : bs = [] := by
      by_cases h : bs = []
      · exact h
      · obtain ⟨_, _, h, _⟩ := hB h; cases h
    subst h0
    have hn0 : n = 0 := hn.symm
    subst hn0
    clear hB hn
    go_enter Tryz.func57, Tryz.ntmps57
    go_wp2
    go_ret
    exact ⟨_, _, rfl, BS.nil _ _, Nat.le_refl _, Ext.refl _⟩
  | some ad =>
    have hnews : ∀ j u, (cellsOf bs)[j]? = some u → w.cell? (ad.add j) = some u := by
      by_cases h : bs = []
      · subst h; intro j u hu; simp [cellsOf] at hu
      · obtain ⟨b, off, hA, _⟩ := hB h
        injection hA with hA
        subst hA
        exact hB.news h
    have hnews2 : ∀ o j u, (cellsOf bs)[j]? = some u → (w.alloc o).cell? (ad.add j) = some u := fun o j u hu =>
      (Ext.cell ((Ext.refl w).alloc o) (hnews j u hu))
    have Hn := Lib.hid hnews2
    have HN := Lib.hid hn
    clear hnews hnews2 hn hB
    go_enter Tryz.func57, Tryz.ntmps57
    go_wp2_with (at_builtin; refine wpList_append_own _ rfl _ _ 28 rfl w.heap.size 5 i0 (.int .u8 0) 1 1 Tryz.underlying28 hi hz0 hz1 hz2 rfl (by decide) _ 0 [] rfl ?c1 ad n c (cellsOf bs) rfl ?c2 ?c3 ?c4 ?c5 ?c6 ?c7 ?_)
    case c1 => exact World.ownsRow_made w #[] 0 (Nat.le_refl _) (by decide) rfl
    case c2 => simp [cellsOf, HN.out]
    case c3 => exact Hn.out _
    case c4 => intro u hu; simp [cellsOf] at hu; obtain ⟨x, _, rfl⟩ := hu; rfl
    case c5 => unfold maxLen; omega
    case c6 => omega
    case c7 => simp
    intro v' w1 hown hgrow _
    have hown' : w1.ownsRow w.heap.size 5 1 v' n (cellsOf bs) := by simpa using hown
    clear hown
    have hx : Ext w w1 := Ext.of_grown_new ((Ext.refl w).alloc _) hgrow (fun k hk => by simp [Value.ownBlock] at hk; omega)
    obtain ⟨A', c', rfl⟩ : ∃ A' c', v' = .slice A' n c' := by
      rcases hown'.2 with ⟨rfl, rfl⟩ | ⟨g, cap, cur, rfl, _⟩
      · exact ⟨_, _, rfl⟩
      · exact ⟨_, _, rfl⟩
    have hb := BS.of_own hown'
    have HB := Lib.hid hb
    clear hb hown' hgrow
    go_wp2
    go_ret
    exact ⟨_, _, rfl, HB.out.1, HB.out.2.1, hx⟩
/-- Block R is a reader: these bytes, this offset. -/
def Rd (w : World) (R : Nat) (A : Option Addr) (bs : List UInt8) (c p : Nat) : Prop :=
  w.heap[R]? = some (.cells #[.slice A bs.length c, .int .i64 (p : Int), .bool true] 97 (0, 0)) ∧ BS w A bs ∧ bs.length ≤ c ∧ bs.length ≤ 140737488355328 ∧ p ≤ bs.length
theorem Rd.ext {w w' : World} {R : Nat} {A : Option Addr} {bs : List UInt8} {c p : Nat} (h : Rd w R A bs c p) (e : Ext w w') : Rd w' R A bs c p := ⟨e.heap h.1, h.2.1.ext e, h.2.2⟩
theorem Rd.gr {w w' : World} {R X : Nat} {A : Option Addr} {bs : List UInt8} {c p : Nat} (h : Rd w R A bs c p) (e : Gr X w w') (hne : R ≠ X) {T : TypeId} (hX : TypeOf w X T) (hT : T ≠ 5) : Rd w' R A bs c p := ⟨e.heap h.1 hne, h.2.1.gr e hX hT, h.2.2⟩
theorem Rd.lt {w : World} {R : Nat} {A : Option Addr} {bs : List UInt8} {c p : Nat} (h : Rd w R A bs c p) : R < w.heap.size := (Array.getElem?_eq_some_iff.1 h.1).1
theorem Rd.type {w : World} {R : Nat} {A : Option Addr} {bs : List UInt8} {c p : Nat} (h : Rd w R A bs c p) : TypeOf w R 97 := ⟨_, _, h.1⟩
/-- A new reader of these bytes is handed back. -/
def NewRd (bs : List UInt8) (w : World) (e : Ending) (w' : World) : Prop := ∃ R A' c', e = .returned (.pointer (some ⟨R, 0, none⟩)) ∧ Rd w' R A' bs c' 0 ∧ Ext w w' ∧ w.heap.size ≤ R
set_option maxHeartbeats 800000 in
theorem new_any (A : Option Addr) (bs : List UInt8) (n c : Nat) (w : World) (hB : BSw w A bs) (hn : bs.length = n) (hL : n ≤ 140737488355328) :
    Calls Tryz.prog 34 #[.slice A n c] w (NewRd bs w) := by
  have HN := Lib.hid hn
  go_enter Tryz.func34, Tryz.ntmps34
  go_wp2_with (go_at_call 57; (with_reducible refine (clone_any A bs n c _ hB HN.out hL).mono ?_); rintro e w1 ⟨A', c', rfl, hb1, hc1, hx1⟩)
  go_ret
  have hx2 := (Ext.refl w1).alloc (.cells #[.slice A' n c', .int .i64 0, .bool true] 97)
  exact ⟨_, A', c', rfl, ⟨by rw [HN.out]; exact heap_new _ _, hb1.ext hx2, by rw [HN.out]; exact hc1, by rw [HN.out]; exact hL, Nat.zero_le _⟩, hx1.trans hx2, hx1.sz⟩
set_option maxHeartbeats 400000 in
theorem rnone_f (R : Nat) (w : World) (h : w.cell? ⟨R, 2, none⟩ = some (.bool true)) :
    Calls Tryz.prog 61 #[.pointer (some ⟨R, 0, none⟩)] w fun e w' => e = .returned (.bool false) ∧ w = w' := by
  go_enter Tryz.func61, Tryz.ntmps61
  go_wp2
  go_ret
  exact ⟨rfl, rfl⟩
set_option maxHeartbeats 400000 in
theorem rnone_closed (R : Nat) (w : World) (h : w.cell? ⟨R, 2, none⟩ = some (.bool false)) :
    Calls Tryz.prog 61 #[.pointer (some ⟨R, 0, none⟩)] w fun e w' => e = .returned (.bool true) ∧ w = w' := by
  go_enter Tryz.func61, Tryz.ntmps61
  go_wp2
  go_ret
  exact ⟨rfl, rfl⟩
set_option maxHeartbeats 400000 in
theorem rnone_nil (w : World) :
    Calls Tryz.prog 61 #[.pointer none] w fun e w' => e = .returned (.bool true) ∧ w = w' := by
  go_enter Tryz.func61, Tryz.ntmps61
  go_wp2
  go_ret
  exact ⟨rfl, rfl⟩
set_option maxHeartbeats 400000 in
theorem rleft_any (R : Nat) (A : Option Addr) (bs : List UInt8) (c p : Nat) (w : World) (h : Rd w R A bs c p) :
    Calls Tryz.prog 36 #[.pointer (some ⟨R, 0, none⟩)] w fun e w' => e = .returned (.int .i64 ((bs.length : Int) - p)) ∧ ∃ n, w' = w.drewN n := by
  obtain ⟨hR, hB, hc, hL, hp⟩ := h
  have hc0 := cell_heap hR 0
  have hc1 := cell_heap hR 1
  have hc2 := cell_heap hR 2
  simp at hc0 hc1 hc2
  clear hR hB
  go_enter Tryz.func36, Tryz.ntmps36
  go_wp2_with (first | (go_at_call 61; (with_reducible refine (rnone_f _ _ hc2).mono ?_); rintro e w' ⟨rfl, rfl⟩) | (go_at_call 62; (with_reducible refine (inLeft_any _ _ _ _ _ _ hc0 hc1 hL (by omega) (by omega)).mono ?_); rintro e w' ⟨rfl, n1, rfl⟩))
  go_ret
  exact ⟨rfl, _, rfl⟩
set_option maxHeartbeats 400000 in
theorem copy_nil (w : World) : Calls Tryz.prog 58 #[.pointer none] w fun e w' => e = .returned (.pointer none) ∧ w = w' := by
  go_enter Tryz.func58, Tryz.ntmps58
  go_wp2_with (go_at_call 61; (with_reducible refine (rnone_nil _).mono ?_); rintro e w' ⟨rfl, rfl⟩)
  go_ret
  exact ⟨rfl, rfl⟩
set_option maxHeartbeats 400000 in
theorem copy_closed (R : Nat) (w : World) (h : w.cell? ⟨R, 2, none⟩ = some (.bool false)) : Calls Tryz.prog 58 #[.pointer (some ⟨R, 0, none⟩)] w fun e w' => e = .returned (.pointer none) ∧ w = w' := by
  go_enter Tryz.func58, Tryz.ntmps58
  go_wp2_with (go_at_call 61; (with_reducible refine (rnone_closed _ _ h).mono ?_); rintro e w' ⟨rfl, rfl⟩)
  go_ret
  exact ⟨rfl, rfl⟩
set_option maxHeartbeats 800000 in
theorem copy_any (R : Nat) (A : Option Addr) (bs : List UInt8) (c p : Nat) (w : World) (h : Rd w R A bs c p) :
    Calls Tryz.prog 58 #[.pointer (some ⟨R, 0, none⟩)] w fun e w' => e = .returned (.pointer (some ⟨w.heap.size, 0, none⟩)) ∧ Rd w' w.heap.size A bs c p ∧ Ext w w' := by
  have h' := h
  obtain ⟨hR, hB, hc, hL, hp⟩ := h
  have hc0 := cell_heap hR 0
  have hc1 := cell_heap hR 1
  have hc2 := cell_heap hR 2
  simp at hc0 hc1 hc2
  have HH := Lib.hid h'
  clear hR hB h'
  go_enter Tryz.func58, Tryz.ntmps58
  go_wp2_with (go_at_call 61; (with_reducible refine (rnone_f _ _ hc2).mono ?_); rintro e w' ⟨rfl, rfl⟩)
  go_ret
  have hx := (Ext.refl w).alloc (.cells #[.slice A bs.length c, .int .i64 (p : Int), .bool true] 97)
  exact ⟨rfl, ⟨heap_new _ _, HH.out.2.1.ext hx, HH.out.2.2⟩, hx⟩
end Go.Proofs.YtdpjkocpdomkbaaGreatDoor
