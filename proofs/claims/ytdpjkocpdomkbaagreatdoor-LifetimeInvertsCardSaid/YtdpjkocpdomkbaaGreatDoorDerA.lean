/- Contracts of package der's input: left, need, take, value. Bytes that lie in memory. No condition. -/
import Derived.Test.YtdpjkocpdomkbaaGreatDoorRows
import Derived.Test.YtdpjkocpdomkbaaGreatDoorLib
import Derived.Deep.QuietTactic
import Derived.BigQuiet
import Derived.Laws.AppendOwn
namespace Go.Proofs.YtdpjkocpdomkbaaGreatDoor
open Go.RowKit
/-- w' is w with new blocks, and writes to block X. -/
def Gr (X : Nat) (w w' : World) : Prop := w.grownBy w' (some X)
theorem Gr.refl (X : Nat) (w : World) : Gr X w w := ⟨rfl, rfl, rfl, Nat.le_refl _, fun _ _ _ => rfl⟩
theorem Gr.trans {X : Nat} {a b c : World} (h : Gr X a b) (k : Gr X b c) : Gr X a c :=
  ⟨k.os.trans h.os, k.tape.trans h.tape, k.output.trans h.output, Nat.le_trans h.size k.size, fun i hi hn => (k.block i (Nat.lt_of_lt_of_le hi h.size) hn).trans (h.block i hi hn)⟩
theorem Gr.of_ext {X : Nat} {a b : World} (h : Ext a b) : Gr X a b := ⟨Below.os h, Below.tape h, Below.output h, Below.size h, fun i hi _ => Below.block h i hi⟩
theorem Gr.drew {X : Nat} {a b : World} (h : Gr X a b) : Gr X a b.drew := ⟨h.os, h.tape, h.output, h.size, h.block⟩
theorem Gr.drewN {X : Nat} {a b : World} (h : Gr X a b) (n : Nat) : Gr X a (b.drewN n) := ⟨h.os, h.tape, h.output, h.size, h.block⟩
theorem Gr.alloc {X : Nat} {a b : World} (h : Gr X a b) (o : Obj) : Gr X a (b.alloc o) := h.trans (Gr.of_ext ((Ext.refl b).alloc o))
theorem Gr.setCell {X : Nat} {a b : World} (h : Gr X a b) {p : Addr} (hp : p.block = X ∨ a.heap.size ≤ p.block) (u : Value) : Gr X a (b.setCell p u) :=
  ⟨h.os, h.tape, h.output, by simpa [World.setCell] using h.size, fun i hi hne => (Below.heap_setCell b p u i (by
    rintro rfl
    rcases hp with hp | hp
    · exact hne (by rw [hp])
    · omega)).trans (h.block i hi hne)⟩
theorem Gr.ext {X : Nat} {w0 a b : World} (h : Gr X a b) (hx : Ext w0 a) (hX : w0.heap.size ≤ X) : Ext w0 b :=
  ⟨h.os.trans (Below.os hx), h.tape.trans (Below.tape hx), h.output.trans (Below.output hx), Nat.le_trans (Below.size hx) h.size, fun i hi =>
    (h.block i (Nat.lt_of_lt_of_le hi (Below.size hx)) (fun e => by injection e with e; omega)).trans (Below.block hx i hi)⟩
theorem Gr.heap {X : Nat} {a b : World} (h : Gr X a b) {i : Nat} {o : Obj} (ho : a.heap[i]? = some o) (hne : i ≠ X) : b.heap[i]? = some o :=
  (h.block i (Array.getElem?_eq_some_iff.1 ho).1 (fun e => hne (by injection e))).trans ho
theorem Ext.heap {a b : World} (h : Ext a b) {i : Nat} {o : Obj} (ho : a.heap[i]? = some o) : b.heap[i]? = some o :=
  (Below.block h i (Array.getElem?_eq_some_iff.1 ho).1).trans ho
theorem cell_heap {w : World} {b : Nat} {vs : Array Value} {T : TypeId} {fr : Nat × Nat} (h : w.heap[b]? = some (.cells vs T fr)) (i : Nat) : w.cell? ⟨b, i, none⟩ = vs[i]? := by simp [World.cell?, h]
theorem frozen_heap {w : World} {b : Nat} {vs : Array Value} {T : TypeId} (h : w.heap[b]? = some (.cells vs T (0, 0))) (i : Nat) : w.frozen? ⟨b, i, none⟩ = false := by simp [World.frozen?, h]
theorem set_heap {w : World} {b i : Nat} {vs : Array Value} {T : TypeId} {fr : Nat × Nat} (h : w.heap[b]? = some (.cells vs T fr)) (v : Value) : (w.setCell ⟨b, i, none⟩ v).heap[b]? = some (.cells (vs.setIfInBounds i v) T fr) := by
  simp [World.setCell, Array.getElem?_modify, h]
/-- The block's element type. -/
def TypeOf (w : World) (b : Nat) (T : TypeId) : Prop := ∃ cs fr, w.heap[b]? = some (.cells cs T fr)
/-- The bytes that a slice's cells hold. -/
def BS (w : World) (A : Option Addr) (bs : List UInt8) : Prop :=
  bs ≠ [] → ∃ b off cs fr, A = some ⟨b, off, none⟩ ∧ w.heap[b]? = some (.cells cs 5 fr) ∧ ∀ j (h : j < bs.length), cs[off + j]? = some (.int .u8 (bs[j].toNat : Int))
theorem BS.ext {w w' : World} {A : Option Addr} {bs : List UInt8} (h : BS w A bs) (e : Ext w w') : BS w' A bs := fun hn => by
  obtain ⟨b, off, cs, fr, hA, hb, hc⟩ := h hn
  exact ⟨b, off, cs, fr, hA, e.heap hb, hc⟩
theorem BS.gr {w w' : World} {A : Option Addr} {bs : List UInt8} {X : Nat} (h : BS w A bs) (e : Gr X w w') {T : TypeId} (hX : TypeOf w X T) (hT : T ≠ 5) : BS w' A bs := fun hn => by
  obtain ⟨b, off, cs, fr, hA, hb, hc⟩ := h hn
  refine ⟨b, off, cs, fr, hA, e.heap hb ?_, hc⟩
  rintro rfl
  obtain ⟨cs', fr', hX⟩ := hX
  rw [hb] at hX
  injection hX with hX
  injection hX with _ ht
  exact hT ht.symm
theorem BS.nil (w : World) (A : Option Addr) : BS w A [] := fun h => absurd rfl h
theorem BS.at_ {w : World} {A : Option Addr} {bs : List UInt8} (h : BS w A bs) {j : Nat} (hj : j < bs.length) : ∃ b off, A = some ⟨b, off, none⟩ ∧ ∀ i (h : i < bs.length), w.cell? ⟨b, off + i, none⟩ = some (.int .u8 (bs[i].toNat : Int)) := by
  obtain ⟨b, off, cs, fr, hA, hb, hc⟩ := h (by intro e; subst e; simp at hj)
  exact ⟨b, off, hA, fun i hi => (cell_heap hb _).trans (hc i hi)⟩
theorem drop_take_get (bs : List UInt8) (p n j : Nat) (h : j < ((bs.drop p).take n).length) : ((bs.drop p).take n)[j] = bs[p + j]'(by simp at h; omega) := by simp
theorem BS.sub {w : World} {A : Option Addr} {bs : List UInt8} (h : BS w A bs) (p n : Nat) (hp : p + n ≤ bs.length) : BS w (if p + n = p then A else A.map (fun x => x.add (p * 1))) ((bs.drop p).take n) := fun hn => by
  have hpos : 0 < n := by
    rcases Nat.eq_zero_or_pos n with h0 | h0
    · subst h0; simp at hn
    · exact h0
  obtain ⟨b, off, cs, fr, hA, hb, hc⟩ := h (by rintro rfl; simp at hp; omega)
  rw [if_neg (by omega), hA]
  by_cases h0 : p = 0
  · refine ⟨b, off, cs, fr, by simp [Addr.add, h0], hb, fun j hj => ?_⟩
    rw [drop_take_get]
    simp only [h0, Nat.zero_add]
    exact hc j (by simp at hj; omega)
  · refine ⟨b, off + p, cs, fr, by simp [Addr.add, h0], hb, fun j hj => ?_⟩
    rw [drop_take_get, Nat.add_assoc]
    exact hc (p + j) (by simp at hj; omega)
/-- The same, without the block's type: bytes that came in. -/
def BSw (w : World) (A : Option Addr) (bs : List UInt8) : Prop :=
  bs ≠ [] → ∃ b off, A = some ⟨b, off, none⟩ ∧ ∀ j (h : j < bs.length), w.cell? ⟨b, off + j, none⟩ = some (.int .u8 (bs[j].toNat : Int))
theorem BS.weak {w : World} {A : Option Addr} {bs : List UInt8} (h : BS w A bs) : BSw w A bs := fun hn => by
  obtain ⟨b, off, cs, fr, hA, hb, hc⟩ := h hn
  exact ⟨b, off, hA, fun j hj => (cell_heap hb _).trans (hc j hj)⟩
theorem BSw.ext {w w' : World} {A : Option Addr} {bs : List UInt8} (h : BSw w A bs) (e : Ext w w') : BSw w' A bs := fun hn => by
  obtain ⟨b, off, hA, hc⟩ := h hn
  exact ⟨b, off, hA, fun j hj => e.cell (hc j hj)⟩
theorem BSw.nil (w : World) (A : Option Addr) : BSw w A [] := fun h => absurd rfl h
theorem BSw.at_ {w : World} {A : Option Addr} {bs : List UInt8} (h : BSw w A bs) {j : Nat} (hj : j < bs.length) : ∃ b off, A = some ⟨b, off, none⟩ ∧ ∀ i (h : i < bs.length), w.cell? ⟨b, off + i, none⟩ = some (.int .u8 (bs[i].toNat : Int)) :=
  h (by intro e; subst e; simp at hj)
theorem BSw.sub {w : World} {A : Option Addr} {bs : List UInt8} (h : BSw w A bs) (p n : Nat) (hp : p + n ≤ bs.length) : BSw w (if p + n = p then A else A.map (fun x => x.add (p * 1))) ((bs.drop p).take n) := fun hn => by
  have hpos : 0 < n := by
    rcases Nat.eq_zero_or_pos n with h0 | h0
    · subst h0; simp at hn
    · exact h0
  obtain ⟨b, off, hA, hc⟩ := h (by rintro rfl; simp at hp; omega)
  rw [if_neg (by omega), hA]
  by_cases h0 : p = 0
  · refine ⟨b, off, by simp [Addr.add, h0], fun j hj => ?_⟩
    rw [drop_take_get]
    simp only [h0, Nat.zero_add]
    exact hc j (by simp at hj; omega)
  · refine ⟨b, off + p, by simp [Addr.add, h0], fun j hj => ?_⟩
    rw [drop_take_get, Nat.add_assoc]
    exact hc (p + j) (by simp at hj; omega)
/-- Block X is an input: these bytes, this offset. -/
def Inp (w : World) (X : Nat) (A : Option Addr) (bs : List UInt8) (c p : Nat) : Prop :=
  w.heap[X]? = some (.cells #[.slice A bs.length c, .int .i64 (p : Int)] 95 (0, 0)) ∧ BS w A bs ∧ bs.length ≤ c ∧ bs.length ≤ 140737488355328 ∧ p ≤ bs.length
set_option maxHeartbeats 400000 in
theorem inLeft_any (X : Nat) (A : Option Addr) (L c : Nat) (p : Int) (w : World) (h0 : w.cell? ⟨X, 0, none⟩ = some (.slice A L c)) (h1 : w.cell? ⟨X, 1, none⟩ = some (.int .i64 p)) (hL : L ≤ 140737488355328) (hp0 : 0 ≤ p) (hp : p ≤ L) :
    Calls Tryz.prog 62 #[.pointer (some ⟨X, 0, none⟩)] w fun e w' => e = .returned (.int .i64 ((L : Int) - p)) ∧ ∃ n, w' = w.drewN n := by
  go_enter Tryz.func62, Tryz.ntmps62
  go_wp2
  go_quiet (fail)
  go_wp2
  go_ret
  exact ⟨rfl, _, rfl⟩
set_option maxHeartbeats 400000 in
theorem need_t (e : Int) (w : World) : Calls Tryz.prog 122 #[.bool true, .int .i64 e] w fun e w' => e = .returned (.tuple #[]) ∧ w = w' := by
  go_enter Tryz.func122, Tryz.ntmps122
  go_wp2
  go_end0
  exact ⟨rfl, rfl⟩
set_option maxHeartbeats 400000 in
theorem need_f (n : Int) (w : World) : Calls Tryz.prog 122 #[.bool false, .int .i64 n] w fun e w' => e = .panicked [{ v := .iface 25 (.int .i64 n), recovered := false }] ∧ w = w' := by
  go_enter Tryz.func122, Tryz.ntmps122
  go_wp2
  exact ⟨rfl, rfl, rfl⟩
/-- 'take' has passed n bytes. -/
def Took (X : Nat) (A : Option Addr) (bs : List UInt8) (c p n : Nat) (w : World) (e : Ending) (w' : World) : Prop :=
  ∃ A', e = .returned (.slice A' n n) ∧ BS w' A' ((bs.drop p).take n) ∧ Inp w' X A bs c (p + n) ∧ Gr X w w'
set_option maxHeartbeats 1600000 in
theorem take_ok (X : Nat) (A : Option Addr) (bs : List UInt8) (c p n : Nat) (w : World) (h : Inp w X A bs c p) (hn : p + n ≤ bs.length) :
    Calls Tryz.prog 129 #[.pointer (some ⟨X, 0, none⟩), .int .i64 (n : Int)] w (Took X A bs c p n w) := by
  obtain ⟨hX, hB, hc, hL, hp⟩ := h
  have hs := hB.sub p n hn
  have hc0 := cell_heap hX 0
  have hc1 := cell_heap hX 1
  have hf1 := frozen_heap hX 1
  simp at hc0 hc1
  have h1 : IntKind.i64.wrap ((p : Int) + n) = (p : Int) + n := by rw [IntKind.wrap_i64]; omega
  have h2 : (0 : Int) ≤ (p : Int) := by omega
  have h3 : (p : Int) + n ≤ c := by omega
  have h4 : (p : Int) ≤ (p : Int) + n := by omega
  have hlt : (n : Int) ≤ (bs.length : Int) - p := by omega
  have HX := Lib.hid hX
  have HB := Lib.hid hB
  have HS := Lib.hid hs
  clear hX hB hs
  go_enter Tryz.func129, Tryz.ntmps129
  go_wp2_with (first | (go_at_call 62; refine (inLeft_any _ _ _ _ _ _ hc0 hc1 hL (by omega) (by omega)).mono ?_; rintro e w' ⟨rfl, n1, rfl⟩) | (go_at_call 122; refine (need_t _ _).mono ?_; rintro e w' ⟨rfl, rfl⟩))
  go_quiet (fail)
  go_wp2
  all_goals go_ret
  · have h0 : n = 0 := by omega
    subst h0
    refine ⟨A, rfl, by simpa using BS.nil _ _, ⟨set_heap HX.out _, ?_, hc, hL, hn⟩, ((Gr.refl X w).drewN _).setCell (.inl rfl) _⟩
    exact (HB.out.gr (((Gr.refl X w).drewN _).setCell (.inl rfl) _) ⟨_, _, HX.out⟩ (by decide))
  · have hs := HS.out
    rw [if_neg (by omega)] at hs
    simp only [Nat.mul_one] at hs
    have hg : Gr X w ((w.drewN (n1 + nq)).setCell ⟨X, 1, none⟩ (.int .i64 ((p : Int) + n))) := ((Gr.refl X w).drewN _).setCell (.inl rfl) _
    exact ⟨_, rfl, hs.gr hg ⟨_, _, HX.out⟩ (by decide), ⟨set_heap HX.out _, HB.out.gr hg ⟨_, _, HX.out⟩ (by decide), hc, hL, hn⟩, hg⟩
set_option maxHeartbeats 1600000 in
theorem take_no (X : Nat) (A : Option Addr) (bs : List UInt8) (c p n : Nat) (w : World) (h : Inp w X A bs c p) (hn : bs.length < p + n) :
    Calls Tryz.prog 129 #[.pointer (some ⟨X, 0, none⟩), .int .i64 (n : Int)] w fun e w' => e = .panicked [{ v := .iface 25 (.int .i64 4), recovered := false }] ∧ ∃ k, w' = w.drewN k := by
  obtain ⟨hX, hB, hc, hL, hp⟩ := h
  have hc0 := cell_heap hX 0
  have hc1 := cell_heap hX 1
  simp at hc0 hc1
  have hlt : decide ((n : Int) ≤ (bs.length : Int) - p) = false := by simp; omega
  clear hX hB
  go_enter Tryz.func129, Tryz.ntmps129
  go_wp2_with (first | (go_at_call 62; refine (inLeft_any _ _ _ _ _ _ hc0 hc1 hL (by omega) (by omega)).mono ?_; rintro e w' ⟨rfl, n1, rfl⟩) | (go_at_call 122; refine (need_f _ _).mono ?_; rintro e w' ⟨rfl, rfl⟩))
  exact ⟨rfl, rfl, _, rfl⟩
end Go.Proofs.YtdpjkocpdomkbaaGreatDoor
