/- Small laws on worlds that only grow, used by all walks of this seat. No condition. -/
import Derived.WalkKit
import Derived.WalkSpells
import Derived.WalkLawsBesides
import Derived.Handy
import Derived.Lib.Hide
namespace Go.Proofs.YtdpjkocpdomkbaaGreatDoor
open Go.RowKit

/-- The world w' is w with new blocks; what was there is as it was. -/
def Ext (w w' : World) : Prop := Below w.heap.size w w'
theorem Ext.refl (w : World) : Ext w w := Below.refl _ _
theorem Ext.trans {a b c : World} (h : Ext a b) (k : Ext b c) : Ext a c := Below.trans h (Below.mono k (Below.size h))
theorem Ext.drew {a b : World} (h : Ext a b) : Ext a b.drew := Below.drew h
theorem Ext.alloc {a b : World} (h : Ext a b) (o : Obj) : Ext a (b.alloc o) := Below.alloc h (Below.size h) o
theorem Ext.setCell {a b : World} (h : Ext a b) {p : Addr} (hp : a.heap.size ≤ p.block) (u : Value) : Ext a (b.setCell p u) := Below.setCell h hp u
theorem Ext.sz {a b : World} (h : Ext a b) : a.heap.size ≤ b.heap.size := Below.size h
theorem Ext.cell {a b : World} (h : Ext a b) {p : Addr} {v : Value} (hc : a.cell? p = some v) : b.cell? p = some v :=
  (Below.cell h (World.block_lt_of_cell? a p hc)).trans hc
theorem Ext.frozen {a b : World} (h : Ext a b) {p : Addr} (hp : p.block < a.heap.size) : b.frozen? p = a.frozen? p := Below.frozen h hp
theorem Ext.cells {a b : World} (h : Ext a b) : ∀ bb o, bb < a.heap.size → b.cell? ⟨bb, o, none⟩ = a.cell? ⟨bb, o, none⟩ := fun bb o hb => Below.cell h (p := ⟨bb, o, none⟩) hb

theorem Ext.frozens {a b : World} (h : Ext a b) : ∀ bb o, bb < a.heap.size → b.frozen? ⟨bb, o, none⟩ = a.frozen? ⟨bb, o, none⟩ := fun bb o hb => Below.frozen h (p := ⟨bb, o, none⟩) hb
theorem heap_new (w : World) (o : Obj) : (w.alloc o).heap[w.heap.size]? = some o := by
  show (w.heap.push o)[w.heap.size]? = some o
  simp
theorem heap_new2 (w : World) (o0 o1 : Obj) : ((w.alloc o0).alloc o1).heap[w.heap.size + 1]? = some o1 := by
  show ((w.heap.push o0).push o1)[w.heap.size + 1]? = some o1
  rw [show w.heap.size + 1 = (w.heap.push o0).size by simp, Array.getElem?_push_size]
theorem heap_new3 (w : World) (o0 o1 o2 : Obj) : (((w.alloc o0).alloc o1).alloc o2).heap[w.heap.size + 1 + 1]? = some o2 := by
  show (((w.heap.push o0).push o1).push o2)[w.heap.size + 1 + 1]? = some o2
  rw [show w.heap.size + 1 + 1 = ((w.heap.push o0).push o1).size by simp, Array.getElem?_push_size]
theorem heap_new4 (w : World) (o0 o1 o2 o3 : Obj) : ((((w.alloc o0).alloc o1).alloc o2).alloc o3).heap[w.heap.size + 1 + 1 + 1]? = some o3 := by
  show ((((w.heap.push o0).push o1).push o2).push o3)[w.heap.size + 1 + 1 + 1]? = some o3
  rw [show w.heap.size + 1 + 1 + 1 = (((w.heap.push o0).push o1).push o2).size by simp, Array.getElem?_push_size]
theorem heap_new5 (w : World) (o0 o1 o2 o3 o4 : Obj) : (((((w.alloc o0).alloc o1).alloc o2).alloc o3).alloc o4).heap[w.heap.size + 1 + 1 + 1 + 1]? = some o4 := by
  show (((((w.heap.push o0).push o1).push o2).push o3).push o4)[w.heap.size + 1 + 1 + 1 + 1]? = some o4
  rw [show w.heap.size + 1 + 1 + 1 + 1 = ((((w.heap.push o0).push o1).push o2).push o3).size by simp, Array.getElem?_push_size]
theorem heap_new6 (w : World) (o0 o1 o2 o3 o4 o5 : Obj) : ((((((w.alloc o0).alloc o1).alloc o2).alloc o3).alloc o4).alloc o5).heap[w.heap.size + 1 + 1 + 1 + 1 + 1]? = some o5 := by
  show ((((((w.heap.push o0).push o1).push o2).push o3).push o4).push o5)[w.heap.size + 1 + 1 + 1 + 1 + 1]? = some o5
  rw [show w.heap.size + 1 + 1 + 1 + 1 + 1 = (((((w.heap.push o0).push o1).push o2).push o3).push o4).size by simp, Array.getElem?_push_size]
theorem heap_new7 (w : World) (o0 o1 o2 o3 o4 o5 o6 : Obj) : (((((((w.alloc o0).alloc o1).alloc o2).alloc o3).alloc o4).alloc o5).alloc o6).heap[w.heap.size + 1 + 1 + 1 + 1 + 1 + 1]? = some o6 := by
  show (((((((w.heap.push o0).push o1).push o2).push o3).push o4).push o5).push o6)[w.heap.size + 1 + 1 + 1 + 1 + 1 + 1]? = some o6
  rw [show w.heap.size + 1 + 1 + 1 + 1 + 1 + 1 = ((((((w.heap.push o0).push o1).push o2).push o3).push o4).push o5).size by simp, Array.getElem?_push_size]
theorem heap_new8 (w : World) (o0 o1 o2 o3 o4 o5 o6 o7 : Obj) : ((((((((w.alloc o0).alloc o1).alloc o2).alloc o3).alloc o4).alloc o5).alloc o6).alloc o7).heap[w.heap.size + 1 + 1 + 1 + 1 + 1 + 1 + 1]? = some o7 := by
  show ((((((((w.heap.push o0).push o1).push o2).push o3).push o4).push o5).push o6).push o7)[w.heap.size + 1 + 1 + 1 + 1 + 1 + 1 + 1]? = some o7
  rw [show w.heap.size + 1 + 1 + 1 + 1 + 1 + 1 + 1 = (((((((w.heap.push o0).push o1).push o2).push o3).push o4).push o5).push o6).size by simp, Array.getElem?_push_size]
theorem heap_new9 (w : World) (o0 o1 o2 o3 o4 o5 o6 o7 o8 : Obj) : (((((((((w.alloc o0).alloc o1).alloc o2).alloc o3).alloc o4).alloc o5).alloc o6).alloc o7).alloc o8).heap[w.heap.size + 1 + 1 + 1 + 1 + 1 + 1 + 1 + 1]? = some o8 := by
  show (((((((((w.heap.push o0).push o1).push o2).push o3).push o4).push o5).push o6).push o7).push o8)[w.heap.size + 1 + 1 + 1 + 1 + 1 + 1 + 1 + 1]? = some o8
  rw [show w.heap.size + 1 + 1 + 1 + 1 + 1 + 1 + 1 + 1 = ((((((((w.heap.push o0).push o1).push o2).push o3).push o4).push o5).push o6).push o7).size by simp, Array.getElem?_push_size]
theorem heap_new10 (w : World) (o0 o1 o2 o3 o4 o5 o6 o7 o8 o9 : Obj) : ((((((((((w.alloc o0).alloc o1).alloc o2).alloc o3).alloc o4).alloc o5).alloc o6).alloc o7).alloc o8).alloc o9).heap[w.heap.size + 1 + 1 + 1 + 1 + 1 + 1 + 1 + 1 + 1]? = some o9 := by
  show ((((((((((w.heap.push o0).push o1).push o2).push o3).push o4).push o5).push o6).push o7).push o8).push o9)[w.heap.size + 1 + 1 + 1 + 1 + 1 + 1 + 1 + 1 + 1]? = some o9
  rw [show w.heap.size + 1 + 1 + 1 + 1 + 1 + 1 + 1 + 1 + 1 = (((((((((w.heap.push o0).push o1).push o2).push o3).push o4).push o5).push o6).push o7).push o8).size by simp, Array.getElem?_push_size]
theorem ret_int {k : IntKind} {a b : Int} (h : a = b) : Ending.returned (.int k a) = .returned (.int k b) := by rw [h]
theorem ret_bool {a b : Bool} (h : a = b) : Ending.returned (.bool a) = .returned (.bool b) := by rw [h]

end Go.Proofs.YtdpjkocpdomkbaaGreatDoor
