/- Contracts of lifetime.Read, Decode. Bytes of at most 2^47. -/
import Derived.Test.YtdpjkocpdomkbaaGreatDoorLifeB
import Derived.RegionTactic
import Derived.ChangeAlike
namespace Go.Proofs.YtdpjkocpdomkbaaGreatDoor
open Go.RowKit
theorem three_cells {w : World} {b : Nat} {x0 x1 x2 : Value} {T : TypeId} (h : w.heap[b]? = some (.cells #[x0, x1, x2] T (0, 0))) :
    w.cell? ⟨b, 0, none⟩ = some x0 ∧ w.cell? ⟨b, 1, none⟩ = some x1 ∧ w.cell? ⟨b, 2, none⟩ = some x2 ∧ w.frozen? ⟨b, 0, none⟩ = false ∧ w.frozen? ⟨b, 1, none⟩ = false ∧ w.frozen? ⟨b, 2, none⟩ = false :=
  ⟨cell_heap h 0, cell_heap h 1, cell_heap h 2, frozen_heap h 0, frozen_heap h 1, frozen_heap h 2⟩
set_option maxRecDepth 8000 in
set_option maxHeartbeats 3200000 in
theorem readc_panics (b0 b1 b2 b3 C R : Nat) (er : Int) (A A2 : Option Addr) (L L2 c c2 : Nat) (p p2 : Int) (o o2 : Bool) (u0 u1 u2 u3 z : Value) (w : World) (n1 : R ≠ b2) (n2 : R ≠ b3) (n3 : b2 ≠ b3)
    (h0 : w.heap[b0]? = some (.cells #[.pointer (some ⟨C, 0, none⟩)] 69 (0, 0))) (h1 : w.heap[b1]? = some (.cells #[.pointer (some ⟨R, 0, none⟩)] 69 (0, 0)))
    (hC : w.heap[C]? = some (.cells #[.slice A L c, .int .i64 p, .bool o] 97 (0, 0))) (hR : w.heap[R]? = some (.cells #[.slice A2 L2 c2, .int .i64 p2, .bool o2] 97 (0, 0)))
    (h2 : w.heap[b2]? = some (.cells #[u0, u1, u2, u3] 23 (0, 0))) (h3 : w.heap[b3]? = some (.cells #[z] 25 (0, 0))) :
    CallsD Tryz.prog 59 #[.pointer (some ⟨b0, 0, none⟩), .pointer (some ⟨b1, 0, none⟩), .pointer (some ⟨b2, 0, none⟩), .pointer (some ⟨b3, 0, none⟩)] (.panicking [{ v := .iface 25 (.int .i64 er), recovered := false }]) w fun e u' w' =>
      e = .returned (.tuple #[]) ∧ u' = .panicking [{ v := .iface 25 (.int .i64 er), recovered := true }] ∧
      w' = (((((((w.drew.setCell ⟨R, 0, none⟩ (.slice A L c)).setCell ⟨R, 1, none⟩ (.int .i64 p)).setCell ⟨R, 2, none⟩ (.bool o)).setCell ⟨b2, 0, none⟩ (.int .i64 0)).setCell ⟨b2, 1, none⟩ (.int .i64 0)).setCell ⟨b2, 2, none⟩ (.int .i64 0)).setCell ⟨b2, 3, none⟩ (.int .i64 0)).setCell ⟨b3, 0, none⟩ (.int .i64 er) := by
  have hta := assert_errno
  have m1 := n1.symm
  have m2 := n2.symm
  have m3 := n3.symm
  have c0 := cell_heap h0 0
  have c1 := cell_heap h1 0
  obtain ⟨k0, k1, k2, _, _, _⟩ := three_cells hC
  obtain ⟨r0, r1, r2, q0, q1, q2⟩ := three_cells hR
  obtain ⟨a0, a1, a2, a3, z0, z1, z2, z3⟩ := four_cells h2
  have d0 := cell_heap h3 0
  have d1 := frozen_heap h3 0
  simp at c0 c1 d0
  clear h0 h1 h2 h3 hC hR
  refine callsD_of_wpS Tryz.func59 rfl fun c₀ cs hu => ?_
  simp only [Tryz.ntmps59, List.size_toArray, List.length_cons, List.length_nil, Nat.reduceAdd, Nat.reduceSub, Array.replicate_succ, Array.replicate_zero, List.push_toArray, List.append_toArray, List.nil_append, List.cons_append]
  apply wpS_seq
  apply wpS_region
  simp [wpOpsS, go_sem, recoverD, hu, Exit.thenS]
  refine wpS_of_wp ?_
  go_wp2
  go_region
  all_goals go_wp2
  all_goals simp [bodyPostS, results, Tryz.results59]
set_option maxRecDepth 8000 in
set_option maxHeartbeats 1600000 in
theorem readc_idle (b0 b1 b2 b3 : Nat) (w : World) :
    CallsD Tryz.prog 59 #[.pointer (some ⟨b0, 0, none⟩), .pointer (some ⟨b1, 0, none⟩), .pointer (some ⟨b2, 0, none⟩), .pointer (some ⟨b3, 0, none⟩)] .returning w fun e u' w' => e = .returned (.tuple #[]) ∧ u' = .returning ∧ w' = w := by
  refine callsD_of_wpS Tryz.func59 rfl fun c₀ cs hu => ?_
  simp only [Tryz.ntmps59, List.size_toArray, List.length_cons, List.length_nil, Nat.reduceAdd, Nat.reduceSub, Array.replicate_succ, Array.replicate_zero, List.push_toArray, List.append_toArray, List.nil_append, List.cons_append]
  apply wpS_seq
  apply wpS_region
  simp [wpOpsS, go_sem, recoverD, hu, Exit.thenS]
  refine wpS_of_wp ?_
  go_wp2
  cases c₀
  simp_all [bodyPostS, results, Tryz.results59]
theorem door_ret {P : Program} {fn : Func} {R : Ending → World → Prop} {a : Act} {w : World} (h : Leaves P fn a.tmps R a.defers .returning w) : bodyPostD P fn R .ret a w := h
theorem leaves_read {tmps : Array Value} {R : Ending → World → Prop} {b c : Nat} {x0 x1 x2 x3 v : Value} {w : World} (h1 : w.heap[b]? = some (.cells #[x0, x1, x2, x3] 23 (0, 0))) (h2 : w.heap[c]? = some (.cells #[v] 25 (0, 0))) (hR : R (.returned (.tuple #[.agg #[x0, x1, x2, x3], v])) w) (ht : tmps[2]?.getD undef = .pointer (some ⟨b, 0, none⟩) := by rfl) (ht2 : tmps[3]?.getD undef = .pointer (some ⟨c, 0, none⟩) := by rfl) : Leaves Tryz.prog Tryz.f35 tmps R [] .returning w := by
  obtain ⟨a0, a1, a2, a3, _, _, _, _⟩ := four_cells h1
  have d := cell_heap h2 0
  simp at d
  simp [Leaves, results, Tryz.results35, go_sem, ht, ht2, a0, a1, a2, a3, d, hR]
set_option maxRecDepth 8000 in
set_option maxHeartbeats 3200000 in
theorem read_nil (w : World) : Calls Tryz.prog 35 #[.pointer none] w fun e w' => e = .returned (.tuple #[.agg #[.int .i64 0, .int .i64 0, .int .i64 0, .int .i64 0], .int .i64 1]) ∧ Ext w w' := by
  go_enter_defers Tryz.func35, Tryz.ntmps35
  go_wp2_with (go_at_call 58; (with_reducible refine (copy_nil _).mono ?_); rintro e w' ⟨rfl, rfl⟩)
  refine door_ret ?_
  refine leaves_read (b := w.heap.size + 1) (c := w.heap.size + 1 + 1) (x0 := .int .i64 0) (x1 := .int .i64 0) (x2 := .int .i64 0) (x3 := .int .i64 0) (v := .int .i64 1) ?_ ?_ ?_ ?_ ?_
  · exact (((Ext.refl _).alloc _).alloc _).heap (heap_new2 w _ _)
  · exact ((Ext.refl _).alloc _).heap (heap_new3 w _ _ _)
  · exact ⟨rfl, (by repeat (first | exact Ext.refl _ | assumption | refine Ext.drew ?_ | refine Ext.alloc ?_ _ | refine Ext.setCell ?_ (by first | exact Nat.le_refl _ | (simp; done) | (simp; omega)) _ | refine Ext.trans ?_ (by assumption)))⟩
  · rfl
  · rfl
set_option maxRecDepth 8000 in
set_option maxHeartbeats 3200000 in
theorem read_closed (R : Nat) (w : World) (h : w.cell? ⟨R, 2, none⟩ = some (.bool false)) : Calls Tryz.prog 35 #[.pointer (some ⟨R, 0, none⟩)] w fun e w' => e = .returned (.tuple #[.agg #[.int .i64 0, .int .i64 0, .int .i64 0, .int .i64 0], .int .i64 1]) ∧ Ext w w' := by
  have hlt := World.block_lt_of_cell? w _ h
  simp at hlt
  have h3 : ∀ o1 o2 o3, (((w.alloc o1).alloc o2).alloc o3).cell? ⟨R, 2, none⟩ = some (.bool false) := fun o1 o2 o3 => Ext.cell ((((Ext.refl w).alloc o1).alloc o2).alloc o3) h
  have H3 := Lib.hid h3
  clear h3 h
  go_enter_defers Tryz.func35, Tryz.ntmps35
  go_wp2_with (go_at_call 58; (with_reducible refine (copy_closed R _ (H3.out _ _ _)).mono ?_); rintro e w' ⟨rfl, rfl⟩)
  refine door_ret ?_
  refine leaves_read (b := w.heap.size + 1) (c := w.heap.size + 1 + 1) (x0 := .int .i64 0) (x1 := .int .i64 0) (x2 := .int .i64 0) (x3 := .int .i64 0) (v := .int .i64 1) ?_ ?_ ?_ ?_ ?_
  · exact (((Ext.refl _).alloc _).alloc _).heap (heap_new2 w _ _)
  · exact ((Ext.refl _).alloc _).heap (heap_new3 w _ _ _)
  · exact ⟨rfl, (by repeat (first | exact Ext.refl _ | assumption | refine Ext.drew ?_ | refine Ext.alloc ?_ _ | refine Ext.setCell ?_ (by first | exact Nat.le_refl _ | (simp; done) | (simp; omega)) _ | refine Ext.trans ?_ (by assumption)))⟩
  · rfl
  · rfl
/-- What lies behind the closure that has put the reader back. -/
theorem readc_facts {w0 w : World} {b2 b3 C R c p q : Nat} {A : Option Addr} {bs : List UInt8} {u0 u1 u2 u3 z : Value}
    (hC : Rd w C A bs c p) (hR : Rd w R A bs c q) (h2 : w.heap[b2]? = some (.cells #[u0, u1, u2, u3] 23 (0, 0))) (h3 : w.heap[b3]? = some (.cells #[z] 25 (0, 0)))
    (hg : Gr R w0 w) (n1 : R ≠ b2) (n2 : R ≠ b3) (n3 : b2 ≠ b3) (m2 : w0.heap.size ≤ b2) (m3 : w0.heap.size ≤ b3) (v : Value) :
    ((((((((w.drew.setCell ⟨R, 0, none⟩ (.slice A bs.length c)).setCell ⟨R, 1, none⟩ (.int .i64 (p : Int))).setCell ⟨R, 2, none⟩ (.bool true)).setCell ⟨b2, 0, none⟩ (.int .i64 0)).setCell ⟨b2, 1, none⟩ (.int .i64 0)).setCell ⟨b2, 2, none⟩ (.int .i64 0)).setCell ⟨b2, 3, none⟩ (.int .i64 0)).setCell ⟨b3, 0, none⟩ v).heap[b2]? = some (.cells #[.int .i64 0, .int .i64 0, .int .i64 0, .int .i64 0] 23 (0, 0)) ∧
    ((((((((w.drew.setCell ⟨R, 0, none⟩ (.slice A bs.length c)).setCell ⟨R, 1, none⟩ (.int .i64 (p : Int))).setCell ⟨R, 2, none⟩ (.bool true)).setCell ⟨b2, 0, none⟩ (.int .i64 0)).setCell ⟨b2, 1, none⟩ (.int .i64 0)).setCell ⟨b2, 2, none⟩ (.int .i64 0)).setCell ⟨b2, 3, none⟩ (.int .i64 0)).setCell ⟨b3, 0, none⟩ v).heap[b3]? = some (.cells #[v] 25 (0, 0)) ∧
    Rd ((((((((w.drew.setCell ⟨R, 0, none⟩ (.slice A bs.length c)).setCell ⟨R, 1, none⟩ (.int .i64 (p : Int))).setCell ⟨R, 2, none⟩ (.bool true)).setCell ⟨b2, 0, none⟩ (.int .i64 0)).setCell ⟨b2, 1, none⟩ (.int .i64 0)).setCell ⟨b2, 2, none⟩ (.int .i64 0)).setCell ⟨b2, 3, none⟩ (.int .i64 0)).setCell ⟨b3, 0, none⟩ v) R A bs c p ∧
    Gr R w0 ((((((((w.drew.setCell ⟨R, 0, none⟩ (.slice A bs.length c)).setCell ⟨R, 1, none⟩ (.int .i64 (p : Int))).setCell ⟨R, 2, none⟩ (.bool true)).setCell ⟨b2, 0, none⟩ (.int .i64 0)).setCell ⟨b2, 1, none⟩ (.int .i64 0)).setCell ⟨b2, 2, none⟩ (.int .i64 0)).setCell ⟨b2, 3, none⟩ (.int .i64 0)).setCell ⟨b3, 0, none⟩ v) := by
  have hd : w.drew.heap[R]? = some (.cells #[.slice A bs.length c, .int .i64 (q : Int), .bool true] 97 (0, 0)) := hR.1
  have e1 := set_heap (i := 0) hd (.slice A bs.length c)
  have e2 := set_heap (i := 1) e1 (.int .i64 (p : Int))
  have e3 := set_heap (i := 2) e2 (.bool true)
  have a1 := ((Gr.refl R w).drew).setCell (p := ⟨R, 0, none⟩) (.inl rfl) (.slice A bs.length c)
  have a2 := a1.setCell (p := ⟨R, 1, none⟩) (.inl rfl) (.int .i64 (p : Int))
  have a3 := a2.setCell (p := ⟨R, 2, none⟩) (.inl rfl) (.bool true)
  have f2 := a3.heap h2 n1.symm
  have f3 := a3.heap h3 n2.symm
  have x3 : Rd _ R A bs c p := ⟨e3, hR.2.1.gr a3 hR.type (by decide), hR.2.2.1, hR.2.2.2.1, hC.2.2.2.2⟩
  clear e1 e2 e3 hd a1 a2
  generalize ((w.drew.setCell ⟨R, 0, none⟩ (.slice A bs.length c)).setCell ⟨R, 1, none⟩ (.int .i64 (p : Int))).setCell ⟨R, 2, none⟩ (.bool true) = w1 at *
  have g4 := gr_set4 w1 b2 (.int .i64 0) (.int .i64 0) (.int .i64 0) (.int .i64 0)
  have h4 := heap_set4 (v0 := .int .i64 0) (v1 := .int .i64 0) (v2 := .int .i64 0) (v3 := .int .i64 0) f2
  have f4 := g4.heap f3 n3.symm
  have x4 := x3.gr g4 n1 ⟨_, _, f2⟩ (by decide)
  generalize (((w1.setCell ⟨b2, 0, none⟩ (.int .i64 0)).setCell ⟨b2, 1, none⟩ (.int .i64 0)).setCell ⟨b2, 2, none⟩ (.int .i64 0)).setCell ⟨b2, 3, none⟩ (.int .i64 0) = w2 at *
  have g5 := (Gr.refl b3 w2).setCell (p := ⟨b3, 0, none⟩) (.inl rfl) v
  exact ⟨g5.heap h4 n3, set_heap (i := 0) f4 v, x4.gr g5 n2 ⟨_, _, f4⟩ (by decide), Gr.of_new (Gr.of_new (hg.trans a3) g4 m2) g5 m3⟩
def ReadPost (R : Nat) (A : Option Addr) (bs : List UInt8) (c p : Nat) (w : World) (e : Ending) (w' : World) : Prop :=
  Gr R w w' ∧ ((∃ (a s t r q : Nat), bodyR bs p = (0, (a, s, t, r), q) ∧ e = .returned (.tuple #[.agg #[.int .i64 (a : Int), .int .i64 (s : Int), .int .i64 (t : Int), .int .i64 (r : Int)], .int .i64 0]) ∧ Rd w' R A bs c q) ∨
    (∃ er, bodyR bs p = (er, (0, 0, 0, 0), 0) ∧ er ≠ 0 ∧ e = .returned (.tuple #[.agg #[.int .i64 0, .int .i64 0, .int .i64 0, .int .i64 0], .int .i64 er]) ∧ Rd w' R A bs c p))
set_option maxRecDepth 8000 in
set_option maxHeartbeats 3200000 in
theorem read_any (R : Nat) (A : Option Addr) (bs : List UInt8) (c p : Nat) (w : World) (h : Rd w R A bs c p) :
    Calls Tryz.prog 35 #[.pointer (some ⟨R, 0, none⟩)] w (ReadPost R A bs c p w) := by
  have hmf : ∀ (fn : Fn) (first cap : Array Value) (w : World), (Instr.makeFunc fn first cap).run Tryz.prog w = .ok (.func fn first cap) w := fun _ _ _ _ => rfl
  have hlt := h.lt
  have h3 : ∀ o1 o2 o3, Rd (((w.alloc o1).alloc o2).alloc o3) R A bs c p := fun o1 o2 o3 => h.ext ((((Ext.refl w).alloc o1).alloc o2).alloc o3)
  have H3 := Lib.hid h3
  have HH := Lib.hid h
  clear h3 h
  go_enter_defers Tryz.func35, Tryz.ntmps35
  go_wp2_with fail
  (go_at_call 58; (with_reducible refine (copy_any R A bs c p _ (H3.out _ _ _)).mono ?_); rintro e w3 ⟨rfl, hcp, hx3⟩)
  have W3 := Lib.hid hx3
  have hz3 : w.heap.size + 1 + 1 + 1 ≤ w3.heap.size := by have := hx3.sz; simp at this; exact this
  have r0 := hx3.heap ((((Ext.refl _).alloc _).alloc _).heap (heap_new w _))
  have r1 := hx3.heap (((Ext.refl _).alloc _).heap (heap_new2 w _ _))
  have r2 := hx3.heap (heap_new3 w _ _ _)
  have r3 := (H3.out _ _ _).ext hx3
  have K0 := Lib.hid r0
  have K1 := Lib.hid r1
  have K2 := Lib.hid r2
  have K3 := Lib.hid r3
  have c0 := cell_heap r0 0
  simp at c0
  simp only [World.size_alloc] at hcp
  have HC := Lib.hid hcp
  clear r0 r1 r2 r3 hx3 hcp
  have hz0 : w.heap.size < w3.heap.size := by omega
  have W4 := Lib.hid ((Ext.refl w3).alloc (.cells #[.pointer (some ⟨w.heap.size + 1 + 1 + 1, 0, none⟩)] 69))
  have N4 := Lib.hid (heap_new w3 (.cells #[.pointer (some ⟨w.heap.size + 1 + 1 + 1, 0, none⟩)] 69))
  go_wp2_with fail
  (go_at_call 60; (with_reducible refine (body_any R A bs c p _ (K3.out.ext W4.out)).mono ?_); rintro e w5 ⟨hg, (⟨a, s, t, r, q, hb, rfl, hrd⟩ | ⟨er, q, hb, hne, hrd, rfl⟩)⟩)
  · have HO := Lib.hid hb
    have k1 := hg.heap (W4.out.heap K1.out) (by omega)
    have k2 := hg.heap (W4.out.heap K2.out) (by omega)
    obtain ⟨a0, a1, a2, a3, z0, z1, z2, z3⟩ := four_cells k1
    have d0 := cell_heap k2 0
    have d1 := frozen_heap k2 0
    simp at d0
    have y1 := heap_far (heap_set4 (v0 := .int .i64 (a : Int)) (v1 := .int .i64 (s : Int)) (v2 := .int .i64 (t : Int)) (v3 := .int .i64 (r : Int)) k1) (p := ⟨w.heap.size + 1 + 1, 0, none⟩) (by simp) (.int .i64 0)
    have g4 := gr_set4 w5 (w.heap.size + 1) (.int .i64 (a : Int)) (.int .i64 (s : Int)) (.int .i64 (t : Int)) (.int .i64 (r : Int))
    have y2 := set_heap (i := 0) (g4.heap k2 (by omega)) (.int .i64 0)
    have g5 : Gr R w w5 := (Gr.of_ext (((((Ext.refl w).alloc _).alloc _).alloc _).trans W3.out)).trans ((Gr.of_ext W4.out).trans hg)
    have r5 := hrd.gr g4 (by omega) ⟨_, _, k1⟩ (by decide)
    have r6 := r5.gr ((Gr.refl (w.heap.size + 1 + 1) _).setCell (p := ⟨w.heap.size + 1 + 1, 0, none⟩) (.inl rfl) (.int .i64 0)) (by omega) ⟨_, _, g4.heap k2 (by omega)⟩ (by decide)
    have g6 := Gr.of_new (Gr.of_new g5 g4 (Nat.le_succ _)) ((Gr.refl (w.heap.size + 1 + 1) _).setCell (p := ⟨w.heap.size + 1 + 1, 0, none⟩) (.inl rfl) (.int .i64 0)) (by omega)
    have Y1 := Lib.hid y1
    have Y2 := Lib.hid y2
    have R6 := Lib.hid r6
    have G6 := Lib.hid g6
    clear hb y1 y2 r5 r6 g4 g5 g6 hg hrd k1 k2
    go_wp2
    refine leaves_cons (f := 59) (args := #[.pointer (some ⟨w3.heap.size, 0, none⟩), .pointer (some ⟨w.heap.size, 0, none⟩), .pointer (some ⟨w.heap.size + 1, 0, none⟩), .pointer (some ⟨w.heap.size + 1 + 1, 0, none⟩)]) (by simp) (by simp [go_sem]) ?_
    refine (readc_idle _ _ _ _ _).mono ?_
    rintro e u' w'' ⟨rfl, rfl, rfl⟩
    refine leaves_read Y1.out Y2.out ?_
    exact ⟨G6.out, .inl ⟨_, _, _, _, _, HO.out, rfl, R6.out⟩⟩
  · have HO := Lib.hid hb
    have k0 := hg.heap (W4.out.heap K0.out) (by omega)
    have k1 := hg.heap (W4.out.heap K1.out) (by omega)
    have k2 := hg.heap (W4.out.heap K2.out) (by omega)
    have kn := hg.heap N4.out (by omega)
    have kc := (HC.out.ext W4.out).gr hg (by omega) (K3.out.ext W4.out).type (by decide)
    have g5 : Gr R w w5 := (Gr.of_ext (((((Ext.refl w).alloc _).alloc _).alloc _).trans W3.out)).trans ((Gr.of_ext W4.out).trans hg)
    have KN := Lib.hid (readc_facts kc hrd k1 k2 g5 (by omega) (by omega) (by omega) (by omega) (by omega) (.int .i64 er))
    have KA := Lib.hid (And.intro kn (And.intro k0 (And.intro kc.1 (And.intro hrd.1 (And.intro k1 k2)))))
    clear hb k0 k1 k2 kn kc hg hrd g5
    go_wp2
    refine leaves_cons (f := 59) (args := #[.pointer (some ⟨w3.heap.size, 0, none⟩), .pointer (some ⟨w.heap.size, 0, none⟩), .pointer (some ⟨w.heap.size + 1, 0, none⟩), .pointer (some ⟨w.heap.size + 1 + 1, 0, none⟩)]) (by simp) (by simp [go_sem]) ?_
    refine (readc_panics _ _ _ _ _ R er _ _ _ _ _ _ _ _ _ _ _ _ _ _ _ _ (by omega) (by omega) (by omega) KA.out.1 KA.out.2.1 KA.out.2.2.1 KA.out.2.2.2.1 KA.out.2.2.2.2.1 KA.out.2.2.2.2.2).mono ?_
    rintro e u' w'' ⟨rfl, rfl, rfl⟩
    refine leaves_read KN.out.1 KN.out.2.1 ?_
    exact ⟨KN.out.2.2.2, .inr ⟨_, HO.out, hne, rfl, KN.out.2.2.1⟩⟩
end Go.Proofs.YtdpjkocpdomkbaaGreatDoor
