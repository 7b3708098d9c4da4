/- Contracts of package der's reads: the closure that recovers, der.read at readers and at numbers. Bytes of at most 2^47. -/
import Derived.Test.YtdpjkocpdomkbaaGreatDoorDerC
import Derived.Defers
import Derived.Recover
namespace Go.Proofs.YtdpjkocpdomkbaaGreatDoor
open Go.RowKit
theorem assert_errno (v : Value) (w : World) : (Instr.typeAssert (.iface 25 v) 20 25 true).run Tryz.prog w = .ok (.tuple #[v, .bool true]) w := by
  kernel_rfl
set_option maxRecDepth 8000 in
set_option maxHeartbeats 1600000 in
theorem readRc_panics (b4 b5 : Nat) (er : Int) (u4 u5 : Value) (w : World) (hne : b4 ≠ b5) (h4 : w.cell? ⟨b4, 0, none⟩ = some u4) (f4 : w.frozen? ⟨b4, 0, none⟩ = false) (h5 : w.cell? ⟨b5, 0, none⟩ = some u5) (f5 : w.frozen? ⟨b5, 0, none⟩ = false) :
    CallsD Tryz.prog 128 #[.pointer (some ⟨b4, 0, none⟩), .pointer (some ⟨b5, 0, none⟩)] (.panicking [{ v := .iface 25 (.int .i64 er), recovered := false }]) w fun e u' w' =>
      e = .returned (.tuple #[]) ∧ u' = .panicking [{ v := .iface 25 (.int .i64 er), recovered := true }] ∧ w' = (w.setCell ⟨b4, 0, none⟩ (.pointer none)).setCell ⟨b5, 0, none⟩ (.int .i64 er) := by
  have hta := assert_errno
  have h5' : (w.setCell ⟨b4, 0, none⟩ (.pointer none)).cell? ⟨b5, 0, none⟩ = some u5 := (World.cell?_setCell_other w _ _ _ (fun e => hne (by injection e))).trans h5
  refine callsD_of_wpS Tryz.func128 rfl fun c₀ cs hu => ?_
  simp only [Tryz.ntmps128, List.size_toArray, List.length_cons, List.length_nil, Nat.reduceAdd, Nat.reduceSub, Array.replicate_succ, Array.replicate_zero, List.push_toArray, List.append_toArray, List.nil_append, List.cons_append]
  apply wpS_seq
  apply wpS_region
  simp [wpOpsS, go_sem, recoverD, hu, Exit.thenS]
  refine wpS_of_wp ?_
  go_wp2
  simp [bodyPostS, results, Tryz.results128]
set_option maxRecDepth 8000 in
set_option maxHeartbeats 1600000 in
theorem readRc_idle (b4 b5 : Nat) (w : World) :
    CallsD Tryz.prog 128 #[.pointer (some ⟨b4, 0, none⟩), .pointer (some ⟨b5, 0, none⟩)] .returning w fun e u' w' => e = .returned (.tuple #[]) ∧ u' = .returning ∧ w' = w := by
  refine callsD_of_wpS Tryz.func128 rfl fun c₀ cs hu => ?_
  simp only [Tryz.ntmps128, List.size_toArray, List.length_cons, List.length_nil, Nat.reduceAdd, Nat.reduceSub, Array.replicate_succ, Array.replicate_zero, List.push_toArray, List.append_toArray, List.nil_append, List.cons_append]
  apply wpS_seq
  apply wpS_region
  simp [wpOpsS, go_sem, recoverD, hu, Exit.thenS]
  refine wpS_of_wp ?_
  go_wp2
  cases c₀
  simp_all [bodyPostS, results, Tryz.results128]
def Inner1Post (tag : Int) (X : Nat) (A : Option Addr) (bs : List UInt8) (c p : Nat) (w : World) (e : Ending) (w' : World) : Prop :=
  Gr X w w' ∧ ((∃ fr n R' A' c', elR tag bs p = (0, fr, n) ∧ e = .returned (.pointer (some ⟨R', 0, none⟩)) ∧ Rd w' R' A' ((bs.drop fr).take n) c' 0 ∧ w.heap.size ≤ R' ∧ fr + n ≤ bs.length ∧ Inp w' X A bs c (fr + n)) ∨ (∃ er, elR tag bs p = (er, 0, 0) ∧ er ≠ 0 ∧ e = .panicked [{ v := .iface 25 (.int .i64 er), recovered := false }]))
theorem Inp.ext {w w' : World} {X : Nat} {A : Option Addr} {bs : List UInt8} {c p : Nat} (h : Inp w X A bs c p) (e : Ext w w') : Inp w' X A bs c p := ⟨e.heap h.1, h.2.1.ext e, h.2.2⟩
set_option maxHeartbeats 1600000 in
theorem inner1_any (tag : Int) (T X : Nat) (A : Option Addr) (bs : List UInt8) (c p : Nat) (w : World) (h : Inp w X A bs c p) (hT : w.cell? ⟨T, 0, none⟩ = some (.int .i64 tag)) :
    Calls Tryz.prog 117 #[.pointer (some ⟨X, 0, none⟩), .pointer (some ⟨T, 0, none⟩)] w (Inner1Post tag X A bs c p w) := by
  have hL := h.2.2.2.1
  go_enter Tryz.func117, Tryz.ntmps117
  go_wp2_with fail
  (go_at_call 118; (with_reducible refine (contents_any tag X A bs c p w h).mono ?_); rintro e w1 ⟨hg, ⟨fr, n, A1, hr, rfl, hb, hfn, hi⟩ | ⟨er, hr, hne, rfl⟩⟩)
  · have HR := Lib.hid hr
    clear hr
    have hln : ((bs.drop fr).take n).length = n := by simp; omega
    have Hln := Lib.hid hln
    clear hln
    go_wp2_with (go_at_call 34; (with_reducible refine (new_any A1 _ n n _ hb.weak Hln.out (by omega)).mono ?_); rintro e w2 ⟨R', A', c', rfl, hrd, hx, hsz⟩)
    go_ret
    exact ⟨hg.trans (Gr.of_ext hx), .inl ⟨_, _, _, _, _, HR.out, rfl, hrd, Nat.le_trans hg.size hsz, hfn, hi.ext hx⟩⟩
  · have HR := Lib.hid hr
    clear hr
    go_wp2
    exact ⟨rfl, hg, .inr ⟨_, HR.out, hne, rfl⟩⟩
def ReadRPost (tag : Int) (R : Nat) (A : Option Addr) (bs : List UInt8) (c p : Nat) (w : World) (e : Ending) (w' : World) : Prop :=
  (∃ fr n R' A' c', elR tag bs p = (0, fr, n) ∧ e = .returned (.tuple #[.pointer (some ⟨R', 0, none⟩), .int .i64 0]) ∧ Rd w' R' A' ((bs.drop fr).take n) c' 0 ∧ w.heap.size ≤ R' ∧ fr + n ≤ bs.length ∧ Rd w' R A bs c (fr + n) ∧ Gr R w w') ∨
  (∃ er, elR tag bs p = (er, 0, 0) ∧ er ≠ 0 ∧ e = .returned (.tuple #[.pointer none, .int .i64 er]) ∧ Ext w w')
theorem heap_far {w : World} {b : Nat} {o : Obj} (h : w.heap[b]? = some o) {p : Addr} (hne : b ≠ p.block) (v : Value) : (w.setCell p v).heap[b]? = some o := (Below.heap_setCell w p v b hne).trans h
theorem close_ok {w : World} {b R : Nat} {u4 u5 v4 v5 z0 z1 s0 s1 x2 : Value} {T4 T5 TR : TypeId} (h4 : w.heap[b]? = some (.cells #[u4] T4 (0, 0))) (h5 : w.heap[b + 1]? = some (.cells #[u5] T5 (0, 0))) (hR : w.heap[R]? = some (.cells #[z0, z1, x2] TR (0, 0))) (n1 : R ≠ b) (n2 : R ≠ b + 1) :
    (((((w.setCell ⟨b, 0, none⟩ v4).setCell ⟨R, 0, none⟩ s0).setCell ⟨R, 1, none⟩ s1).setCell ⟨b, 0, none⟩ v4).setCell ⟨b + 1, 0, none⟩ v5).heap[b]? = some (.cells #[v4] T4 (0, 0)) ∧
    (((((w.setCell ⟨b, 0, none⟩ v4).setCell ⟨R, 0, none⟩ s0).setCell ⟨R, 1, none⟩ s1).setCell ⟨b, 0, none⟩ v4).setCell ⟨b + 1, 0, none⟩ v5).heap[b + 1]? = some (.cells #[v5] T5 (0, 0)) ∧
    (((((w.setCell ⟨b, 0, none⟩ v4).setCell ⟨R, 0, none⟩ s0).setCell ⟨R, 1, none⟩ s1).setCell ⟨b, 0, none⟩ v4).setCell ⟨b + 1, 0, none⟩ v5).heap[R]? = some (.cells #[s0, s1, x2] TR (0, 0)) ∧
    (∀ i o, w.heap[i]? = some o → i ≠ b → i ≠ b + 1 → i ≠ R → (((((w.setCell ⟨b, 0, none⟩ v4).setCell ⟨R, 0, none⟩ s0).setCell ⟨R, 1, none⟩ s1).setCell ⟨b, 0, none⟩ v4).setCell ⟨b + 1, 0, none⟩ v5).heap[i]? = some o) := by
  have a1 := set_heap (i := 0) h4 v4
  have a2 := set_heap (i := 0) (heap_far (heap_far a1 (p := ⟨R, 0, none⟩) n1.symm s0) (p := ⟨R, 1, none⟩) n1.symm s1) v4
  have a3 := heap_far a2 (p := ⟨b + 1, 0, none⟩) (by simp) v5
  have b1 := heap_far (heap_far (heap_far (heap_far h5 (p := ⟨b, 0, none⟩) (by simp) v4) (p := ⟨R, 0, none⟩) n2.symm s0) (p := ⟨R, 1, none⟩) n2.symm s1) (p := ⟨b, 0, none⟩) (by simp) v4
  have b2 := set_heap (i := 0) b1 v5
  have d1 := set_heap (i := 1) (set_heap (i := 0) (heap_far hR (p := ⟨b, 0, none⟩) n1 v4) s0) s1
  have d2 := heap_far (heap_far d1 (p := ⟨b, 0, none⟩) n1 v4) (p := ⟨b + 1, 0, none⟩) n2 v5
  exact ⟨a3, b2, d2, fun i o ho m1 m2 m3 => heap_far (heap_far (heap_far (heap_far (heap_far ho (p := ⟨b, 0, none⟩) m1 v4) (p := ⟨R, 0, none⟩) m3 s0) (p := ⟨R, 1, none⟩) m3 s1) (p := ⟨b, 0, none⟩) m1 v4) (p := ⟨b + 1, 0, none⟩) m2 v5⟩
theorem BS.to {w w' : World} {A : Option Addr} {bs : List UInt8} (h : BS w A bs) (k : ∀ i o, w.heap[i]? = some o → (∀ {j : Nat} {cs : Array Value} {T : TypeId} {fr : Nat × Nat}, w.heap[j]? = some (.cells cs T fr) → T ≠ 5 → i ≠ j) → w'.heap[i]? = some o) : BS w' A bs := fun hn => by
  obtain ⟨b, off, cs, fr, hA, hb, hc⟩ := h hn
  refine ⟨b, off, cs, fr, hA, k _ _ hb ?_, hc⟩
  rintro j cs' T fr' hj hT rfl
  rw [hb] at hj
  injection hj with hj
  injection hj with _ ht
  exact hT ht.symm
theorem leaves_two {tmps : Array Value} {R : Ending → World → Prop} {b c : Nat} {u v : Value} {w : World} (h1 : w.cell? ⟨b, 0, none⟩ = some u) (h2 : w.cell? ⟨c, 0, none⟩ = some v) (hR : R (.returned (.tuple #[u, v])) w) (ht : tmps[4]?.getD undef = .pointer (some ⟨b, 0, none⟩) := by rfl) (ht2 : tmps[5]?.getD undef = .pointer (some ⟨c, 0, none⟩) := by rfl) : Leaves Tryz.prog Tryz.f116 tmps R [] .returning w := by
  simp [Leaves, results, Tryz.results116, go_sem, ht, ht2, h1, h2, hR]
set_option maxRecDepth 8000 in
set_option maxHeartbeats 3200000 in
theorem readR_any (tag : Int) (T R : Nat) (A : Option Addr) (bs : List UInt8) (c p : Nat) (w : World) (h : Rd w R A bs c p) (hT : w.cell? ⟨T, 0, none⟩ = some (.int .i64 tag)) :
    Calls Tryz.prog 116 #[.pointer (some ⟨R, 0, none⟩), .func (.func 117) #[] #[.pointer (some ⟨T, 0, none⟩)]] w (ReadRPost tag R A bs c p w) := by
  have hmf : ∀ (fn : Fn) (first cap : Array Value) (w : World), (Instr.makeFunc fn first cap).run Tryz.prog w = .ok (.func fn first cap) w := fun _ _ _ _ => rfl
  have hR0 := cell_heap h.1 0
  have hR1 := cell_heap h.1 1
  have hR2 := cell_heap h.1 2
  simp at hR0 hR1 hR2
  have hRlt := h.lt
  have hTlt := World.block_lt_of_cell? w _ hT
  have hx3 : ∀ o1 o2 o3, Ext w (((w.alloc o1).alloc o2).alloc o3) := fun o1 o2 o3 => (((Ext.refl w).alloc _).alloc _).alloc _
  have hi0 : ∀ o1 o2, Inp (((w.alloc o1).alloc o2).alloc (.cells #[.slice A bs.length c, .int .i64 (p : Int)] 95)) (w.heap.size + 1 + 1) A bs c p := fun o1 o2 =>
    ⟨heap_new3 _ _ _ _, h.2.1.ext (hx3 _ _ _), h.2.2⟩
  have HI := Lib.hid hi0
  have HX := Lib.hid hx3
  have HR := Lib.hid h
  clear hi0 hx3 h
  go_enter_defers Tryz.func116, Tryz.ntmps116
  go_wp2_with (go_at_call 61; (with_reducible refine (rnone_f _ _ (by go_simp)).mono ?_); rintro e w' ⟨rfl, rfl⟩)
  generalize hW3 : ((w.alloc (Obj.cells #[Value.pointer none] 69)).alloc (Obj.cells #[Value.int IntKind.i64 0] 25)).alloc (Obj.cells #[Value.slice A bs.length c, Value.int IntKind.i64 ↑p] 95) = W3
  have hi3 : Inp W3 (w.heap.size + 1 + 1) A bs c p := hW3 ▸ HI.out _ _
  have hx3 : Ext w W3 := hW3 ▸ HX.out _ _ _
  have hz3 : W3.heap.size = w.heap.size + 1 + 1 + 1 := by rw [← hW3]; simp
  have k4 : W3.heap[w.heap.size]? = some (.cells #[.pointer none] 69 (0, 0)) := by rw [← hW3]; exact (((Ext.refl _).alloc _).alloc _).heap (heap_new w _)
  have k5 : W3.heap[w.heap.size + 1]? = some (.cells #[.int .i64 0] 25 (0, 0)) := by rw [← hW3]; exact ((Ext.refl _).alloc _).heap (heap_new2 w _ _)
  have hrd3 := HR.out.ext hx3
  clear hR0 hR1 hR2
  have HK := Lib.hid (And.intro k4 k5)
  have HZ := Lib.hid hz3
  clear hW3 k4 k5 hz3
  refine (inner1_any tag T (w.heap.size + 1 + 1) A bs c p W3 hi3 (hx3.cell hT)).mono ?_
  rintro e w4 ⟨hg, ⟨fr, n, R', A', c', hr, rfl, hrd', hR', hfn, hi4⟩ | ⟨er, hr, hne, rfl⟩⟩
  · have HE := Lib.hid hr
    clear hr
    rw [HZ.out] at hR'
    have hz4 : w.heap.size + 1 + 1 + 1 ≤ w4.heap.size := by have := hg.size; rw [HZ.out] at this; exact this
    have j4 : w4.heap[w.heap.size]? = some (.cells #[.pointer none] 69 (0, 0)) := hg.heap HK.out.1 (by omega)
    have j5 : w4.heap[w.heap.size + 1]? = some (.cells #[.int .i64 0] 25 (0, 0)) := hg.heap HK.out.2 (by omega)
    have hrd4 : Rd w4 R A bs c p := hrd3.gr hg (by omega) ⟨_, _, hi3.1⟩ (by decide)
    have c4 := cell_heap j4 0
    have f4 := frozen_heap j4 0
    have c5 := cell_heap j5 0
    have f5 := frozen_heap j5 0
    have cX0 := cell_heap hi4.1 0
    have cX1 := cell_heap hi4.1 1
    have cR0 := cell_heap hrd4.1 0
    have cR1 := cell_heap hrd4.1 1
    have fR0 := frozen_heap hrd4.1 0
    have fR1 := frozen_heap hrd4.1 1
    simp at c4 c5 cX0 cX1 cR0 cR1
    have n1 : R ≠ w.heap.size := by omega
    have n2 : R ≠ w.heap.size + 1 := by omega
    have n3 : R ≠ w.heap.size + 1 + 1 := by omega
    have H4 := Lib.hid hrd4
    have H5 := Lib.hid hi4
    have H6 := Lib.hid hrd'
    have HJ := Lib.hid (And.intro j4 j5)
    clear hrd4 hi4 hrd' j4 j5 hrd3 hi3
    go_wp2
    generalize hW5 : ((((w4.setCell ⟨w.heap.size, 0, none⟩ (.pointer (some ⟨R', 0, none⟩))).setCell ⟨R, 0, none⟩ (.slice A bs.length c)).setCell ⟨R, 1, none⟩ (.int .i64 ((fr : Int) + n))).setCell ⟨w.heap.size, 0, none⟩ (.pointer (some ⟨R', 0, none⟩))).setCell ⟨w.heap.size + 1, 0, none⟩ (.int .i64 0) = W5
    have g1 : Gr R w W5 := by
      rw [← hW5]
      have e := Gr.of_ext (X := R) (hg.ext hx3 (by omega))
      have e1 := e.setCell (p := ⟨w.heap.size, 0, none⟩) (.inr (Nat.le_refl _)) (.pointer (some ⟨R', 0, none⟩))
      have e2 := e1.setCell (p := ⟨R, 0, none⟩) (.inl rfl) (.slice A bs.length c)
      have e3 := e2.setCell (p := ⟨R, 1, none⟩) (.inl rfl) (.int .i64 ((fr : Int) + n))
      have e4 := e3.setCell (p := ⟨w.heap.size, 0, none⟩) (.inr (Nat.le_refl _)) (.pointer (some ⟨R', 0, none⟩))
      exact e4.setCell (p := ⟨w.heap.size + 1, 0, none⟩) (.inr (Nat.le_succ _)) (.int .i64 0)
    obtain ⟨r1, r2, r5, r6⟩ := close_ok (v4 := .pointer (some ⟨R', 0, none⟩)) (s0 := .slice A bs.length c) (s1 := .int .i64 ((fr : Int) + n)) (v5 := .int .i64 0) HJ.out.1 HJ.out.2 H4.out.1 n1 n2
    rw [hW5] at r1 r2 r5 r6
    have r3 : Rd W5 R A bs c (fr + n) := ⟨r5, (H4.out.2.1).to (fun i o ho hne => r6 i o ho (hne HJ.out.1 (by decide)) (hne HJ.out.2 (by decide)) (hne H4.out.1 (by decide))), H4.out.2.2.1, H4.out.2.2.2.1, hfn⟩
    have r4 : Rd W5 R' A' ((bs.drop fr).take n) c' 0 := ⟨r6 _ _ H6.out.1 (by omega) (by omega) (by omega), (H6.out.2.1).to (fun i o ho hne => r6 i o ho (hne HJ.out.1 (by decide)) (hne HJ.out.2 (by decide)) (hne H4.out.1 (by decide))), H6.out.2.2⟩
    have q1 := cell_heap r1 0
    have q2 := cell_heap r2 0
    simp at q1 q2
    have HQ := Lib.hid (And.intro r3 r4)
    have HG := Lib.hid g1
    clear hW5 r1 r2 r3 r4 g1 hg c4 f4 c5 f5 fR0 fR1 cX0 cX1 cR0 cR1
    refine leaves_cons (f := 128) (args := #[.pointer (some ⟨w.heap.size, 0, none⟩), .pointer (some ⟨w.heap.size + 1, 0, none⟩)]) (by simp) (by simp [go_sem]) ?_
    refine (readRc_idle _ _ _).mono ?_
    rintro e u' w'' ⟨rfl, rfl, rfl⟩
    refine leaves_two q1 q2 ?_
    exact .inl ⟨_, _, _, _, _, HE.out, rfl, HQ.out.2, by omega, hfn, HQ.out.1, HG.out⟩
  · have HE := Lib.hid hr
    clear hr
    have j4 : w4.heap[w.heap.size]? = some (.cells #[.pointer none] 69 (0, 0)) := hg.heap HK.out.1 (by omega)
    have j5 : w4.heap[w.heap.size + 1]? = some (.cells #[.int .i64 0] 25 (0, 0)) := hg.heap HK.out.2 (by omega)
    have c4 := cell_heap j4 0
    have f4 := frozen_heap j4 0
    have c5 := cell_heap j5 0
    have f5 := frozen_heap j5 0
    simp at c4 c5
    have hx4 : Ext w w4 := hg.ext hx3 (by omega)
    have r1 := heap_far (set_heap (i := 0) j4 (.pointer none)) (p := ⟨w.heap.size + 1, 0, none⟩) (by simp) (.int .i64 er)
    have r2 := set_heap (i := 0) (heap_far j5 (p := ⟨w.heap.size, 0, none⟩) (by simp) (.pointer none)) (.int .i64 er)
    have q1 := cell_heap r1 0
    have q2 := cell_heap r2 0
    simp at q1 q2
    have HX4 := Lib.hid ((hx4.setCell (p := ⟨w.heap.size, 0, none⟩) (Nat.le_refl _) (.pointer none)).setCell (p := ⟨w.heap.size + 1, 0, none⟩) (Nat.le_succ _) (.int .i64 er))
    clear r1 r2 j4 j5 hx4 hg hrd3 hi3
    go_wp2
    refine leaves_cons (f := 128) (args := #[.pointer (some ⟨w.heap.size, 0, none⟩), .pointer (some ⟨w.heap.size + 1, 0, none⟩)]) (by simp) (by simp [go_sem]) ?_
    refine (readRc_panics _ _ er _ _ _ (by omega) c4 f4 c5 f5).mono ?_
    rintro e u' w'' ⟨rfl, rfl, rfl⟩
    refine leaves_two q1 q2 ?_
    exact .inr ⟨_, HE.out, hne, rfl, HX4.out⟩
end Go.Proofs.YtdpjkocpdomkbaaGreatDoor
