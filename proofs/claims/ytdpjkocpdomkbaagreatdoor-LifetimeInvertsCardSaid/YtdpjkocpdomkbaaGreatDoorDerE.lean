/- Contracts of package der's reading of a time, and of its readers' methods. Bytes of at most 2^47. -/
import Derived.Test.YtdpjkocpdomkbaaGreatDoorDerD
namespace Go.Proofs.YtdpjkocpdomkbaaGreatDoor
open Go.RowKit
/-- The time at an offset: the error, the time, the offset behind it. -/
def timeR (bs : List UInt8) (p : Nat) : Int × Nat × Nat :=
  if (elR 24 bs p).1 = 0 then
    if (elR 24 bs p).2.2 = 6 ∧ beN ((bs.drop (elR 24 bs p).2.1).take 6) ≤ 1099511627776 then (0, beN ((bs.drop (elR 24 bs p).2.1).take 6), (elR 24 bs p).2.1 + 6) else (6, 0, 0)
  else ((elR 24 bs p).1, 0, 0)
def Time1Post (X : Nat) (A : Option Addr) (bs : List UInt8) (c p : Nat) (w : World) (e : Ending) (w' : World) : Prop :=
  Gr X w w' ∧ ((∃ (v q : Nat), timeR bs p = (0, v, q) ∧ e = .returned (.int .i64 (v : Int)) ∧ Inp w' X A bs c q) ∨ (∃ er, timeR bs p = (er, 0, 0) ∧ er ≠ 0 ∧ e = .panicked [{ v := .iface 25 (.int .i64 er), recovered := false }]))
set_option maxRecDepth 8000 in
set_option maxHeartbeats 1600000 in
theorem time1_any (X : Nat) (A : Option Addr) (bs : List UInt8) (c p : Nat) (w : World) (h : Inp w X A bs c p) :
    Calls Tryz.prog 121 #[.pointer (some ⟨X, 0, none⟩)] w (Time1Post X A bs c p w) := by
  go_enter Tryz.func121, Tryz.ntmps121
  go_wp2_with fail
  (go_at_call 118; (with_reducible refine (contents_any 24 X A bs c p w h).mono ?_); rintro e w1 ⟨hg, ⟨fr, n, A1, hr, rfl, hb, hfn, hi⟩ | ⟨er, hr, hne, rfl⟩⟩)
  · have HR : Hid (timeR bs p = if n = 6 ∧ beN ((bs.drop fr).take 6) ≤ 1099511627776 then (0, beN ((bs.drop fr).take 6), fr + 6) else (6, 0, 0)) := by
      unfold timeR; rw [hr]; exact rfl
    clear hr
    by_cases hn : n = 6
    · subst hn
      have hln : ((bs.drop fr).take 6).length = 6 := by simp; omega
      have Hln := Lib.hid hln
      clear hln
      generalize hv : beN ((bs.drop fr).take 6) = v at HR
      have HV := Lib.hid hv
      clear hv
      by_cases ht : v ≤ 1099511627776
      · have d1 : decide ((v : Int) ≤ 1099511627776) = true := by simp; omega
        go_wp2_with (first | (go_at_call 122; (with_reducible refine (need_t _ _).mono ?_); rintro e w' ⟨rfl, rfl⟩) | (go_at_call 123; (with_reducible refine (value_n A1 _ 6 6 _ hb Hln.out (by omega)).mono ?_); rintro e w' ⟨rfl, rfl⟩; rw [HV.out]))
        go_ret
        exact ⟨hg, .inl ⟨_, _, HR.out.trans (if_pos (by first | exact ⟨rfl, ht⟩ | exact ⟨trivial, ht⟩)), rfl, hi⟩⟩
      · have d1 : decide ((v : Int) ≤ 1099511627776) = false := by simp; omega
        go_wp2_with (first | (go_at_call 122; (with_reducible refine (need_t _ _).mono ?_); rintro e w' ⟨rfl, rfl⟩) | (go_at_call 122; (with_reducible refine (need_f _ _).mono ?_); rintro e w' ⟨rfl, rfl⟩) | (go_at_call 123; (with_reducible refine (value_n A1 _ 6 6 _ hb Hln.out (by omega)).mono ?_); rintro e w' ⟨rfl, rfl⟩; rw [HV.out]))
        exact ⟨rfl, hg, .inr ⟨_, HR.out.trans (if_neg (fun q => ht q.2)), by decide, rfl⟩⟩
    · have d1 : ((n : Int) == 6) = false := by simp; omega
      go_wp2_with (first | (go_at_call 122; (with_reducible refine (need_f _ _).mono ?_); rintro e w' ⟨rfl, rfl⟩))
      exact ⟨rfl, hg, .inr ⟨_, HR.out.trans (if_neg (fun q => hn q.1)), by decide, rfl⟩⟩
  · have HR : Hid (timeR bs p = (er, 0, 0)) := by
      unfold timeR; rw [hr, if_neg hne]; exact rfl
    clear hr
    go_wp2
    exact ⟨rfl, hg, .inr ⟨_, HR.out, hne, rfl⟩⟩
def ReadIPost (R : Nat) (A : Option Addr) (bs : List UInt8) (c p : Nat) (w : World) (e : Ending) (w' : World) : Prop :=
  (∃ (v q : Nat), timeR bs p = (0, v, q) ∧ e = .returned (.tuple #[.int .i64 (v : Int), .int .i64 0]) ∧ Rd w' R A bs c q ∧ Gr R w w') ∨
  (∃ er, timeR bs p = (er, 0, 0) ∧ er ≠ 0 ∧ e = .returned (.tuple #[.int .i64 0, .int .i64 er]) ∧ Ext w w')
set_option maxRecDepth 8000 in
set_option maxHeartbeats 1600000 in
theorem readIc_panics (b4 b5 : Nat) (er : Int) (u4 u5 : Value) (w : World) (hne : b4 ≠ b5) (h4 : w.cell? ⟨b4, 0, none⟩ = some u4) (f4 : w.frozen? ⟨b4, 0, none⟩ = false) (h5 : w.cell? ⟨b5, 0, none⟩ = some u5) (f5 : w.frozen? ⟨b5, 0, none⟩ = false) :
    CallsD Tryz.prog 131 #[.pointer (some ⟨b4, 0, none⟩), .pointer (some ⟨b5, 0, none⟩)] (.panicking [{ v := .iface 25 (.int .i64 er), recovered := false }]) w fun e u' w' =>
      e = .returned (.tuple #[]) ∧ u' = .panicking [{ v := .iface 25 (.int .i64 er), recovered := true }] ∧ w' = (w.setCell ⟨b4, 0, none⟩ (.int .i64 0)).setCell ⟨b5, 0, none⟩ (.int .i64 er) := by
  have hta := assert_errno
  have h5' : (w.setCell ⟨b4, 0, none⟩ (.int .i64 0)).cell? ⟨b5, 0, none⟩ = some u5 := (World.cell?_setCell_other w _ _ _ (fun e => hne (by injection e))).trans h5
  refine callsD_of_wpS Tryz.func131 rfl fun c₀ cs hu => ?_
  simp only [Tryz.ntmps131, List.size_toArray, List.length_cons, List.length_nil, Nat.reduceAdd, Nat.reduceSub, Array.replicate_succ, Array.replicate_zero, List.push_toArray, List.append_toArray, List.nil_append, List.cons_append]
  apply wpS_seq
  apply wpS_region
  simp [wpOpsS, go_sem, recoverD, hu, Exit.thenS]
  refine wpS_of_wp ?_
  go_wp2
  simp [bodyPostS, results, Tryz.results131]
set_option maxRecDepth 8000 in
set_option maxHeartbeats 1600000 in
theorem readIc_idle (b4 b5 : Nat) (w : World) :
    CallsD Tryz.prog 131 #[.pointer (some ⟨b4, 0, none⟩), .pointer (some ⟨b5, 0, none⟩)] .returning w fun e u' w' => e = .returned (.tuple #[]) ∧ u' = .returning ∧ w' = w := by
  refine callsD_of_wpS Tryz.func131 rfl fun c₀ cs hu => ?_
  simp only [Tryz.ntmps131, List.size_toArray, List.length_cons, List.length_nil, Nat.reduceAdd, Nat.reduceSub, Array.replicate_succ, Array.replicate_zero, List.push_toArray, List.append_toArray, List.nil_append, List.cons_append]
  apply wpS_seq
  apply wpS_region
  simp [wpOpsS, go_sem, recoverD, hu, Exit.thenS]
  refine wpS_of_wp ?_
  go_wp2
  cases c₀
  simp_all [bodyPostS, results, Tryz.results131]
theorem leaves_twoI {tmps : Array Value} {R : Ending → World → Prop} {b c : Nat} {u v : Value} {w : World} (h1 : w.cell? ⟨b, 0, none⟩ = some u) (h2 : w.cell? ⟨c, 0, none⟩ = some v) (hR : R (.returned (.tuple #[u, v])) w) (ht : tmps[4]?.getD undef = .pointer (some ⟨b, 0, none⟩) := by rfl) (ht2 : tmps[5]?.getD undef = .pointer (some ⟨c, 0, none⟩) := by rfl) : Leaves Tryz.prog Tryz.f120 tmps R [] .returning w := by
  simp [Leaves, results, Tryz.results120, go_sem, ht, ht2, h1, h2, hR]
set_option maxRecDepth 8000 in
set_option maxHeartbeats 3200000 in
theorem readI_any  (R : Nat) (A : Option Addr) (bs : List UInt8) (c p : Nat) (w : World) (h : Rd w R A bs c p) :
    Calls Tryz.prog 120 #[.pointer (some ⟨R, 0, none⟩), .func (.func 121) #[] #[]] w (ReadIPost R A bs c p w) := by
  have hmf : ∀ (fn : Fn) (first cap : Array Value) (w : World), (Instr.makeFunc fn first cap).run Tryz.prog w = .ok (.func fn first cap) w := fun _ _ _ _ => rfl
  have hR0 := cell_heap h.1 0
  have hR1 := cell_heap h.1 1
  have hR2 := cell_heap h.1 2
  simp at hR0 hR1 hR2
  have hRlt := h.lt
  have hx3 : ∀ o1 o2 o3, Ext w (((w.alloc o1).alloc o2).alloc o3) := fun o1 o2 o3 => (((Ext.refl w).alloc _).alloc _).alloc _
  have hi0 : ∀ o1 o2, Inp (((w.alloc o1).alloc o2).alloc (.cells #[.slice A bs.length c, .int .i64 (p : Int)] 95)) (w.heap.size + 1 + 1) A bs c p := fun o1 o2 =>
    ⟨heap_new3 _ _ _ _, h.2.1.ext (hx3 _ _ _), h.2.2⟩
  have HI := Lib.hid hi0
  have HX := Lib.hid hx3
  have HR := Lib.hid h
  clear hi0 hx3 h
  go_enter_defers Tryz.func120, Tryz.ntmps120
  go_wp2_with (go_at_call 61; (with_reducible refine (rnone_f _ _ (by go_simp)).mono ?_); rintro e w' ⟨rfl, rfl⟩)
  generalize hW3 : ((w.alloc (Obj.cells #[Value.int IntKind.i64 0] 3)).alloc (Obj.cells #[Value.int IntKind.i64 0] 25)).alloc (Obj.cells #[Value.slice A bs.length c, Value.int IntKind.i64 ↑p] 95) = W3
  have hi3 : Inp W3 (w.heap.size + 1 + 1) A bs c p := hW3 ▸ HI.out _ _
  have hx3 : Ext w W3 := hW3 ▸ HX.out _ _ _
  have hz3 : W3.heap.size = w.heap.size + 1 + 1 + 1 := by rw [← hW3]; simp
  have k4 : W3.heap[w.heap.size]? = some (.cells #[.int .i64 0] 3 (0, 0)) := by rw [← hW3]; exact (((Ext.refl _).alloc _).alloc _).heap (heap_new w _)
  have k5 : W3.heap[w.heap.size + 1]? = some (.cells #[.int .i64 0] 25 (0, 0)) := by rw [← hW3]; exact ((Ext.refl _).alloc _).heap (heap_new2 w _ _)
  have hrd3 := HR.out.ext hx3
  clear hR0 hR1 hR2
  have HK := Lib.hid (And.intro k4 k5)
  have HZ := Lib.hid hz3
  clear hW3 k4 k5 hz3
  refine (time1_any (w.heap.size + 1 + 1) A bs c p W3 hi3).mono ?_
  rintro e w4 ⟨hg, ⟨v, q, hr, rfl, hi4⟩ | ⟨er, hr, hne, rfl⟩⟩
  · have HE := Lib.hid hr
    clear hr
    have hz4 : w.heap.size + 1 + 1 + 1 ≤ w4.heap.size := by have := hg.size; rw [HZ.out] at this; exact this
    have j4 : w4.heap[w.heap.size]? = some (.cells #[.int .i64 0] 3 (0, 0)) := hg.heap HK.out.1 (by omega)
    have j5 : w4.heap[w.heap.size + 1]? = some (.cells #[.int .i64 0] 25 (0, 0)) := hg.heap HK.out.2 (by omega)
    have hrd4 : Rd w4 R A bs c p := hrd3.gr hg (by omega) ⟨_, _, hi3.1⟩ (by decide)
    have c4 := cell_heap j4 0
    have f4 := frozen_heap j4 0
    have c5 := cell_heap j5 0
    have f5 := frozen_heap j5 0
    have cX0 := cell_heap hi4.1 0
    have cX1 := cell_heap hi4.1 1
    have cR0 := cell_heap hrd4.1 0
    have cR1 := cell_heap hrd4.1 1
    have fR0 := frozen_heap hrd4.1 0
    have fR1 := frozen_heap hrd4.1 1
    simp at c4 c5 cX0 cX1 cR0 cR1
    have n1 : R ≠ w.heap.size := by omega
    have n2 : R ≠ w.heap.size + 1 := by omega
    have n3 : R ≠ w.heap.size + 1 + 1 := by omega
    have H4 := Lib.hid hrd4
    have H5 := Lib.hid hi4
    have HJ := Lib.hid (And.intro j4 j5)
    clear hrd4 hi4 j4 j5 hrd3 hi3
    go_wp2
    generalize hW5 : ((((w4.setCell ⟨w.heap.size, 0, none⟩ (.int .i64 (v : Int))).setCell ⟨R, 0, none⟩ (.slice A bs.length c)).setCell ⟨R, 1, none⟩ (.int .i64 (q : Int))).setCell ⟨w.heap.size, 0, none⟩ (.int .i64 (v : Int))).setCell ⟨w.heap.size + 1, 0, none⟩ (.int .i64 0) = W5
    have g1 : Gr R w W5 := by
      rw [← hW5]
      have e := Gr.of_ext (X := R) (hg.ext hx3 (by omega))
      have e1 := e.setCell (p := ⟨w.heap.size, 0, none⟩) (.inr (Nat.le_refl _)) (.int .i64 (v : Int))
      have e2 := e1.setCell (p := ⟨R, 0, none⟩) (.inl rfl) (.slice A bs.length c)
      have e3 := e2.setCell (p := ⟨R, 1, none⟩) (.inl rfl) (.int .i64 (q : Int))
      have e4 := e3.setCell (p := ⟨w.heap.size, 0, none⟩) (.inr (Nat.le_refl _)) (.int .i64 (v : Int))
      exact e4.setCell (p := ⟨w.heap.size + 1, 0, none⟩) (.inr (Nat.le_succ _)) (.int .i64 0)
    obtain ⟨r1, r2, r5, r6⟩ := close_ok (v4 := .int .i64 (v : Int)) (s0 := .slice A bs.length c) (s1 := .int .i64 (q : Int)) (v5 := .int .i64 0) HJ.out.1 HJ.out.2 H4.out.1 n1 n2
    rw [hW5] at r1 r2 r5 r6
    have r3 : Rd W5 R A bs c q := ⟨r5, (H4.out.2.1).to (fun i o ho hne => r6 i o ho (hne HJ.out.1 (by decide)) (hne HJ.out.2 (by decide)) (hne H4.out.1 (by decide))), H4.out.2.2.1, H4.out.2.2.2.1, H5.out.2.2.2.2⟩
    have q1 := cell_heap r1 0
    have q2 := cell_heap r2 0
    simp at q1 q2
    have HQ := Lib.hid r3
    have HG := Lib.hid g1
    clear hW5 r1 r2 r3 g1 hg c4 f4 c5 f5 fR0 fR1 cX0 cX1 cR0 cR1
    refine leaves_cons (f := 131) (args := #[.pointer (some ⟨w.heap.size, 0, none⟩), .pointer (some ⟨w.heap.size + 1, 0, none⟩)]) (by simp) (by simp [go_sem]) ?_
    refine (readIc_idle _ _ _).mono ?_
    rintro e u' w'' ⟨rfl, rfl, rfl⟩
    refine leaves_twoI q1 q2 ?_
    exact .inl ⟨_, _, HE.out, rfl, HQ.out, HG.out⟩
  · have HE := Lib.hid hr
    clear hr
    have j4 : w4.heap[w.heap.size]? = some (.cells #[.int .i64 0] 3 (0, 0)) := hg.heap HK.out.1 (by omega)
    have j5 : w4.heap[w.heap.size + 1]? = some (.cells #[.int .i64 0] 25 (0, 0)) := hg.heap HK.out.2 (by omega)
    have c4 := cell_heap j4 0
    have f4 := frozen_heap j4 0
    have c5 := cell_heap j5 0
    have f5 := frozen_heap j5 0
    simp at c4 c5
    have hx4 : Ext w w4 := hg.ext hx3 (by omega)
    have r1 := heap_far (set_heap (i := 0) j4 (.int .i64 0)) (p := ⟨w.heap.size + 1, 0, none⟩) (by simp) (.int .i64 er)
    have r2 := set_heap (i := 0) (heap_far j5 (p := ⟨w.heap.size, 0, none⟩) (by simp) (.int .i64 0)) (.int .i64 er)
    have q1 := cell_heap r1 0
    have q2 := cell_heap r2 0
    simp at q1 q2
    have HX4 := Lib.hid ((hx4.setCell (p := ⟨w.heap.size, 0, none⟩) (Nat.le_refl _) (.int .i64 0)).setCell (p := ⟨w.heap.size + 1, 0, none⟩) (Nat.le_succ _) (.int .i64 er))
    clear r1 r2 j4 j5 hx4 hg hrd3 hi3
    go_wp2
    refine leaves_cons (f := 131) (args := #[.pointer (some ⟨w.heap.size, 0, none⟩), .pointer (some ⟨w.heap.size + 1, 0, none⟩)]) (by simp) (by simp [go_sem]) ?_
    refine (readIc_panics _ _ er _ _ _ (by omega) c4 f4 c5 f5).mono ?_
    rintro e u' w'' ⟨rfl, rfl, rfl⟩
    refine leaves_twoI q1 q2 ?_
    exact .inr ⟨_, HE.out, hne, rfl, HX4.out⟩
theorem time_any (R : Nat) (A : Option Addr) (bs : List UInt8) (c p : Nat) (w : World) (h : Rd w R A bs c p) :
    Calls Tryz.prog 103 #[.pointer (some ⟨R, 0, none⟩)] w (ReadIPost R A bs c p w) := by
  go_enter Tryz.func103, Tryz.ntmps103
  go_wp2_with fail
  (go_at_call 120; (with_reducible refine (readI_any R A bs c p w h).mono ?_); rintro e w1 (⟨v, q, hr, rfl, hrd, hg⟩ | ⟨er, hr, hne, rfl, hx⟩))
  · have HR := Lib.hid hr
    clear hr
    go_wp2
    go_ret2
    exact .inl ⟨_, _, HR.out, rfl, hrd, hg⟩
  · have HR := Lib.hid hr
    clear hr
    go_wp2
    go_ret2
    exact .inr ⟨_, HR.out, hne, rfl, hx⟩
set_option maxHeartbeats 800000 in
theorem inner_any (tag : Int) (R : Nat) (A : Option Addr) (bs : List UInt8) (c p : Nat) (w : World) (h : Rd w R A bs c p) :
    Calls Tryz.prog 100 #[.pointer (some ⟨R, 0, none⟩), .int .i64 tag] w (ReadRPost tag R A bs c p w) := by
  have hmf : ∀ (fn : Fn) (first cap : Array Value) (w : World), (Instr.makeFunc fn first cap).run Tryz.prog w = .ok (.func fn first cap) w := fun _ _ _ _ => rfl
  have hx0 := (Ext.refl w).alloc (.cells #[.int .i64 tag] 3)
  have h2 := h.ext hx0
  have HX := Lib.hid hx0
  have H2 := Lib.hid h2
  have hlt := h.lt
  have HH := Lib.hid h
  clear hx0 h2 h
  go_enter Tryz.func100, Tryz.ntmps100
  go_wp2_with fail
  (go_at_call 116; (with_reducible refine (readR_any tag w.heap.size R A bs c p _ H2.out (cell_heap (heap_new w _) 0)).mono ?_); rintro e w1 (⟨fr, n, R', A', c', hr, rfl, hrd', hR', hfn, hrd, hg⟩ | ⟨er, hr, hne, rfl, hx⟩))
  · have HR := Lib.hid hr
    clear hr
    go_wp2
    go_ret2
    refine .inl ⟨_, _, _, _, _, HR.out, rfl, hrd', by simp at hR'; omega, hfn, hrd, (Gr.of_ext HX.out).trans hg⟩
  · have HR := Lib.hid hr
    clear hr
    go_wp2
    go_ret2
    exact .inr ⟨_, HR.out, hne, rfl, HX.out.trans hx⟩
set_option maxHeartbeats 800000 in
theorem sequence_any (R : Nat) (A : Option Addr) (bs : List UInt8) (c p : Nat) (w : World) (h : Rd w R A bs c p) :
    Calls Tryz.prog 83 #[.pointer (some ⟨R, 0, none⟩)] w (ReadRPost 48 R A bs c p w) := by
  go_enter Tryz.func83, Tryz.ntmps83
  go_wp2_with fail
  (go_at_call 100; (with_reducible refine (inner_any 48 R A bs c p _ h).mono ?_); rintro e w1 (⟨fr, n, R', A', c', hr, rfl, hrd', hR', hfn, hrd, hg⟩ | ⟨er, hr, hne, rfl, hx⟩))
  · have HR := Lib.hid hr
    clear hr
    go_wp2
    go_ret2
    exact .inl ⟨_, _, _, _, _, HR.out, rfl, hrd', hR', hfn, hrd, hg⟩
  · have HR := Lib.hid hr
    clear hr
    go_wp2
    go_ret2
    exact .inr ⟨_, HR.out, hne, rfl, hx⟩
set_option maxHeartbeats 1600000 in
theorem numbered_any (tag k : Int) (hk0 : 0 ≤ k) (hk1 : k ≤ 30) (ht0 : 0 ≤ tag) (ht1 : tag ≤ 255) (R : Nat) (A : Option Addr) (bs : List UInt8) (c p : Nat) (w : World) (h : Rd w R A bs c p) :
    Calls Tryz.prog 119 #[.pointer (some ⟨R, 0, none⟩), .int .i64 tag, .int .i64 k] w (ReadRPost (tag + k) R A bs c p w) := by
  have hR2 := cell_heap h.1 2
  simp at hR2
  have d1 : decide (k < 0) = false := by simp; omega
  have d2 : decide (30 < k) = false := by simp; omega
  go_enter Tryz.func119, Tryz.ntmps119
  go_wp2_with (first | (go_at_call 61; (with_reducible refine (rnone_f _ _ hR2).mono ?_); rintro e w' ⟨rfl, rfl⟩))
  (go_at_call 100; (with_reducible refine (inner_any (tag + k) R A bs c p _ h).mono ?_); rintro e w1 (⟨fr, n, R', A', c', hr, rfl, hrd', hR', hfn, hrd, hg⟩ | ⟨er, hr, hne, rfl, hx⟩))
  · have HR := Lib.hid hr
    clear hr
    go_wp2
    go_ret2
    exact .inl ⟨_, _, _, _, _, HR.out, rfl, hrd', hR', hfn, hrd, hg⟩
  · have HR := Lib.hid hr
    clear hr
    go_wp2
    go_ret2
    exact .inr ⟨_, HR.out, hne, rfl, hx⟩
end Go.Proofs.YtdpjkocpdomkbaaGreatDoor
