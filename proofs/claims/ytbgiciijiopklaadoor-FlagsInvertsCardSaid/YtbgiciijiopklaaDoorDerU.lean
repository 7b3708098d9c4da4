/- Contracts of package der's reading of flags. Bytes of at most 2^47. -/
import Derived.Test.YtbgiciijiopklaaDoorDerC
import Derived.Defers
import Derived.Recover
namespace Go.Proofs.YtbgiciijiopklaaDoor
open Go.RowKit
theorem assert_errno (v : Value) (w : World) : (Instr.typeAssert (.iface 29 v) 20 29 true).run Tryd.prog w = .ok (.tuple #[v, .bool true]) w := by
  kernel_rfl
theorem Inp.ext {w w' : World} {X : Nat} {A : Option Addr} {bs : List UInt8} {c p : Nat} (h : Inp w X A bs c p) (e : Ext w w') : Inp w' X A bs c p := ⟨e.heap h.1, h.2.1.ext e, h.2.2⟩
theorem heap_far {w : World} {b : Nat} {o : Obj} (h : w.heap[b]? = some o) {p : Addr} (hne : b ≠ p.block) (v : Value) : (w.setCell p v).heap[b]? = some o := (Below.heap_setCell w p v b hne).trans h
theorem close_ok {w : World} {b R : Nat} {u4 u5 v4 v5 z0 z1 s0 s1 x2 : Value} {T4 T5 TR : TypeId} (h4 : w.heap[b]? = some (.cells #[u4] T4 (0, 0))) (h5 : w.heap[b + 1]? = some (.cells #[u5] T5 (0, 0))) (hR : w.heap[R]? = some (.cells #[z0, z1, x2] TR (0, 0))) (n1 : R ≠ b) (n2 : R ≠ b + 1) :
    (((((w.setCell ⟨b, 0, none⟩ v4).setCell ⟨R, 0, none⟩ s0).setCell ⟨R, 1, none⟩ s1).setCell ⟨b, 0, none⟩ v4).setCell ⟨b + 1, 0, none⟩ v5).heap[b]? = some (.cells #[v4] T4 (0, 0)) ∧
    (((((w.setCell ⟨b, 0, none⟩ v4).setCell ⟨R, 0, none⟩ s0).setCell ⟨R, 1, none⟩ s1).setCell ⟨b, 0, none⟩ v4).setCell ⟨b + 1, 0, none⟩ v5).heap[b + 1]? = some (.cells #[v5] T5 (0, 0)) ∧
    (((((w.setCell ⟨b, 0, none⟩ v4).setCell ⟨R, 0, none⟩ s0).setCell ⟨R, 1, none⟩ s1).setCell ⟨b, 0, none⟩ v4).setCell ⟨b + 1, 0, none⟩ v5).heap[R]? = some (.cells #[s0, s1, x2] TR (0, 0)) ∧
    (∀ i o, w.heap[i]? = some o → i ≠ b → i ≠ b + 1 → i ≠ R → (((((w.setCell ⟨b, 0, none⟩ v4).setCell ⟨R, 0, none⟩ s0).setCell ⟨R, 1, none⟩ s1).setCell ⟨b, 0, none⟩ v4).setCell ⟨b + 1, 0, none⟩ v5).heap[i]? = some o) := by
  have a1 := set_heap (i := 0) h4 v4
  have a2 := set_heap (i := 0) (heap_far (heap_far a1 (p := ⟨R, 0, none⟩) n1.symm s0) (p := ⟨R, 1, none⟩) n1.symm s1) v4
  have a3 := heap_far a2 (p := ⟨b + 1, 0, none⟩) (by simp) v5
  have b1 := heap_far (heap_far (heap_far (heap_far h5 (p := ⟨b, 0, none⟩) (by simp) v4) (p := ⟨R, 0, none⟩) n2.symm s0) (p := ⟨R, 1, none⟩) n2.symm s1) (p := ⟨b, 0, none⟩) (by simp) v4
  have b2 := set_heap (i := 0) b1 v5
  have d1 := set_heap (i := 1) (set_heap (i := 0) (heap_far hR (p := ⟨b, 0, none⟩) n1 v4) s0) s1
  have d2 := heap_far (heap_far d1 (p := ⟨b, 0, none⟩) n1 v4) (p := ⟨b + 1, 0, none⟩) n2 v5
  exact ⟨a3, b2, d2, fun i o ho m1 m2 m3 => heap_far (heap_far (heap_far (heap_far (heap_far ho (p := ⟨b, 0, none⟩) m1 v4) (p := ⟨R, 0, none⟩) m3 s0) (p := ⟨R, 1, none⟩) m3 s1) (p := ⟨b, 0, none⟩) m1 v4) (p := ⟨b + 1, 0, none⟩) m2 v5⟩
theorem BS.to {w w' : World} {A : Option Addr} {bs : List UInt8} (h : BS w A bs) (k : ∀ i o, w.heap[i]? = some o → (∀ {j : Nat} {cs : Array Value} {T : TypeId} {fr : Nat × Nat}, w.heap[j]? = some (.cells cs T fr) → T ≠ 5 → i ≠ j) → w'.heap[i]? = some o) : BS w' A bs := fun hn => by
  obtain ⟨b, off, cs, fr, hA, hb, hc⟩ := h hn
  refine ⟨b, off, cs, fr, hA, k _ _ hb ?_, hc⟩
  rintro j cs' T fr' hj hT rfl
  rw [hb] at hj
  injection hj with hj
  injection hj with _ ht
  exact hT ht.symm
/-- The flags at an offset: the error, the flags, the offset behind them. -/
def bitsR (bs : List UInt8) (p : Nat) : Int × Nat × Nat :=
  if (elR 3 bs p).1 = 0 then
    if (elR 3 bs p).2.2 = 5 ∧ beN ((bs.drop (elR 3 bs p).2.1).take 5) < 4294967296 then (0, beN ((bs.drop (elR 3 bs p).2.1).take 5), (elR 3 bs p).2.1 + 5) else (6, 0, 0)
  else ((elR 3 bs p).1, 0, 0)
theorem five (l : List UInt8) (h : l.length = 5) : beN l < 4294967296 ↔ (l[0]'(by omega)).toNat = 0 := by
  match l, h with
  | [a, b, c, d, e], _ =>
    have := a.toNat_lt; have := b.toNat_lt; have := c.toNat_lt; have := d.toNat_lt; have := e.toNat_lt
    simp only [beN, List.foldl_cons, List.foldl_nil, List.getElem_cons_zero]
    omega
theorem beN_five (l : List UInt8) (h : l.length = 5) : beN l = (l[0]'(by omega)).toNat * 4294967296 + (l[1]'(by omega)).toNat * 16777216 + (l[2]'(by omega)).toNat * 65536 + (l[3]'(by omega)).toNat * 256 + (l[4]'(by omega)).toNat := by
  match l, h with
  | [a, b, c, d, e], _ =>
    simp only [beN, List.foldl_cons, List.foldl_nil, List.getElem_cons_zero, List.getElem_cons_succ]
    omega
def Bits1Post (X : Nat) (A : Option Addr) (bs : List UInt8) (c p : Nat) (w : World) (e : Ending) (w' : World) : Prop :=
  Gr X w w' ∧ ((∃ (v q : Nat), bitsR bs p = (0, v, q) ∧ e = .returned (.int .u32 (v : Int)) ∧ Inp w' X A bs c q) ∨ (∃ er, bitsR bs p = (er, 0, 0) ∧ er ≠ 0 ∧ e = .panicked [{ v := .iface 29 (.int .i64 er), recovered := false }]))
set_option maxRecDepth 8000 in
set_option maxHeartbeats 1600000 in
theorem bits1_any (X : Nat) (A : Option Addr) (bs : List UInt8) (c p : Nat) (w : World) (h : Inp w X A bs c p) :
    Calls Tryd.prog 77 #[.pointer (some ⟨X, 0, none⟩)] w (Bits1Post X A bs c p w) := by
  go_enter Tryd.func77, Tryd.ntmps77
  go_wp2_with fail
  (go_at_call 78; (with_reducible refine (contents_any 3 X A bs c p w h).mono ?_); rintro e w1 ⟨hg, ⟨fr, n, A1, hr, rfl, hb, hfn, hi⟩ | ⟨er, hr, hne, rfl⟩⟩)
  · have HR : Hid (bitsR bs p = if n = 5 ∧ beN ((bs.drop fr).take 5) < 4294967296 then (0, beN ((bs.drop fr).take 5), fr + 5) else (6, 0, 0)) := by
      unfold bitsR; rw [hr]; exact rfl
    clear hr
    by_cases hn : n = 5
    · subst hn
      have hln : ((bs.drop fr).take 5).length = 5 := by simp; omega
      have hf := five _ hln
      obtain ⟨b0, off0, hA0, hc0⟩ := hb.at_ (j := 0) (by omega)
      have hcell := hc0 0 (by omega)
      subst hA0
      rw [Nat.add_zero] at hcell
      have Hln := Lib.hid hln
      have HF := Lib.hid hf
      clear hf hc0
      generalize hv : beN ((bs.drop fr).take 5) = v at HR HF
      generalize hx0 : ((bs.drop fr).take 5)[0].toNat = x0 at HF hcell
      have HV := Lib.hid hv
      clear hv hx0 hln
      by_cases ht : x0 = 0
      · subst ht
        have hvl := HF.out.2 rfl
        have hmod : (v : Int) % 4294967296 = (v : Int) := by omega
        go_wp2_with (first | (go_at_call 79; (with_reducible refine (need_t _ _).mono ?_); rintro e w' ⟨rfl, rfl⟩) | (go_at_call 80; (with_reducible refine (value_n _ _ 5 5 _ hb Hln.out (by omega)).mono ?_); rintro e w' ⟨rfl, rfl⟩; rw [HV.out]))
        go_ret
        exact ⟨hg, .inl ⟨_, _, HR.out.trans (if_pos (by first | exact ⟨rfl, hvl⟩ | exact ⟨trivial, hvl⟩)), rfl, hi⟩⟩
      · have d1 : ((x0 : Int) == 0) = false := by simpa using ht
        have HT := Lib.hid ht
        clear ht
        go_wp2_with (first | (go_at_call 79; (with_reducible refine (need_f _ _).mono ?_); rintro e w' ⟨rfl, rfl⟩))
        exact ⟨rfl, hg, .inr ⟨_, HR.out.trans (if_neg (fun q => HT.out (HF.out.1 q.2))), by decide, rfl⟩⟩
    · have d1 : ((n : Int) == 5) = false := by simp; omega
      go_wp2_with (first | (go_at_call 79; (with_reducible refine (need_f _ _).mono ?_); rintro e w' ⟨rfl, rfl⟩))
      exact ⟨rfl, hg, .inr ⟨_, HR.out.trans (if_neg (fun q => hn q.1)), by decide, rfl⟩⟩
  · have HR : Hid (bitsR bs p = (er, 0, 0)) := by
      unfold bitsR; rw [hr, if_neg hne]; exact rfl
    clear hr
    go_wp2
    exact ⟨rfl, hg, .inr ⟨_, HR.out, hne, rfl⟩⟩
def ReadUPost (R : Nat) (A : Option Addr) (bs : List UInt8) (c p : Nat) (w : World) (e : Ending) (w' : World) : Prop :=
  (∃ (v q : Nat), bitsR bs p = (0, v, q) ∧ e = .returned (.tuple #[.int .u32 (v : Int), .int .i64 0]) ∧ Rd w' R A bs c q ∧ Gr R w w') ∨
  (∃ er, bitsR bs p = (er, 0, 0) ∧ er ≠ 0 ∧ e = .returned (.tuple #[.int .u32 0, .int .i64 er]) ∧ Ext w w')
set_option maxRecDepth 8000 in
set_option maxHeartbeats 1600000 in
theorem readUc_panics (b4 b5 : Nat) (er : Int) (u4 u5 : Value) (w : World) (hne : b4 ≠ b5) (h4 : w.cell? ⟨b4, 0, none⟩ = some u4) (f4 : w.frozen? ⟨b4, 0, none⟩ = false) (h5 : w.cell? ⟨b5, 0, none⟩ = some u5) (f5 : w.frozen? ⟨b5, 0, none⟩ = false) :
    CallsD Tryd.prog 88 #[.pointer (some ⟨b4, 0, none⟩), .pointer (some ⟨b5, 0, none⟩)] (.panicking [{ v := .iface 29 (.int .i64 er), recovered := false }]) w fun e u' w' =>
      e = .returned (.tuple #[]) ∧ u' = .panicking [{ v := .iface 29 (.int .i64 er), recovered := true }] ∧ w' = (w.setCell ⟨b4, 0, none⟩ (.int .u32 0)).setCell ⟨b5, 0, none⟩ (.int .i64 er) := by
  have hta := assert_errno
  have h5' : (w.setCell ⟨b4, 0, none⟩ (.int .u32 0)).cell? ⟨b5, 0, none⟩ = some u5 := (World.cell?_setCell_other w _ _ _ (fun e => hne (by injection e))).trans h5
  refine callsD_of_wpS Tryd.func88 rfl fun c₀ cs hu => ?_
  simp only [Tryd.ntmps88, List.size_toArray, List.length_cons, List.length_nil, Nat.reduceAdd, Nat.reduceSub, Array.replicate_succ, Array.replicate_zero, List.push_toArray, List.append_toArray, List.nil_append, List.cons_append]
  apply wpS_seq
  apply wpS_region
  simp [wpOpsS, go_sem, recoverD, hu, Exit.thenS]
  refine wpS_of_wp ?_
  go_wp2
  simp [bodyPostS, results, Tryd.results88]
set_option maxRecDepth 8000 in
set_option maxHeartbeats 1600000 in
theorem readUc_idle (b4 b5 : Nat) (w : World) :
    CallsD Tryd.prog 88 #[.pointer (some ⟨b4, 0, none⟩), .pointer (some ⟨b5, 0, none⟩)] .returning w fun e u' w' => e = .returned (.tuple #[]) ∧ u' = .returning ∧ w' = w := by
  refine callsD_of_wpS Tryd.func88 rfl fun c₀ cs hu => ?_
  simp only [Tryd.ntmps88, List.size_toArray, List.length_cons, List.length_nil, Nat.reduceAdd, Nat.reduceSub, Array.replicate_succ, Array.replicate_zero, List.push_toArray, List.append_toArray, List.nil_append, List.cons_append]
  apply wpS_seq
  apply wpS_region
  simp [wpOpsS, go_sem, recoverD, hu, Exit.thenS]
  refine wpS_of_wp ?_
  go_wp2
  cases c₀
  simp_all [bodyPostS, results, Tryd.results88]
theorem leaves_twoU {tmps : Array Value} {R : Ending → World → Prop} {b c : Nat} {u v : Value} {w : World} (h1 : w.cell? ⟨b, 0, none⟩ = some u) (h2 : w.cell? ⟨c, 0, none⟩ = some v) (hR : R (.returned (.tuple #[u, v])) w) (ht : tmps[4]?.getD undef = .pointer (some ⟨b, 0, none⟩) := by rfl) (ht2 : tmps[5]?.getD undef = .pointer (some ⟨c, 0, none⟩) := by rfl) : Leaves Tryd.prog Tryd.f76 tmps R [] .returning w := by
  simp [Leaves, results, Tryd.results76, go_sem, ht, ht2, h1, h2, hR]
set_option maxRecDepth 8000 in
set_option maxHeartbeats 3200000 in
theorem readU_any  (R : Nat) (A : Option Addr) (bs : List UInt8) (c p : Nat) (w : World) (h : Rd w R A bs c p) :
    Calls Tryd.prog 76 #[.pointer (some ⟨R, 0, none⟩), .func (.func 77) #[] #[]] w (ReadUPost R A bs c p w) := by
  have hmf : ∀ (fn : Fn) (first cap : Array Value) (w : World), (Instr.makeFunc fn first cap).run Tryd.prog w = .ok (.func fn first cap) w := fun _ _ _ _ => rfl
  have hR0 := cell_heap h.1 0
  have hR1 := cell_heap h.1 1
  have hR2 := cell_heap h.1 2
  simp at hR0 hR1 hR2
  have hRlt := h.lt
  have hx3 : ∀ o1 o2 o3, Ext w (((w.alloc o1).alloc o2).alloc o3) := fun o1 o2 o3 => (((Ext.refl w).alloc _).alloc _).alloc _
  have hi0 : ∀ o1 o2, Inp (((w.alloc o1).alloc o2).alloc (.cells #[.slice A bs.length c, .int .i64 (p : Int)] 63)) (w.heap.size + 1 + 1) A bs c p := fun o1 o2 =>
    ⟨heap_new3 _ _ _ _, h.2.1.ext (hx3 _ _ _), h.2.2⟩
  have HI := Lib.hid hi0
  have HX := Lib.hid hx3
  have HR := Lib.hid h
  clear hi0 hx3 h
  go_enter_defers Tryd.func76, Tryd.ntmps76
  go_wp2_with (go_at_call 68; (with_reducible refine (rnone_f _ _ (by go_simp)).mono ?_); rintro e w' ⟨rfl, rfl⟩)
  generalize hW3 : ((w.alloc (Obj.cells #[Value.int IntKind.u32 0] 22)).alloc (Obj.cells #[Value.int IntKind.i64 0] 29)).alloc (Obj.cells #[Value.slice A bs.length c, Value.int IntKind.i64 ↑p] 63) = W3
  have hi3 : Inp W3 (w.heap.size + 1 + 1) A bs c p := hW3 ▸ HI.out _ _
  have hx3 : Ext w W3 := hW3 ▸ HX.out _ _ _
  have hz3 : W3.heap.size = w.heap.size + 1 + 1 + 1 := by rw [← hW3]; simp
  have k4 : W3.heap[w.heap.size]? = some (.cells #[.int .u32 0] 22 (0, 0)) := by rw [← hW3]; exact (((Ext.refl _).alloc _).alloc _).heap (heap_new w _)
  have k5 : W3.heap[w.heap.size + 1]? = some (.cells #[.int .i64 0] 29 (0, 0)) := by rw [← hW3]; exact ((Ext.refl _).alloc _).heap (heap_new2 w _ _)
  have hrd3 := HR.out.ext hx3
  clear hR0 hR1 hR2
  have HK := Lib.hid (And.intro k4 k5)
  have HZ := Lib.hid hz3
  clear hW3 k4 k5 hz3
  refine (bits1_any (w.heap.size + 1 + 1) A bs c p W3 hi3).mono ?_
  rintro e w4 ⟨hg, ⟨v, q, hr, rfl, hi4⟩ | ⟨er, hr, hne, rfl⟩⟩
  · have HE := Lib.hid hr
    clear hr
    have hz4 : w.heap.size + 1 + 1 + 1 ≤ w4.heap.size := by have := hg.size; rw [HZ.out] at this; exact this
    have j4 : w4.heap[w.heap.size]? = some (.cells #[.int .u32 0] 22 (0, 0)) := hg.heap HK.out.1 (by omega)
    have j5 : w4.heap[w.heap.size + 1]? = some (.cells #[.int .i64 0] 29 (0, 0)) := hg.heap HK.out.2 (by omega)
    have hrd4 : Rd w4 R A bs c p := hrd3.gr hg (by omega) ⟨_, _, hi3.1⟩ (by decide)
    have c4 := cell_heap j4 0
    have f4 := frozen_heap j4 0
    have c5 := cell_heap j5 0
    have f5 := frozen_heap j5 0
    have cX0 := cell_heap hi4.1 0
    have cX1 := cell_heap hi4.1 1
    have cR0 := cell_heap hrd4.1 0
    have cR1 := cell_heap hrd4.1 1
    have fR0 := frozen_heap hrd4.1 0
    have fR1 := frozen_heap hrd4.1 1
    simp at c4 c5 cX0 cX1 cR0 cR1
    have n1 : R ≠ w.heap.size := by omega
    have n2 : R ≠ w.heap.size + 1 := by omega
    have n3 : R ≠ w.heap.size + 1 + 1 := by omega
    have H4 := Lib.hid hrd4
    have H5 := Lib.hid hi4
    have HJ := Lib.hid (And.intro j4 j5)
    clear hrd4 hi4 j4 j5 hrd3 hi3
    go_wp2
    generalize hW5 : ((((w4.setCell ⟨w.heap.size, 0, none⟩ (.int .u32 (v : Int))).setCell ⟨R, 0, none⟩ (.slice A bs.length c)).setCell ⟨R, 1, none⟩ (.int .i64 (q : Int))).setCell ⟨w.heap.size, 0, none⟩ (.int .u32 (v : Int))).setCell ⟨w.heap.size + 1, 0, none⟩ (.int .i64 0) = W5
    have g1 : Gr R w W5 := by
      rw [← hW5]
      have e := Gr.of_ext (X := R) (hg.ext hx3 (by omega))
      have e1 := e.setCell (p := ⟨w.heap.size, 0, none⟩) (.inr (Nat.le_refl _)) (.int .u32 (v : Int))
      have e2 := e1.setCell (p := ⟨R, 0, none⟩) (.inl rfl) (.slice A bs.length c)
      have e3 := e2.setCell (p := ⟨R, 1, none⟩) (.inl rfl) (.int .i64 (q : Int))
      have e4 := e3.setCell (p := ⟨w.heap.size, 0, none⟩) (.inr (Nat.le_refl _)) (.int .u32 (v : Int))
      exact e4.setCell (p := ⟨w.heap.size + 1, 0, none⟩) (.inr (Nat.le_succ _)) (.int .i64 0)
    obtain ⟨r1, r2, r5, r6⟩ := close_ok (v4 := .int .u32 (v : Int)) (s0 := .slice A bs.length c) (s1 := .int .i64 (q : Int)) (v5 := .int .i64 0) HJ.out.1 HJ.out.2 H4.out.1 n1 n2
    rw [hW5] at r1 r2 r5 r6
    have r3 : Rd W5 R A bs c q := ⟨r5, (H4.out.2.1).to (fun i o ho hne => r6 i o ho (hne HJ.out.1 (by decide)) (hne HJ.out.2 (by decide)) (hne H4.out.1 (by decide))), H4.out.2.2.1, H4.out.2.2.2.1, H5.out.2.2.2.2⟩
    have q1 := cell_heap r1 0
    have q2 := cell_heap r2 0
    simp at q1 q2
    have HQ := Lib.hid r3
    have HG := Lib.hid g1
    clear hW5 r1 r2 r3 g1 hg c4 f4 c5 f5 fR0 fR1 cX0 cX1 cR0 cR1
    refine leaves_cons (f := 88) (args := #[.pointer (some ⟨w.heap.size, 0, none⟩), .pointer (some ⟨w.heap.size + 1, 0, none⟩)]) (by simp) (by simp [go_sem]) ?_
    refine (readUc_idle _ _ _).mono ?_
    rintro e u' w'' ⟨rfl, rfl, rfl⟩
    refine leaves_twoU q1 q2 ?_
    exact .inl ⟨_, _, HE.out, rfl, HQ.out, HG.out⟩
  · have HE := Lib.hid hr
    clear hr
    have j4 : w4.heap[w.heap.size]? = some (.cells #[.int .u32 0] 22 (0, 0)) := hg.heap HK.out.1 (by omega)
    have j5 : w4.heap[w.heap.size + 1]? = some (.cells #[.int .i64 0] 29 (0, 0)) := hg.heap HK.out.2 (by omega)
    have c4 := cell_heap j4 0
    have f4 := frozen_heap j4 0
    have c5 := cell_heap j5 0
    have f5 := frozen_heap j5 0
    simp at c4 c5
    have hx4 : Ext w w4 := hg.ext hx3 (by omega)
    have r1 := heap_far (set_heap (i := 0) j4 (.int .u32 0)) (p := ⟨w.heap.size + 1, 0, none⟩) (by simp) (.int .i64 er)
    have r2 := set_heap (i := 0) (heap_far j5 (p := ⟨w.heap.size, 0, none⟩) (by simp) (.int .u32 0)) (.int .i64 er)
    have q1 := cell_heap r1 0
    have q2 := cell_heap r2 0
    simp at q1 q2
    have HX4 := Lib.hid ((hx4.setCell (p := ⟨w.heap.size, 0, none⟩) (Nat.le_refl _) (.int .u32 0)).setCell (p := ⟨w.heap.size + 1, 0, none⟩) (Nat.le_succ _) (.int .i64 er))
    clear r1 r2 j4 j5 hx4 hg hrd3 hi3
    go_wp2
    refine leaves_cons (f := 88) (args := #[.pointer (some ⟨w.heap.size, 0, none⟩), .pointer (some ⟨w.heap.size + 1, 0, none⟩)]) (by simp) (by simp [go_sem]) ?_
    refine (readUc_panics _ _ er _ _ _ (by omega) c4 f4 c5 f5).mono ?_
    rintro e u' w'' ⟨rfl, rfl, rfl⟩
    refine leaves_twoU q1 q2 ?_
    exact .inr ⟨_, HE.out, hne, rfl, HX4.out⟩
theorem bits_any (R : Nat) (A : Option Addr) (bs : List UInt8) (c p : Nat) (w : World) (h : Rd w R A bs c p) :
    Calls Tryd.prog 66 #[.pointer (some ⟨R, 0, none⟩)] w (ReadUPost R A bs c p w) := by
  go_enter Tryd.func66, Tryd.ntmps66
  go_wp2_with fail
  (go_at_call 76; (with_reducible refine (readU_any R A bs c p w h).mono ?_); rintro e w1 (⟨v, q, hr, rfl, hrd, hg⟩ | ⟨er, hr, hne, rfl, hx⟩))
  · have HR := Lib.hid hr
    clear hr
    go_wp2
    go_ret2
    exact .inl ⟨_, _, HR.out, rfl, hrd, hg⟩
  · have HR := Lib.hid hr
    clear hr
    go_wp2
    go_ret2
    exact .inr ⟨_, HR.out, hne, rfl, hx⟩
end Go.Proofs.YtbgiciijiopklaaDoor
