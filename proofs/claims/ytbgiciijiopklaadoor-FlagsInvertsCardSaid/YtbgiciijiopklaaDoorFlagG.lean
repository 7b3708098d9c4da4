/- Contracts of package flags: Parse. -/
import Derived.Test.YtbgiciijiopklaaDoorFlagF
import Derived.Test.YtbgiciijiopklaaDoorSplit
import Derived.WalkMore
namespace Go.Proofs.YtbgiciijiopklaaDoor
open Go.RowKit Go.Shelf
attribute [local go_sem] Oper.semAt_some
/-- The bit of a name. -/
def bitOf (x : List UInt8) : Option Nat := (eachL 2035711).find? (fun i => (nameOf i).data.toList == x)
/-- The loop over the words: none: a word that is no name. -/
def parseW : List (List UInt8) → Nat → Option Nat
  | [], out => some out
  | x :: xs, out => match bitOf x with
    | none => none
    | some i => if 2 ^ i ≤ out then some out else parseW xs (out ||| 2 ^ i)
def parseR (s : ByteArray) : Nat × Int :=
  if s = ⟨#[45]⟩ then (0, 0) else match parseW (splitC s.data.toList) 0 with
    | none => (0, 6)
    | some out => if (textR out).1 = s then (out, 0) else (0, 6)
def ParsePost (s : ByteArray) (w : World) (e : Ending) (w' : World) : Prop := e = .returned (.tuple #[.int .u32 ((parseR s).1 : Nat), .int .i64 (parseR s).2]) ∧ Ext w w'
theorem res_cells {W : World} {b c : Nat} {x y : Int} (tmps : Array Value) (h2 : tmps[2]?.getD undef = .pointer (some ⟨b, 0, none⟩)) (h3 : tmps[3]?.getD undef = .pointer (some ⟨c, 0, none⟩)) (hb : W.cell? ⟨b, 0, none⟩ = some (.int .u32 x)) (hc : W.cell? ⟨c, 0, none⟩ = some (.int .i64 y)) :
    (results Tryd.f20 tmps).run Tryd.prog W = .ok (.tuple #[.int .u32 x, .int .i64 y]) W := by
  have hr : (Tryd.f20).results = #[.cell 2 24, .cell 3 29] := rfl
  simp only [results, hr]
  simp [Sem.run_bind, Result.andThen, go_sem, h2, h3, hb, hc]
set_option maxRecDepth 100000 in
theorem parse_dash (w : World) : Calls Tryd.prog 20 #[.string ⟨#[45]⟩] w fun e w' => e = .returned (.tuple #[.int .u32 0, .int .i64 0]) ∧ Ext w w' := by
  go_enter Tryd.func20, Tryd.ntmps20
  go_wp2
  refine wp_scope_straight ?_
  go_wp2
  simp only [Exit.noGoto_ret]
  refine bodyPost_ret (res_cells (b := w.heap.size) (c := w.heap.size + 1) (x := 0) (y := 0) _ rfl rfl ?_ ?_) rfl ⟨rfl, ((Ext.refl w).alloc _).alloc _⟩
  · simp [go_sem]
  · simp [go_sem]
theorem parse_leave {s : ByteArray} {w W : World} {D : Nat} {x : Nat} {y : Int} (tmps : Array Value) (h2 : tmps[2]?.getD undef = .pointer (some ⟨w.heap.size, 0, none⟩)) (h3 : tmps[3]?.getD undef = .pointer (some ⟨w.heap.size + 1, 0, none⟩)) (hm : W.heap[D]? = some (.deferred (some []))) (hD : w.heap.size + 6 ≤ D)
    (b2 : Boxed W w.heap.size 24 (.int .u32 (x : Int))) (b3 : Boxed W (w.heap.size + 1) 29 (.int .i64 y)) (hx : Ext w W) (hp : parseR s = (x, y)) :
    bodyPostM Fence.wide 0 Tryd.prog Tryd.f20 (ParsePost s w) .ret { tmps := tmps, defers := [{ target := .collected D, args := #[] }] } W := by
  have st : Step D (fun _ => False) W (W.putObj D (.deferred none)) := Step.put _ (Nat.le_refl _) hm rfl
  refine ⟨by simp, .inl ⟨_, _, rfl, run_takeDeferred hm, _, res_cells tmps h2 h3 (st.boxed b2 (fun h => h)).cell (st.boxed b3 (fun h => h)).cell, ?_⟩⟩
  unfold ParsePost
  rw [hp]
  exact ⟨rfl, st.ext hx (by omega) (fun _ h => h.elim)⟩
theorem heap_set_other {W : World} {b D : Nat} {o : Obj} (v : Value) (h : W.heap[D]? = some o) (hne : D ≠ b) : (W.setCell ⟨b, 0, none⟩ v).heap[D]? = some o :=
  ((StepIt.set (K := fun k => k = b) W b v rfl).same D (lt_of_get h) hne).trans h
theorem str_eq {a b : ByteArray} : (a.toList == b.toList) = true ↔ a = b := by
  rw [ByteArray.toList_eq, ByteArray.toList_eq, beq_iff_eq]
  constructor
  · intro h
    cases a; cases b
    simp only [ByteArray.mk.injEq]
    rw [← Array.toList_inj]; exact h
  · rintro rfl; rfl
theorem RoundKeeps.step {B B2 : Nat} {R : Nat → Prop} {W W1 W2 : World} (h : RoundKeeps B R W W1) (hs : Step B2 (fun _ => False) W1 W2) (hB : W.heap.size ≤ B2) (hR : ∀ k, R k → k < W.heap.size) : RoundKeeps B R W W2 :=
  ⟨fun k o hk hb ho => hs.same k o (h.1 k o hk hb ho) (fun h => h) (.inl (Nat.lt_of_lt_of_le (lt_of_get hk) hB)), fun k hk => by
    have hlt := hR k hk
    have e : W.heap[k]? = some W.heap[k] := Array.getElem?_eq_getElem hlt
    rw [e]
    exact hs.same k _ ((h.2 k hk).trans e) (fun h => h) (.inl (Nat.lt_of_lt_of_le hlt hB))⟩
theorem RoundKeeps.set {B b : Nat} {R : Nat → Prop} {W : World} {t : TypeId} {u : Value} (v : Value) (hb : Boxed W b t u) (hR : ¬ R b) : RoundKeeps B R W (W.setCell ⟨b, 0, none⟩ v) :=
  ⟨fun k o hk _ ho => heap_set_other v hk (fun e => by subst e; rw [show W.heap[k]? = _ from hb] at hk; cases hk; cases ho), fun k hk => by
    have hg := grownBy_setCell' W b v
    by_cases hlt : k < W.heap.size
    · exact hg.block k hlt (fun e => by cases e; exact hR hk)
    · have e : (W.setCell ⟨b, 0, none⟩ v).heap.size = W.heap.size := by simp
      rw [Array.getElem?_eq_none (by rw [e]; omega), Array.getElem?_eq_none (by omega)]⟩
theorem bitOf_hit {x : List UInt8} {pre : List Nat} {i : Nat} (hp : (pre ++ [i]) <+: eachL 2035711) (hn : ∀ j ∈ pre, (nameOf j).data.toList ≠ x) (he : (nameOf i).data.toList = x) : bitOf x = some i := by
  obtain ⟨r, hr⟩ := hp
  unfold bitOf
  rw [← hr, List.append_assoc, List.find?_append, List.find?_eq_none.2 (fun j hj => by have := hn j hj; simpa using this)]
  simp [he]
theorem bitOf_miss {x : List UInt8} (hn : ∀ j ∈ eachL 2035711, (nameOf j).data.toList ≠ x) : bitOf x = none := by
  unfold bitOf
  exact List.find?_eq_none.2 (fun j hj => by have := hn j hj; simpa using this)
theorem mem_lt {pre : List Nat} {i f : Nat} (hp : (pre ++ [i]) <+: eachL f) : i < 32 := by
  have : i ∈ eachL f := hp.subset (by simp)
  unfold eachL eachK at this
  rw [List.mem_filter, List.mem_range] at this
  exact this.1
/-- The three cells of Parse. -/
structure PBox (w : World) (out : Nat) (y : Int) (W : World) : Prop where
  b4 : Boxed W (w.heap.size + 1 + 1) 24 (.int .u32 (out : Int))
  b2 : Boxed W w.heap.size 24 (.int .u32 0)
  b3 : Boxed W (w.heap.size + 1) 29 (.int .i64 y)
  ext : Ext w W
  sz : w.heap.size + 6 ≤ W.heap.size
theorem PBox.step {w : World} {out : Nat} {y : Int} {B : Nat} {K : Nat → Prop} {W W' : World} (h : PBox w out y W) (hs : Step B K W W') (hB : w.heap.size ≤ B) (hK : ∀ k, K k → w.heap.size + 3 ≤ k) : PBox w out y W' :=
  ⟨hs.boxed h.b4 (fun k => by have := hK _ k; omega), hs.boxed h.b2 (fun k => by have := hK _ k; omega), hs.boxed h.b3 (fun k => by have := hK _ k; omega), hs.ext h.ext hB (fun k hk => by have := hK k hk; omega), Nat.le_trans h.sz hs.size⟩
theorem PBox.of_ext {w : World} {out : Nat} {y : Int} {W W' : World} (h : PBox w out y W) (hx : Ext W W') : PBox w out y W' := h.step (B := W'.heap.size) (K := fun _ => False) (Step.of_ext hx) (Nat.le_trans h.ext.sz hx.sz) (fun _ h => h.elim)
set_option maxRecDepth 100000 in
set_option maxHeartbeats 3200000 in
theorem parse_words (s : ByteArray) (hs : s.size ≤ 1000000) (hd : s ≠ ⟨#[45]⟩) (w : World) (hT : TabAt 0 Lib.deBruijn32tab w) : Calls Tryd.prog 20 #[.string s] w (ParsePost s w) := by
  have hb : (s.toList == [45]) = false := by
    rw [ByteArray.toList_eq]
    simp only [beq_eq_false_iff_ne, ne_eq]
    intro h
    exact hd (by cases s; simp only [ByteArray.mk.injEq]; rw [← Array.toList_inj]; exact h)
  have HT := Lib.hid hT
  clear hT
  refine (callsIn_wide (n := 0)).1 (callsIn_of_wp_marks Tryd.func20 rfl trivial ?_ rfl)
  simp only [Tryd.ntmps20, List.size_toArray, List.length_cons, List.length_nil, Nat.reduceAdd, Nat.reduceSub, Array.replicate_succ, Array.replicate_zero, List.push_toArray, List.append_toArray, List.nil_append, List.cons_append]
  refine wpIn_wide.2 ?_
  go_wp2
  refine wp_scope_straight ?_
  go_wp2
  refine wp_label ?_
  go_wp2_with (go_at_call 41; refine (splitSeq_any s _).mono ?_; rintro e w2 ⟨rfl, rfl⟩)
  have q1 := (((((Boxed.new w 24 (.int .u32 0)).alloc (.cells #[.int .i64 0] 29)).alloc (.cells #[.int .u32 0] 24)).alloc (.cells #[.string s] 9)).alloc (.cells #[.string ⟨#[44]⟩] 9)).alloc (.cells #[.int .i64 0] 3)
  have q2 := ((((Boxed.new (w.alloc (.cells #[.int .u32 0] 24)) 29 (.int .i64 0)).alloc (.cells #[.int .u32 0] 24)).alloc (.cells #[.string s] 9)).alloc (.cells #[.string ⟨#[44]⟩] 9)).alloc (.cells #[.int .i64 0] 3)
  have q3 := (((Boxed.new ((w.alloc (.cells #[.int .u32 0] 24)).alloc (.cells #[.int .i64 0] 29)) 24 (.int .u32 0)).alloc (.cells #[.string s] 9)).alloc (.cells #[.string ⟨#[44]⟩] 9)).alloc (.cells #[.int .i64 0] 3)
  have q4 := ((Boxed.new (((w.alloc (.cells #[.int .u32 0] 24)).alloc (.cells #[.int .i64 0] 29)).alloc (.cells #[.int .u32 0] 24)) 9 (.string s)).alloc (.cells #[.string ⟨#[44]⟩] 9)).alloc (.cells #[.int .i64 0] 3)
  have q5 := (Boxed.new ((((w.alloc (.cells #[.int .u32 0] 24)).alloc (.cells #[.int .i64 0] 29)).alloc (.cells #[.int .u32 0] 24)).alloc (.cells #[.string s] 9)) 9 (.string ⟨#[44]⟩)).alloc (.cells #[.int .i64 0] 3)
  have q6 := Boxed.new (((((w.alloc (.cells #[.int .u32 0] 24)).alloc (.cells #[.int .i64 0] 29)).alloc (.cells #[.int .u32 0] 24)).alloc (.cells #[.string s] 9)).alloc (.cells #[.string ⟨#[44]⟩] 9)) 3 (.int .i64 0)
  simp only [World.size_alloc] at q2 q3 q4 q5 q6
  have hx0 := ((((((Ext.refl w).alloc (.cells #[.int .u32 0] 24)).alloc (.cells #[.int .i64 0] 29)).alloc (.cells #[.int .u32 0] 24)).alloc (.cells #[.string s] 9)).alloc (.cells #[.string ⟨#[44]⟩] 9)).alloc (.cells #[.int .i64 0] 3)
  have hsz : ((((((w.alloc (.cells #[.int .u32 0] 24)).alloc (.cells #[.int .i64 0] 29)).alloc (.cells #[.int .u32 0] 24)).alloc (.cells #[.string s] 9)).alloc (.cells #[.string ⟨#[44]⟩] 9)).alloc (.cells #[.int .i64 0] 3)).heap.size = w.heap.size + 6 := by simp
  generalize (((((w.alloc (.cells #[.int .u32 0] 24)).alloc (.cells #[.int .i64 0] 29)).alloc (.cells #[.int .u32 0] 24)).alloc (.cells #[.string s] 9)).alloc (.cells #[.string ⟨#[44]⟩] 9)).alloc (.cells #[.int .i64 0] 3) = W0 at *
  have hT0 := TabAt.ext HT.out hx0
  have hdt := tab_lt HT.out
  rename_i K hK
  have fin : ∀ (D : Nat) (W : World) (out : Nat), out < 4294967296 → parseW (splitC s.data.toList) 0 = some out → w.heap.size + 6 ≤ D → W.heap[D]? = some (.deferred (some [])) →
      Boxed W (w.heap.size + 1 + 1) 24 (.int .u32 (out : Int)) → Boxed W w.heap.size 24 (.int .u32 0) → Boxed W (w.heap.size + 1) 29 (.int .i64 0) → Ext w W →
      K { tmps := #[.string s, undef, .pointer (some ⟨w.heap.size, 0, none⟩), .pointer (some ⟨w.heap.size + 1, 0, none⟩), .pointer (some ⟨w.heap.size + 1 + 1, 0, none⟩), undef, undef, undef, undef, undef, .string s, .bool false, .string s, .func (.func 84) #[] #[.pointer (some ⟨w.heap.size + 1 + 1 + 1 + 1, 0, none⟩), .pointer (some ⟨w.heap.size + 1 + 1 + 1, 0, none⟩), .pointer (some ⟨w.heap.size + 1 + 1 + 1 + 1 + 1, 0, none⟩)], undef, undef, undef, undef, undef, undef, undef, undef, undef, undef, undef, undef, undef, undef, undef, undef, undef, undef, undef, undef, undef, undef, undef, undef, undef, undef], defers := [{ target := .collected D, args := #[] }] } W := by
    intro D W out ho hp hD hm p3 p1 p2 hB
    have c3 := p3.cell
    have c1 := p1.cell
    have c2 := p2.cell
    have hP : parseR s = if (textR out).1 = s then (out, 0) else (0, 6) := by unfold parseR; rw [if_neg hd, hp]
    have HP := Lib.hid hP
    clear hP hp
    have HTx := Lib.hid (text_any out ho W (TabAt.ext HT.out hB))
    refine hK _ _ ?_
    go_wp2_with (go_at_call 17; (with_reducible refine HTx.out.mono ?_); rintro e w4 ⟨rfl, hx4⟩; have r1 : Boxed w4 w.heap.size 24 (.int .u32 0) := (hx4.block _ p1.lt).trans p1; have r2 : Boxed w4 (w.heap.size + 1) 29 (.int .i64 0) := (hx4.block _ p2.lt).trans p2; have r3 : Boxed w4 (w.heap.size + 1 + 1) 24 (.int .u32 (out : Int)) := (hx4.block _ p3.lt).trans p3; have s1 := r1.cell; have s2 := r2.cell; have s3 := r3.cell; have e1 := r1.frozen; have e2 := r2.frozen; clear c1 c2 c3)
    · rename_i hne
      simp only [Exit.noGoto_ret]
      exact parse_leave (x := 0) (y := 6) _ rfl rfl (heap_set_other _ (heap_set_other _ ((hx4.block D (lt_of_get hm)).trans hm) (by omega)) (by omega)) hD ((r1.set _).other (by omega) _) ((r2.other (by omega) _).set _) (((Ext.trans hB hx4).setCell (Nat.le_refl _) _).setCell (Nat.le_succ _) _)
        (by rw [HP.out, if_neg]; intro h; rw [str_eq.2 h] at hne; simp at hne)
    · rename_i hne
      simp only [Exit.noGoto_ret]
      exact parse_leave (x := out) (y := 0) _ rfl rfl (heap_set_other _ (heap_set_other _ ((hx4.block D (lt_of_get hm)).trans hm) (by omega)) (by omega)) hD ((r1.set _).other (by omega) _) ((r2.other (by omega) _).set _) (((Ext.trans hB hx4).setCell (Nat.le_refl _) _).setCell (Nat.le_succ _) _)
        (by rw [HP.out, if_pos]; simp only [Bool.not_eq_eq_eq_not, Bool.not_false] at hne; exact str_eq.1 hne)
  have FIN := Lib.hid fin
  clear fin
  refine wp_range (gf := 84) (lb := #[.pointer (some ⟨w.heap.size + 1 + 1 + 1 + 1, 0, none⟩), .pointer (some ⟨w.heap.size + 1 + 1 + 1, 0, none⟩), .pointer (some ⟨w.heap.size + 1 + 1 + 1 + 1 + 1, 0, none⟩)]) rfl (enters_of Tryd.func84 (by kernel_rfl) rfl) (split_seq s hs W0 (w.heap.size + 1 + 1 + 1) q4 q5 q6) (fun _ => rfl) (fun k hk => by subst hk; omega) (fun k hk => by omega)
    (fun pre W => ∃ out : Nat, out < 4294967296 ∧ (∀ rest, splitC s.data.toList = pre ++ rest → parseW (splitC s.data.toList) 0 = parseW rest out) ∧ PBox w out 0 W)
    (fun c pre W => (c = .exit 0 ∧ ∃ out : Nat, out < 4294967296 ∧ parseW (splitC s.data.toList) 0 = some out ∧ PBox w out 0 W) ∨ (c = .ret ∧ ∃ out : Nat, parseW (splitC s.data.toList) 0 = none ∧ PBox w out 6 W))
    (fun pre W W' h ⟨out, h1, h2, h3⟩ => ⟨out, h1, h2, h3.step h (by omega) (fun k hk => by subst hk; omega)⟩)
    (fun c pre W W' h hc => by
      rcases hc with ⟨h0, out, h1, h2, h3⟩ | ⟨h0, out, h1, h3⟩
      · exact .inl ⟨h0, out, h1, h2, h3.step h (by omega) (fun k hk => by subst hk; omega)⟩
      · exact .inr ⟨h0, out, h1, h3.step h (by omega) (fun k hk => by subst hk; omega)⟩)
    ⟨0, by decide, fun rest h => by rw [h]; rfl, q3, q1, q2, hx0, by omega⟩
    (fun x a' W => ∃ b5, w.heap.size + 6 ≤ b5 ∧ Boxed W b5 9 (.string (bsOf x)) ∧ a' = { tmps := #[.string s, undef, .pointer (some ⟨w.heap.size, 0, none⟩), .pointer (some ⟨w.heap.size + 1, 0, none⟩), .pointer (some ⟨w.heap.size + 1 + 1, 0, none⟩), .pointer (some ⟨b5, 0, none⟩), undef, undef, undef, undef, .string s, .bool false, .string s, .func (.func 84) #[] #[.pointer (some ⟨w.heap.size + 1 + 1 + 1 + 1, 0, none⟩), .pointer (some ⟨w.heap.size + 1 + 1 + 1, 0, none⟩), .pointer (some ⟨w.heap.size + 1 + 1 + 1 + 1 + 1, 0, none⟩)], .string (bsOf x), undef, undef, undef, undef, undef, undef, undef, undef, undef, undef, undef, undef, undef, undef, undef, undef, undef, undef, undef, undef, undef, undef, undef, undef, undef], defers := [] })
    (fun x a' W W' h ⟨b5, h1, h2, h3⟩ => ⟨b5, h1, h.boxed h2 (by omega), h3⟩)
    ?assign ?body ?done ?stop
  case assign =>
    rintro l pre x W Q ⟨out, h1, h2, h3⟩ hQ
    unfold encS
    gi_wp2
    have hx := (Ext.refl W).alloc (.cells #[.string (bsOf x)] 9)
    have hw := h3.sz
    exact hQ _ _ (RoundKeeps.of_ext hx (fun k hk => by omega)) ⟨out, h1, h2, h3.of_ext hx⟩ ⟨W.heap.size, hw, Boxed.new _ _ _, rfl⟩
  case body =>
    rintro l pre x a' W hl hr ⟨out, h1, h2, h3⟩ ⟨b5, h4, h5, rfl⟩ hpre
    have ho : orI [4095, 2031807] = ((2035711 : Nat) : Int) := orI2 4095 2031807 2031807 rfl
    have t0 : Fence.wide.depth = none := rfl
    have t1 : Fence.wide.fn 36 := trivial
    have t2 : Fence.wide.fn 37 := trivial
    have t3 : Fence.wide.fn 42 := trivial
    have t4 : Fence.wide.fn 22 := trivial
    gi_wp2_with (first | (gi_at_call 36; refine (CallsIn.inRound l (callsIn_wide.2 (tickets_any _))).mono ?_; rintro e w' ⟨rfl, rfl⟩) | (gi_at_call 37; refine (CallsIn.inRound l (callsIn_wide.2 (options_any _))).mono ?_; rintro e w3 ⟨rfl, hx3⟩) | (gi_at_call 42; refine (CallsIn.inRound l (callsIn_wide.2 (union_blk2 _ _ (by decide) (heap_new _ _)))).mono ?_; rintro e w' ⟨rfl, rfl⟩; rw [ho]) | (gi_at_call 22; refine (CallsIn.inRound l (callsIn_wide.2 (each_any _ _))).mono ?_; rintro e w' ⟨rfl, rfl⟩))
    have hxW : Ext W ((w3.alloc (.cells #[.int .u32 4095, .int .u32 2031807] 24)).alloc (.cells #[.int .u32 2035711] 24)) := (Ext.alloc (Ext.alloc hx3 _) _)
    have bF : Boxed ((w3.alloc (.cells #[.int .u32 4095, .int .u32 2031807] 24)).alloc (.cells #[.int .u32 2035711] 24)) (w3.heap.size + 1) 24 (.int .u32 2035711) := by
      have := Boxed.new (w3.alloc (.cells #[.int .u32 4095, .int .u32 2031807] 24)) 24 (.int .u32 2035711)
      rwa [World.size_alloc] at this
    generalize (w3.alloc (.cells #[.int .u32 4095, .int .u32 2031807] 24)).alloc (.cells #[.int .u32 2035711] 24) = W2 at *
    have hWs := h3.sz
    have hW2 := hxW.sz
    have hr2 : ∃ r, W2.heap[l]? = some (.loop r) := by obtain ⟨r, hr⟩ := hr; exact ⟨r, (hxW.block l (lt_of_get hr)).trans hr⟩
    obtain ⟨rest, hrest⟩ : ∃ rest, splitC s.data.toList = pre ++ x :: rest := by obtain ⟨r, hr⟩ := hpre; exact ⟨r, by rw [← hr]; simp⟩
    have hp := h2 _ hrest
    refine wp_rangeN (gf := 43) (lb := #[.pointer (some ⟨w3.heap.size + 1, 0, none⟩)]) hr2 rfl (enters_of Tryd.func43 (by kernel_rfl) rfl) (each_seq 2035711 (by decide) W2 (w3.heap.size + 1) bF.cell (TabAt.ext HT.out (Ext.trans h3.ext hxW))) (fun _ => rfl) (fun _ h => h.elim) (fun k hk => by subst hk; omega)
      (fun pre2 W' => (∀ j ∈ pre2, (nameOf j).data.toList ≠ x) ∧ PBox w out 0 W' ∧ Boxed W' b5 9 (.string (bsOf x)) ∧ RoundKeeps W0.heap.size (fun k => k = w.heap.size + 1 + 1 + 1 ∨ k = w.heap.size + 1 + 1 + 1 + 1 ∨ k = w.heap.size + 1 + 1 + 1 + 2) W W')
      (fun c pre2 W' => ∃ i, i < 32 ∧ bitOf x = some i ∧ ((c = .exit 0 ∧ 2 ^ i ≤ out ∧ PBox w out 0 W') ∨ (c = .exit 1 ∧ ¬ 2 ^ i ≤ out ∧ PBox w (out ||| 2 ^ i) 0 W')) ∧ RoundKeeps W0.heap.size (fun k => k = w.heap.size + 1 + 1 + 1 ∨ k = w.heap.size + 1 + 1 + 1 + 1 ∨ k = w.heap.size + 1 + 1 + 1 + 2) W W')
      (fun pre2 A A' h ⟨g1, g2, g3, g4⟩ => ⟨g1, g2.step h (by omega) (fun _ h => h.elim), h.boxed g3 (fun h => h), g4.step h (by omega) (fun k hk => by omega)⟩)
      (fun c pre2 A A' h ⟨i, gi, g1, g2, g4⟩ => ⟨i, gi, g1, g2.imp (fun ⟨e, a, b⟩ => ⟨e, a, b.step h (by omega) (fun _ h => h.elim)⟩) (fun ⟨e, a, b⟩ => ⟨e, a, b.step h (by omega) (fun _ h => h.elim)⟩), g4.step h (by omega) (fun k hk => by omega)⟩)
      ⟨fun _ h => absurd h (by simp), h3.of_ext hxW, (hxW.block _ h5.lt).trans h5, RoundKeeps.of_ext hxW (fun k hk => by omega)⟩
      (fun i a'' _ => a'' = { tmps := #[.string s, undef, .pointer (some ⟨w.heap.size, 0, none⟩), .pointer (some ⟨w.heap.size + 1, 0, none⟩), .pointer (some ⟨w.heap.size + 1 + 1, 0, none⟩), .pointer (some ⟨b5, 0, none⟩), .int .u32 ((2 ^ i : Nat) : Int), .string (nameOf i), undef, undef, .string s, .bool false, .string s, .func (.func 84) #[] #[.pointer (some ⟨w.heap.size + 1 + 1 + 1 + 1, 0, none⟩), .pointer (some ⟨w.heap.size + 1 + 1 + 1, 0, none⟩), .pointer (some ⟨w.heap.size + 1 + 1 + 1 + 1 + 1, 0, none⟩)], .string (bsOf x), .int .u32 4095, .int .u32 2031807, .slice (some ⟨w3.heap.size, 0, none⟩) 2 2, .int .u32 2035711, .func (.func 43) #[] #[.pointer (some ⟨w3.heap.size + 1, 0, none⟩)], .int .u32 ((2 ^ i : Nat) : Int), .string (nameOf i), undef, undef, undef, undef, undef, undef, undef, undef, undef, undef, undef, undef, undef, undef, undef, undef, undef, undef], defers := [] })
      (fun _ _ _ _ _ h => h) ?assign2 ?body2 ?done2 ?stop2
    case assign2 =>
      intro l2 pre2 i A Q hI2 hQ2
      unfold encF
      gi_wp2
      exact hQ2 _ _ (RoundKeeps.refl _ _ _) hI2 rfl
    case body2 =>
      rintro l2 pre2 i a'' A hl2 hr2' ⟨g1, g2, g3, g4⟩ rfl hpre2
      have k4 := g2.b4.cell
      have k5 := g3.cell
      have k4f := g2.b4.frozen
      have hi := mem_lt hpre2
      have hcast : ((2 ^ i : Nat) : Int) = (2 : Int) ^ i := by simp
      by_cases he : (nameOf i).data.toList = x
      · have heq : ((nameOf i).toList == (bsOf x).toList) = true := by rw [ByteArray.toList_eq, ByteArray.toList_eq]; simp [bsOf, he]
        have hbit := bitOf_hit hpre2 g1 he
        by_cases hle : 2 ^ i ≤ out
        · have hlei : (2 : Int) ^ i ≤ (out : Int) := by rw [← hcast]; omega
          have HB := Lib.hid hbit
          have HSZ := Lib.hid hsz
          have HLE := Lib.hid hle
          clear hbit hsz hrest hp he hle
          gi_wp2
          have hbit := HB.out
          have hle := HLE.out
          exact ⟨RoundKeeps.refl _ _ _, i, hi, hbit, .inl ⟨rfl, hle, g2⟩, g4⟩
        · have hlei : ¬ (2 : Int) ^ i ≤ (out : Int) := by rw [← hcast]; omega
          have h32 : 2 ^ i < 4294967296 := by have := Nat.pow_lt_pow_right (a := 2) (by decide) hi; rwa [show (2 : Nat) ^ 32 = 4294967296 by decide] at this
          have hor : bits .or .u32 (out : Int) ((2 : Int) ^ i) = ((out ||| 2 ^ i : Nat) : Int) := by rw [← hcast]; exact u32_or_nat out (2 ^ i) h1 h32
          have HB := Lib.hid hbit
          have HSZ := Lib.hid hsz
          have HLE := Lib.hid hle
          clear hbit hsz hrest hp he hle
          gi_wp2
          have hsz := HSZ.out
          exact ⟨RoundKeeps.set _ g2.b4 (by omega), i, hi, HB.out, .inr ⟨rfl, by have := HLE.out; omega, g2.b4.set _, g2.b2.other (by omega) _, g2.b3.other (by omega) _, g2.ext.setCell (by simp; omega) _, by simpa using g2.sz⟩, g4.trans (RoundKeeps.set _ g2.b4 (by omega))⟩
      · have heq : ((nameOf i).toList == (bsOf x).toList) = false := by rw [ByteArray.toList_eq, ByteArray.toList_eq]; simp [bsOf, he]
        have HE := Lib.hid he
        clear hsz hrest hp he
        gi_wp2
        have he := HE.out
        exact ⟨RoundKeeps.refl _ _ _, fun j hj => by rw [List.mem_append, List.mem_singleton] at hj; rcases hj with hj | rfl; exact g1 j hj; exact he, g2, g3, g4⟩
    case done2 =>
      rintro A ⟨g1, g2, g3, g4⟩
      have k2 := g2.b2.cell
      have k3 := g2.b3.cell
      have k2f := g2.b2.frozen
      have k3f := g2.b3.frozen
      have hb := bitOf_miss g1
      rw [parseW, hb] at hp
      have HP := Lib.hid hp
      have HSZ := Lib.hid hsz
      clear hrest hp hsz hb
      gi_wp2
      have hsz := HSZ.out
      have hp := HP.out
      refine ⟨(g4.trans (RoundKeeps.set _ g2.b2 (by omega))).trans (RoundKeeps.set _ (g2.b3.other (by omega) _) (by omega)), .inr ⟨rfl, hp, out, (g2.b4.other (by omega) _).other (by omega) _, (g2.b2.set _).other (by omega) _, (g2.b3.other (by omega) _).set _, (g2.ext.setCell (Nat.le_refl _) _).setCell (Nat.le_succ _) _, by simpa using g2.sz⟩⟩
    case stop2 =>
      rintro c pre2 A hpre2 ⟨i, gi, g1, g2, g4⟩
      rw [parseW, g1] at hp
      simp only at hp
      rcases g2 with ⟨rfl, hle, hb⟩ | ⟨rfl, hle, hb⟩
      · rw [if_pos hle] at hp
        refine wpIn_exit ?_
        exact ⟨g4, .inl ⟨rfl, out, h1, hp, hb⟩⟩
      · rw [if_neg hle] at hp
        refine wpIn_exit ?_
        refine ⟨g4, out ||| 2 ^ i, or32 h1 (by have := Nat.pow_lt_pow_right (a := 2) (by decide) gi; rwa [show (2 : Nat) ^ 32 = 4294967296 by decide] at this), fun rest' hr' => ?_, hb⟩
        have : rest' = rest := by rw [hrest, List.append_assoc] at hr'; simpa using (List.append_cancel_left hr').symm
        rw [this]; exact hp
  case done =>
    rintro D W hD ⟨out, h1, h2, h3⟩ hm
    exact FIN.out D W out h1 (by rw [h2 [] (by simp)]; rfl) (by omega) hm h3.b4 h3.b2 h3.b3 h3.ext
  case stop =>
    rintro D c pre W hD hpre hc hm
    rcases hc with ⟨rfl, out, h1, h2, h3⟩ | ⟨rfl, out, h1, h3⟩
    · refine wp_exit ?_
      exact FIN.out D W out h1 h2 (by omega) hm h3.b4 h3.b2 h3.b3 h3.ext
    · refine wp_ret ?_
      exact parse_leave (x := 0) (y := 6) _ rfl rfl hm (by omega) h3.b2 h3.b3 h3.ext (by unfold parseR; rw [if_neg hd, h1])
theorem parse_any (s : ByteArray) (hs : s.size ≤ 1000000) (w : World) (hT : TabAt 0 Lib.deBruijn32tab w) : Calls Tryd.prog 20 #[.string s] w (ParsePost s w) := by
  by_cases hd : s = ⟨#[45]⟩
  · subst hd
    have h : parseR ⟨#[45]⟩ = (0, 0) := by unfold parseR; rw [if_pos rfl]
    refine (parse_dash w).mono ?_
    rintro e w' ⟨he, hx⟩
    unfold ParsePost
    rw [h]
    exact ⟨he, hx⟩
  · exact parse_words s hs hd w hT
end Go.Proofs.YtbgiciijiopklaaDoor
