/- The walk of FlagsEach: true at every argument. The table of the lowest bits as the program lays it. -/
import Derived.Test.YtbgiciijiopklaaDoorKnown
namespace Go.Proofs.YtbgiciijiopklaaDoor
open Go.RowKit Go.Shelf
attribute [local go_sem] Oper.semAt_some
theorem StepIt.trans {K : Nat → Prop} {X Y Z : World} (h : StepIt K X Y) (g : StepIt K Y Z) : StepIt K X Z :=
  ⟨g.os.trans h.os, g.tape.trans h.tape, g.output.trans h.output, Nat.le_trans h.size g.size, fun k hk hn => (g.same k (Nat.lt_of_lt_of_le hk h.size) hn).trans (h.same k hk hn)⟩
theorem StepIt.then {K : Nat → Prop} {X Y Z : World} {B : Nat} (h : StepIt K X Y) (g : Step B (fun _ => False) Y Z) (hB : X.heap.size ≤ B) : StepIt K X Z :=
  ⟨g.os.trans h.os, g.tape.trans h.tape, g.output.trans h.output, Nat.le_trans h.size g.size, fun k hk hn => by
    have h1 := h.same k hk hn
    have h2 : Y.heap[k]? = some _ := Array.getElem?_eq_getElem (Nat.lt_of_lt_of_le hk h.size)
    rw [← h1, h2]
    exact g.same k _ h2 (fun h => h) (.inl (Nat.lt_of_lt_of_le hk hB))⟩
theorem StepIt.boxed {K : Nat → Prop} {X Y : World} {b : Nat} {t : TypeId} {v : Value} (h : StepIt K X Y) (hb : Boxed X b t v) (hK : ¬ K b) : Boxed Y b t v := (h.same b hb.lt hK).trans hb
theorem StepIt.ext {K : Nat → Prop} {w X Y : World} (h : StepIt K X Y) (hw : Ext w X) (hK : ∀ k, K k → w.heap.size ≤ k) : Ext w Y :=
  ⟨h.os.trans hw.os, h.tape.trans hw.tape, h.output.trans hw.output, Nat.le_trans hw.size h.size, fun k hk => (h.same k (Nat.lt_of_lt_of_le hk hw.size) (fun hc => by have := hK k hc; omega)).trans (hw.block k hk)⟩
theorem StepIt.mono {K K' : Nat → Prop} {X Y : World} (h : StepIt K X Y) (hK : ∀ k, K k → K' k) : StepIt K' X Y := ⟨h.os, h.tape, h.output, h.size, fun k hk hn => h.same k hk (fun hc => hn (hK k hc))⟩
theorem StepIt.refl (K : Nat → Prop) (X : World) : StepIt K X X := ⟨rfl, rfl, rfl, Nat.le_refl _, fun _ _ _ => rfl⟩
/-- Marks of loops that were left. -/
def Marks (s : Nat) : List Deferred → World → Prop
  | [], _ => True
  | d :: ds, W => (∃ D, d = { target := .collected D, args := #[] } ∧ s ≤ D ∧ W.heap[D]? = some (.deferred (some [])) ∧ ∀ d' ∈ ds, d' ≠ d) ∧ Marks s ds W
theorem Marks.keep {s : Nat} : ∀ {ds : List Deferred} {W W' : World}, Marks s ds W → (∀ D : Nat, s ≤ D → D < W.heap.size → W.heap[D]? = some (.deferred (some [])) → W'.heap[D]? = some (.deferred (some []))) → Marks s ds W' := by
  intro ds
  induction ds with
  | nil => intro W W' _ _; trivial
  | cons d ds ih =>
    intro W W' h hk
    obtain ⟨⟨D, h1, h2, h3, h4⟩, h5⟩ := h
    exact ⟨⟨D, h1, h2, hk D h2 (lt_of_get h3) h3, h4⟩, ih h5 hk⟩
theorem Marks.shut {s : Nat} : ∀ {ds : List Deferred} {W : World} {D : Nat} (o : Obj), Marks s ds W → (∀ d' ∈ ds, d' ≠ ({ target := .collected D, args := #[] } : Deferred)) → Marks s ds (W.putObj D o) := by
  intro ds
  induction ds with
  | nil => intro W D o _ _; trivial
  | cons d ds ih =>
    intro W D o h hn
    obtain ⟨⟨E, h1, h2, h3, h4⟩, h5⟩ := h
    refine ⟨⟨E, h1, h2, ?_, h4⟩, ih o h5 (fun d' hd => hn d' (by simp [hd]))⟩
    have hne : E ≠ D := by
      rintro rfl
      exact hn d (by simp) h1
    rw [World.putObj_heap_other hne]
    exact h3
theorem leave_marks {P : Program} {fn : Func} {tmps : Array Value} {v : Value} {R : Ending → World → Prop} {w : World} {b : Nat} {t : TypeId} (hres : ∀ W', Boxed W' b t v → (results fn tmps).run P W' = .ok v W') (hR : ∀ W', Ext w W' → R (.returned v) W') :
    ∀ (ds : List Deferred) (W : World), Boxed W b t v → Ext w W → Marks w.heap.size ds W → LeavesInM Fence.wide 0 P fn tmps R ds .returning W := by
  intro ds
  induction ds with
  | nil => intro W hb hx _; exact ⟨_, hres W hb, hR W hx⟩
  | cons d ds ih =>
    intro W hb hx hm
    obtain ⟨⟨D, rfl, h2, h3, h4⟩, h5⟩ := hm
    exact ⟨by simp, .inl ⟨_, _, rfl, run_takeDeferred h3, ih _ ((Step.put (K := fun _ => False) (.deferred none) (Nat.le_refl D) h3 rfl).boxed hb (fun h => h)) (ext_put hx h2 _ _ h3 rfl) (h5.shut _ h4)⟩⟩
/-- The next element of a list of bits. -/
theorem eachF_head (f : Nat) (x : Nat) (r : List Nat) : ∀ (m n : Nat), x :: r = eachF f n m → n ≤ x ∧ x < n + m ∧ eachP f x = true ∧ ∀ j, n ≤ j → j < x → eachP f j = false := by
  intro m
  induction m with
  | zero => intro n h; simp [eachF] at h
  | succ m ih =>
    intro n h
    rw [eachF_succ] at h
    cases hp : eachP f n
    · rw [hp, if_neg (by decide), List.nil_append] at h
      obtain ⟨h1, h2, h3, h4⟩ := ih (n + 1) h
      exact ⟨by omega, by omega, h3, fun j hj hx => by by_cases e : j = n; subst e; exact hp; exact h4 j (by omega) hx⟩
    · rw [hp, if_pos rfl, List.cons_append, List.nil_append, List.cons.injEq] at h
      obtain ⟨rfl, _⟩ := h
      exact ⟨by omega, by omega, hp, fun j h1 h2 => by omega⟩
theorem eachL_split (f n : Nat) (hn : n ≤ 32) : eachL f = eachK f n ++ eachF f n (32 - n) := by
  unfold eachL eachK eachF
  rw [List.range_eq_range', List.range_eq_range', ← List.filter_append]
  congr 1
  have := List.range'_append (s := 0) (m := n) (n := 32 - n) (step := 1)
  rw [show 0 + 1 * n = n by omega, show n + (32 - n) = 32 by omega] at this
  exact this.symm
theorem each_next {f n x : Nat} (hn : n ≤ 32) (h : (eachK f n ++ [x]) <+: eachL f) : n ≤ x ∧ x < 32 ∧ eachP f x = true ∧ (∀ j, n ≤ j → j < x → eachP f j = false) ∧ eachK f (x + 1) = eachK f n ++ [x] := by
  obtain ⟨r, hr⟩ := h
  rw [eachL_split f n hn, List.append_assoc] at hr
  have := List.append_cancel_left hr
  obtain ⟨h1, h2, h3, h4⟩ := eachF_head f x r (32 - n) n (by simpa using this)
  refine ⟨h1, by omega, h3, h4, ?_⟩
  rw [eachK_succ, h3, if_pos rfl]
  have : eachK f (n + (x - n)) = eachK f n := by
    have key : ∀ m, n + m ≤ x → eachK f (n + m) = eachK f n := by
      intro m
      induction m with
      | zero => intro _; rfl
      | succ m ih => intro hm; rw [← Nat.add_assoc, eachK_succ, h4 (n + m) (by omega) (by omega), ih (by omega)]; simp
    exact key (x - n) (by omega)
  rw [show n + (x - n) = x by omega] at this
  rw [this]
theorem each_end {f n : Nat} (hn : n ≤ 32) (h : eachK f n = eachL f) : ∀ j, n ≤ j → j < 32 → eachP f j = false := by
  rw [eachL_split f n hn] at h
  have h0 : eachF f n (32 - n) = [] := List.append_right_eq_self.1 h.symm
  intro j h1 h2
  unfold eachF at h0
  rw [List.filter_eq_nil_iff] at h0
  have := h0 j (List.mem_range'_1.2 ⟨h1, by omega⟩)
  simpa using this
theorem marks_below {s : Nat} : ∀ {ds : List Deferred} {W : World}, Marks s ds W → ∀ d' ∈ ds, ∀ D : Nat, W.heap.size ≤ D → d' ≠ ({ target := .collected D, args := #[] } : Deferred) := by
  intro ds
  induction ds with
  | nil => intro W _ d' h; cases h
  | cons d ds ih =>
    intro W h d' hd D hD
    obtain ⟨⟨E, h1, h2, h3, h4⟩, h5⟩ := h
    rcases List.mem_cons.1 hd with rfl | hd
    · rw [h1]
      intro e
      have := lt_of_get h3
      simp at e
      omega
    · exact ih h5 d' hd D hD
/-- What lies at the head of the outer loop. -/
structure EInv (w : World) (f : Nat) (many : Int) (turn b6 : Nat) (ds : List Deferred) (W : World) : Prop where
  le : turn ≤ 2
  ext : Ext w W
  c2 : Boxed W w.heap.size 22 (.int .u32 (f : Int))
  c3 : Boxed W (w.heap.size + 1) 3 (.int .i64 many)
  c4 : Boxed W (w.heap.size + 1 + 1) 4 (.bool false)
  c5 : Boxed W (w.heap.size + 1 + 1 + 1) 24 (.int .u32 (f : Int))
  c6 : Boxed W b6 3 (.int .i64 (turn : Int))
  lo : w.heap.size + 4 ≤ b6
  marks : Marks w.heap.size ds W
theorem RoundKeeps.of_step {B : Nat} {R K : Nat → Prop} {V V' : World} (h : StepIt K V V') (hK : ∀ k, K k → k < B) (hKc : ∀ k, K k → ¬ R k) (hR : ∀ k, R k → k < V.heap.size) : RoundKeeps B R V V' :=
  ⟨fun k o hk hb ho => (h.same k (lt_of_get hk) (fun hc => by have := hK k hc; omega)).trans hk, fun k hk => h.same k (hR k hk) (fun hc => hKc k hc hk)⟩
def cellNat (W : World) (b : Nat) : Nat := match W.cell? ⟨b, 0, none⟩ with | some (.int _ z) => z.toNat | _ => 0
theorem cellNat_of {W : World} {b n : Nat} {t : TypeId} (h : Boxed W b t (.int .i64 (n : Int))) : cellNat W b = n := by unfold cellNat; rw [h.cell]; rfl
def ptrB (v : Value) : Nat := match v with | .pointer (some a) => a.block | _ => 0
theorem EInv.next {w W W0 V : World} {f : Nat} {many : Int} {turn b6 : Nat} {ds : List Deferred} (hI : EInv w f many turn b6 ds W) (ht : turn < 2) (hxW : Ext W W0) (hsz : W0.heap.size = W.heap.size + 2) (hs : StepIt (fun k => k = W.heap.size ∨ k = W.heap.size + 1) W0 V) {D : Nat} (hD : W0.heap.size ≤ D) (hm : V.heap[D]? = some (.deferred (some []))) (z : Int) (hz : z = ((turn + 1 : Nat) : Int)) :
    EInv w f many (turn + 1) V.heap.size ({ target := .collected D, args := #[] } :: ds) (V.alloc (.cells #[.int .i64 z] 3)) := by
  subst hz
  have hws := hI.ext.sz
  have h5 := hI.c5.lt
  have hsV := hs.size
  have mv : ∀ {b : Nat} {t : TypeId} {v : Value}, b < W.heap.size → Boxed W b t v → Boxed (V.alloc (.cells #[.int .i64 ((turn + 1 : Nat) : Int)] 3)) b t v := fun hb h => (hs.boxed ((hxW.block _ h.lt).trans h) (by omega)).alloc _
  have mh : ∀ {D : Nat} {o : Obj}, D < V.heap.size → V.heap[D]? = some o → (V.alloc (.cells #[.int .i64 ((turn + 1 : Nat) : Int)] 3)).heap[D]? = some o := fun hd h => (((Ext.refl V).alloc (.cells #[.int .i64 ((turn + 1 : Nat) : Int)] 3)).block _ hd).trans h
  refine ⟨by omega, (hs.ext (hI.ext.trans hxW) (fun k hk => by omega)).alloc _, mv hI.c2.lt hI.c2, mv hI.c3.lt hI.c3, mv hI.c4.lt hI.c4, mv hI.c5.lt hI.c5, Boxed.new _ _ _, by omega, ⟨⟨D, rfl, by omega, mh (lt_of_get hm) hm, fun d' hd => marks_below hI.marks d' hd D (by omega)⟩, ?_⟩⟩
  exact hI.marks.keep (fun E hE hd he => mh (by omega) ((hs.same E (by omega) (by omega)).trans ((hxW.block E hd).trans he)))
theorem each_done {w W W0 V : World} {f : Nat} {many : Int} {turn b6 : Nat} {ds : List Deferred} (hI : EInv w f many turn b6 ds W) (ht : turn < 2) (hxW : Ext W W0) (hsz : W0.heap.size = W.heap.size + 2) (hs : StepIt (fun k => k = W.heap.size ∨ k = W.heap.size + 1) W0 V) {D : Nat} (hD : W0.heap.size ≤ D) (hm : V.heap[D]? = some (.deferred (some []))) (z : Int) (hz : z = ((turn + 1 : Nat) : Int))
    {tm tm0 : Array Value} (hfr : tm.size = 85 ∧ tm.getD 0 undef = .int .u32 (f : Int) ∧ tm.getD 1 undef = .int .i64 many ∧ tm.getD 2 undef = .pointer (some ⟨w.heap.size, 0, none⟩) ∧ tm.getD 3 undef = .pointer (some ⟨w.heap.size + 1, 0, none⟩) ∧ tm.getD 4 undef = .pointer (some ⟨w.heap.size + 1 + 1, 0, none⟩) ∧ tm.getD 5 undef = .func (.func 43) #[] #[.pointer (some ⟨w.heap.size + 1 + 1 + 1, 0, none⟩)] ∧ tm.getD 6 undef = .pointer (some ⟨V.heap.size, 0, none⟩) ∧ tm0.getD 6 undef = .pointer (some ⟨b6, 0, none⟩)) :
    (∃ turn b6 ds', EInv w f many turn b6 ds' (V.alloc (.cells #[.int .i64 z] 3)) ∧ { target := .collected D, args := #[] } :: ds = ds' ∧ tm.size = 85 ∧ tm.getD 0 undef = .int .u32 (f : Int) ∧ tm.getD 1 undef = .int .i64 many ∧ tm.getD 2 undef = .pointer (some ⟨w.heap.size, 0, none⟩) ∧ tm.getD 3 undef = .pointer (some ⟨w.heap.size + 1, 0, none⟩) ∧ tm.getD 4 undef = .pointer (some ⟨w.heap.size + 1 + 1, 0, none⟩) ∧ tm.getD 5 undef = .func (.func 43) #[] #[.pointer (some ⟨w.heap.size + 1 + 1 + 1, 0, none⟩)] ∧ tm.getD 6 undef = .pointer (some ⟨b6, 0, none⟩)) ∧ 2 - cellNat (V.alloc (.cells #[.int .i64 z] 3)) (ptrB (tm.getD 6 undef)) < 2 - cellNat W (ptrB (tm0.getD 6 undef)) := by
  have hn := hI.next ht hxW hsz hs hD hm z hz
  obtain ⟨h1, h2, h3, h4, h5, h6, h7, h8, h9⟩ := hfr
  refine ⟨⟨turn + 1, _, _, hn, rfl, h1, h2, h3, h4, h5, h6, h7, h8⟩, ?_⟩
  rw [h8, h9]
  show 2 - cellNat _ V.heap.size < 2 - cellNat _ b6
  rw [cellNat_of hn.c6, cellNat_of hI.c6]
  omega
theorem each_done2 {w W W0 V : World} {f : Nat} {many : Int} {turn b6 : Nat} {ds : List Deferred} (hI : EInv w f many turn b6 ds W) (ht : turn < 2) (hxW : Ext W W0) (hsz : W0.heap.size = W.heap.size + 2) (hs : StepIt (fun k => k = W.heap.size ∨ k = W.heap.size + 1) W0 V) {D : Nat} (hD : W0.heap.size ≤ D) (hm : V.heap[D]? = some (.deferred (some []))) (z : Int) (hz : z = ((turn + 1 : Nat) : Int)) :
    (∃ turn b6 ds', EInv w f many turn b6 ds' (V.alloc (.cells #[.int .i64 z] 3)) ∧ { target := .collected D, args := #[] } :: ds = ds' ∧ V.heap.size = b6) ∧ 2 - cellNat (V.alloc (.cells #[.int .i64 z] 3)) (ptrB (.pointer (some ⟨V.heap.size, 0, none⟩))) < 2 - cellNat W (ptrB (.pointer (some ⟨b6, 0, none⟩))) := by
  have hn := hI.next ht hxW hsz hs hD hm z hz
  refine ⟨⟨turn + 1, _, _, hn, rfl, rfl⟩, ?_⟩
  show 2 - cellNat _ V.heap.size < 2 - cellNat _ b6
  rw [cellNat_of hn.c6, cellNat_of hI.c6]
  omega
theorem res_each {W : World} {b : Nat} {v : Bool} (tmps : Array Value) (h4 : tmps[4]?.getD undef = .pointer (some ⟨b, 0, none⟩)) (hb : W.cell? ⟨b, 0, none⟩ = some (.bool v)) : (results Tryd.f5 tmps).run Tryd.prog W = .ok (.bool v) W := by
  have hr : (Tryd.f5).results = #[.cell 4 4] := rfl
  simp only [results, hr]
  simp [Sem.run_bind, Result.andThen, go_sem, h4, hb]
/-- A frame by a function of its slots. -/
def fr85 (u : Nat → Value) : Array Value := #[u 0, u 1, u 2, u 3, u 4, u 5, u 6, u 7, u 8, u 9, u 10, u 11, u 12, u 13, u 14, u 15, u 16, u 17, u 18, u 19, u 20, u 21, u 22, u 23, u 24, u 25, u 26, u 27, u 28, u 29, u 30, u 31, u 32, u 33, u 34, u 35, u 36, u 37, u 38, u 39, u 40, u 41, u 42, u 43, u 44, u 45, u 46, u 47, u 48, u 49, u 50, u 51, u 52, u 53, u 54, u 55, u 56, u 57, u 58, u 59, u 60, u 61, u 62, u 63, u 64, u 65, u 66, u 67, u 68, u 69, u 70, u 71, u 72, u 73, u 74, u 75, u 76, u 77, u 78, u 79, u 80, u 81, u 82, u 83, u 84]
theorem arr_of (t : Array Value) (n : Nat) (h : t.size = n) : t = ((List.range n).map fun i => t.getD i undef).toArray := by
  subst h
  apply Array.ext
  · simp
  · intro i h1 h2
    simp [Array.getD, h1]
theorem fr85_of (t : Array Value) (h : t.size = 85) : t = fr85 (fun i => t.getD i undef) := (arr_of t 85 h).trans rfl
set_option maxRecDepth 100000 in
set_option maxHeartbeats 25600000 in
theorem lawEach_any (f : Nat) (many : Int) (w : World) (hT : TabAt 0 Lib.deBruijn32tab w) (hf : f < 4294967296) :
    Calls Tryd.prog 5 #[.int .u32 (f : Int), .int .i64 many] w fun e w' => e = .returned (.bool true) ∧ Ext w w' := by
  have HT := Lib.hid hT
  have hdt := tab_lt hT
  clear hT
  refine (callsIn_wide (n := 0)).1 (callsIn_of_wp_marks Tryd.func5 rfl trivial ?_ rfl)
  simp only [Tryd.ntmps5, List.size_toArray, List.length_cons, List.length_nil, Nat.reduceAdd, Nat.reduceSub, Array.replicate_succ, Array.replicate_zero, List.push_toArray, List.append_toArray, List.nil_append, List.cons_append]
  refine wpIn_wide.2 ?_
  have hnf : ∀ (c : Array Value) (W : World), Sem.run Tryd.prog (binOp BinOp.eql 39 (Value.func (Fn.func 43) #[] c) Value.nilFunc) W = .ok (.bool false) W := fun _ _ => rfl
  go_wp2_with (go_at_call 22; refine (each_any f _).mono ?_; rintro e w2 ⟨rfl, rfl⟩)
  refine wp_loop (fun a W => ∃ turn b6 ds, EInv w f many turn b6 ds W ∧ a.defers = ds ∧ a.tmps.size = 85 ∧ a.tmps.getD 0 undef = .int .u32 (f : Int) ∧ a.tmps.getD 1 undef = .int .i64 many ∧ a.tmps.getD 2 undef = .pointer (some ⟨w.heap.size, 0, none⟩) ∧ a.tmps.getD 3 undef = .pointer (some ⟨w.heap.size + 1, 0, none⟩) ∧ a.tmps.getD 4 undef = .pointer (some ⟨w.heap.size + 1 + 1, 0, none⟩) ∧ a.tmps.getD 5 undef = .func (.func 43) #[] #[.pointer (some ⟨w.heap.size + 1 + 1 + 1, 0, none⟩)] ∧ a.tmps.getD 6 undef = .pointer (some ⟨b6, 0, none⟩)) (fun a W => 2 - cellNat W (ptrB (a.tmps.getD 6 undef))) ?_ ?_
  · refine ⟨0, w.heap.size + 1 + 1 + 1 + 1, [], ?_, rfl, rfl, rfl, rfl, rfl, rfl, rfl, rfl, rfl⟩
    have q2 := (((Boxed.new w 22 (.int .u32 (f : Int))).alloc (.cells #[.int .i64 many] 3)).alloc (.cells #[.bool false] 4)).alloc (.cells #[.int .u32 (f : Int)] 24) |>.alloc (.cells #[.int .i64 0] 3)
    have q3 := (((Boxed.new (w.alloc (.cells #[.int .u32 (f : Int)] 22)) 3 (.int .i64 many)).alloc (.cells #[.bool false] 4)).alloc (.cells #[.int .u32 (f : Int)] 24)).alloc (.cells #[.int .i64 0] 3)
    have q4 := ((Boxed.new ((w.alloc (.cells #[.int .u32 (f : Int)] 22)).alloc (.cells #[.int .i64 many] 3)) 4 (.bool false)).alloc (.cells #[.int .u32 (f : Int)] 24)).alloc (.cells #[.int .i64 0] 3)
    have q5 := (Boxed.new (((w.alloc (.cells #[.int .u32 (f : Int)] 22)).alloc (.cells #[.int .i64 many] 3)).alloc (.cells #[.bool false] 4)) 24 (.int .u32 (f : Int))).alloc (.cells #[.int .i64 0] 3)
    have q6 := Boxed.new ((((w.alloc (.cells #[.int .u32 (f : Int)] 22)).alloc (.cells #[.int .i64 many] 3)).alloc (.cells #[.bool false] 4)).alloc (.cells #[.int .u32 (f : Int)] 24)) 3 (.int .i64 0)
    simp only [World.size_alloc] at q3 q4 q5 q6
    exact ⟨by omega, (((((Ext.refl w).alloc _).alloc _).alloc _).alloc _).alloc _, q2, q3, q4, q5, q6, by omega, trivial⟩
  · rintro ⟨tmps, defers⟩ W ⟨turn, b6, ds, hI, hds, hsz, k0, k1, k2, k3, k4, k5, k6⟩
    simp only at hds hsz k0 k1 k2 k3 k4 k5 k6
    subst hds
    obtain ⟨u, hu⟩ : ∃ u : Nat → Value, ∀ i, tmps.getD i undef = u i := ⟨_, fun _ => rfl⟩
    have ht85 := fr85_of tmps hsz
    unfold fr85 at ht85
    simp only [k0, k1, k2, k3, k4, k5, k6, hu] at ht85
    clear k0 k1 k2 k3 k4 k5 k6 hu hsz
    subst ht85
    have c2 := hI.c2.cell
    have c3 := hI.c3.cell
    have c6 := hI.c6.cell
    have hle := hI.le
    by_cases ht : turn < 2
    · go_wp2
      have hdec : decide ((turn : Int) < 2) = true := by simp; omega
      simp only [hdec]
      clear hdec
      have n7 := (Boxed.new W 3 (.int .i64 0)).alloc (.cells #[.int .i64 0] 3)
      have n8 := Boxed.new (W.alloc (.cells #[.int .i64 0] 3)) 3 (.int .i64 0)
      rw [World.size_alloc] at n8
      have hxW : Ext W ((W.alloc (.cells #[.int .i64 0] 3)).alloc (.cells #[.int .i64 0] 3)) := ((Ext.refl W).alloc _).alloc _
      have hsz : ((W.alloc (.cells #[.int .i64 0] 3)).alloc (.cells #[.int .i64 0] 3)).heap.size = W.heap.size + 2 := by simp
      generalize (W.alloc (.cells #[.int .i64 0] 3)).alloc (.cells #[.int .i64 0] 3) = W0 at *
      have hws := hI.ext.sz
      have h6lt := hI.c6.lt
      have hlo := hI.lo
      have hs0 : StepIt (fun k => k = W.heap.size ∨ k = W.heap.size + 1) W0 W0 := StepIt.refl _ _
      have hx0 : Ext w W0 := hI.ext.trans hxW
      have z2 : Boxed W0 w.heap.size 22 (.int .u32 (f : Int)) := (hxW.block _ hI.c2.lt).trans hI.c2
      have z3 : Boxed W0 (w.heap.size + 1) 3 (.int .i64 many) := (hxW.block _ hI.c3.lt).trans hI.c3
      have z4 : Boxed W0 (w.heap.size + 1 + 1) 4 (.bool false) := (hxW.block _ hI.c4.lt).trans hI.c4
      have z5 : Boxed W0 (w.heap.size + 1 + 1 + 1) 24 (.int .u32 (f : Int)) := (hxW.block _ hI.c5.lt).trans hI.c5
      have z6 : Boxed W0 b6 3 (.int .i64 (turn : Int)) := (hxW.block _ hI.c6.lt).trans hI.c6
      have zlt4 := hI.c5.lt
      have MK := Lib.hid (hI.marks.keep (W' := W0) (fun D _ hD hd => (hxW.block D hD).trans hd))
      have MK2 : Hid (∀ d' ∈ defers, ∀ D : Nat, W.heap.size ≤ D → d' ≠ ({ target := .collected D, args := #[] } : Deferred)) := marks_below hI.marks
      have HSZ := Lib.hid hsz
      clear c2 c3 c6 hsz
      rename_i K hK
      have fin : ∀ (D : Nat) (V : World) (n kk : Nat), W0.heap.size ≤ D → n ≤ 32 → Hid (turn = 1 → eachK f n = eachL f) → Boxed V (W.heap.size + 1) 3 (.int .i64 (n : Int)) → Boxed V W.heap.size 3 (.int .i64 (kk : Int)) → StepIt (fun k => k = W.heap.size ∨ k = W.heap.size + 1) W0 V → V.heap[D]? = some (.deferred (some [])) →
          K { tmps := #[.int .u32 (f : Int), .int .i64 many, .pointer (some ⟨w.heap.size, 0, none⟩), .pointer (some ⟨w.heap.size + 1, 0, none⟩), .pointer (some ⟨w.heap.size + 1 + 1, 0, none⟩), .func (.func 43) #[] #[.pointer (some ⟨w.heap.size + 1 + 1 + 1, 0, none⟩)], .pointer (some ⟨b6, 0, none⟩), .pointer (some ⟨W.heap.size, 0, none⟩), .pointer (some ⟨W.heap.size + 1, 0, none⟩), u 9, u 10, u 11, u 12, u 13, u 14, .int .i64 (turn : Int), .bool true, u 17, u 18, .func (.func 43) #[] #[.pointer (some ⟨w.heap.size + 1 + 1 + 1, 0, none⟩)], u 20, u 21, u 22, u 23, u 24, u 25, u 26, u 27, u 28, u 29, u 30, u 31, u 32, u 33, u 34, u 35, u 36, u 37, u 38, u 39, u 40, u 41, u 42, u 43, u 44, u 45, u 46, u 47, u 48, u 49, u 50, u 51, u 52, u 53, u 54, u 55, u 56, u 57, u 58, u 59, u 60, u 61, u 62, u 63, u 64, u 65, u 66, u 67, u 68, u 69, u 70, u 71, u 72, u 73, u 74, u 75, u 76, u 77, u 78, u 79, u 80, u 81, u 82, u 83, u 84], defers := { target := .collected D, args := #[] } :: defers } V := by
        intro D V n kk hD hn hend h8 h7 hs hm
        refine hK _ _ ?_
        go_wp2
        go_loopw [62] (fun _ wr => ∃ j : Nat, n ≤ j ∧ j ≤ 32 ∧ Boxed wr (W.heap.size + 1) 3 (.int .i64 (j : Int)) ∧ StepIt (fun k => k = W.heap.size ∨ k = W.heap.size + 1) V wr) (fun _ wr => 32 - cellNat wr (W.heap.size + 1))
        case atStart => exact ⟨n, Nat.le_refl _, hn, h8, StepIt.refl _ _⟩
        case round =>
          obtain ⟨j, hj1, hj2, hb8, hsj⟩ := hrel
          have hsW := hs.trans hsj
          have y2 := hsW.boxed z2 (by omega)
          have y6 := hsW.boxed z6 (by omega)
          have e2 := y2.cell
          have e6 := y6.cell
          have e8 := hb8.cell
          have e8f := hb8.frozen
          have hmr := (hsj.same D (lt_of_get hm) (by have := HSZ.out; omega)).trans hm
          have HM := Lib.hid hmr
          clear hmr
          by_cases hlt : j < 32
          · have hlt32 : decide ((j : Int) < 32) = true := by simp; omega
            cases hp : eachP f j
            · have hmeas : 32 - cellNat (wr.setCell ⟨W.heap.size + 1, 0, none⟩ (.int .i64 ((j + 1 : Nat) : Int))) (W.heap.size + 1) < 32 - cellNat wr (W.heap.size + 1) := by
                rw [cellNat_of (hb8.set _), cellNat_of hb8]; omega
              have hnum : (((j + 1 : Nat) : Int)) = (j : Int) + 1 := by omega
              cases hb : f.testBit j
              · have HB := Lib.hid hb
                clear hb hp
                rw [hnum] at hmeas
                have HME := Lib.hid hmeas
                clear hmeas
                go_wp2_with (first | (go_at_call 23; (with_reducible refine (rHas_any f j hlt _ rfl _).mono ?_); rintro e w' ⟨rfl, rfl⟩; rw [HB.out]))
                go_roundw
                case rel =>
                  refine ⟨j + 1, by omega, by omega, ?_, hsj.trans (StepIt.set _ _ _ (.inr rfl))⟩
                  rw [hnum]; exact hb8.set _
                case measure => exact HME.out
              · have hh : hasName j = false := by unfold eachP at hp; rw [hb, Bool.true_and] at hp; exact hp
                have hnil := nameOf_nil j hlt
                rw [hh] at hnil
                have HB := Lib.hid hb
                clear hb hp hh hmeas
                go_wp2_with (first | (go_at_call 23; (with_reducible refine (rHas_any f j hlt _ rfl _).mono ?_); rintro e w' ⟨rfl, rfl⟩; rw [HB.out]) | (go_at_call 24; (with_reducible refine (rName_any j hlt _).mono ?_); rintro e w9 ⟨rfl, hx9⟩; have g8 := StepIt.boxed (K := fun _ => False) (StepIt.of_ext hx9) hb8 (fun h => h); have g8c := g8.cell; have g8f := g8.frozen))
                have hmeas : 32 - cellNat (w9.setCell ⟨W.heap.size + 1, 0, none⟩ (.int .i64 ((j + 1 : Nat) : Int))) (W.heap.size + 1) < 32 - cellNat wr (W.heap.size + 1) := by
                  rw [cellNat_of (g8.set _), cellNat_of hb8]; omega
                rw [hnum] at hmeas
                go_roundw
                case rel =>
                  refine ⟨j + 1, by omega, by omega, ?_, (hsj.trans (StepIt.of_ext hx9)).trans (StepIt.set _ _ _ (.inr rfl))⟩
                  rw [hnum]; exact g8.set _
                case measure => exact hmeas
            · have hb : f.testBit j = true := by unfold eachP at hp; rw [Bool.and_eq_true] at hp; exact hp.1
              have hh : hasName j = true := by unfold eachP at hp; rw [Bool.and_eq_true] at hp; exact hp.2
              have hnil := nameOf_nil j hlt
              rw [hh] at hnil
              have ht0 : turn = 0 := by
                rcases (by omega : turn = 0 ∨ turn = 1) with h | h
                · exact h
                · have := each_end hn (hend.out h) j hj1 hlt
                  rw [hp] at this; cases this
              subst ht0
              have HB := Lib.hid hb
              clear hb hp hh
              go_wp2_with (first | (go_at_call 23; (with_reducible refine (rHas_any f j hlt _ rfl _).mono ?_); rintro e w' ⟨rfl, rfl⟩; rw [HB.out]) | (go_at_call 24; (with_reducible refine (rName_any j hlt _).mono ?_); rintro e w9 ⟨rfl, hx9⟩; have g6 := StepIt.boxed (K := fun _ => False) (StepIt.of_ext hx9) y6 (fun h => h); have g8 := StepIt.boxed (K := fun _ => False) (StepIt.of_ext hx9) hb8 (fun h => h); have g6c := g6.cell; have g8c := g8.cell))
              exact each_done hI ht hxW HSZ.out (hsW.trans (StepIt.of_ext hx9)) hD ((hx9.block D (lt_of_get HM.out)).trans HM.out) _ (by omega) ⟨rfl, rfl, rfl, rfl, rfl, rfl, rfl, rfl, rfl⟩
          · obtain rfl : j = 32 := by omega
            rcases (by omega : turn = 0 ∨ turn = 1) with h | h
            all_goals
              subst h
              go_wp2
              first | exact each_done2 hI ht hxW HSZ.out hsW hD HM.out _ (by omega) | exact each_done hI ht hxW HSZ.out hsW hD HM.out _ (by omega) ⟨rfl, rfl, rfl, rfl, rfl, rfl, rfl, rfl, rfl⟩
      have FIN := Lib.hid fin
      clear fin hK
      refine wp_range (gf := 43) (lb := #[.pointer (some ⟨w.heap.size + 1 + 1 + 1, 0, none⟩)]) rfl (enters_of Tryd.func43 (by kernel_rfl) rfl) (each_seq f hf W0 (w.heap.size + 1 + 1 + 1) z5.cell (TabAt.ext HT.out hx0)) (fun _ => rfl) (fun _ h => h.elim) (fun k hk => by subst hk; have := hx0.sz; omega)
        (fun pre V => ∃ n : Nat, n ≤ 32 ∧ pre = eachK f n ∧ Boxed V (W.heap.size + 1) 3 (.int .i64 (n : Int)) ∧ Boxed V W.heap.size 3 (.int .i64 (pre.length : Int)) ∧ StepIt (fun k => k = W.heap.size ∨ k = W.heap.size + 1) W0 V)
        (fun c pre V => c = .exit 2 ∧ turn = 0 ∧ ∃ n : Nat, n ≤ 32 ∧ Boxed V (W.heap.size + 1) 3 (.int .i64 (n : Int)) ∧ Boxed V W.heap.size 3 (.int .i64 (pre.length : Int)) ∧ StepIt (fun k => k = W.heap.size ∨ k = W.heap.size + 1) W0 V)
        (fun pre V V' h ⟨n, h1, h2, h3, h4, h5⟩ => ⟨n, h1, h2, h.boxed h3 (fun h => h), h.boxed h4 (fun h => h), h5.then h (Nat.le_refl _)⟩)
        (fun c pre V V' h ⟨h0, h1, n, h2, h3, h4, h5⟩ => ⟨h0, h1, n, h2, h.boxed h3 (fun h => h), h.boxed h4 (fun h => h), h5.then h (Nat.le_refl _)⟩)
        ⟨0, by omega, rfl, n8, n7, hs0⟩
        (fun x a' _ => a' = { tmps := #[.int .u32 (f : Int), .int .i64 many, .pointer (some ⟨w.heap.size, 0, none⟩), .pointer (some ⟨w.heap.size + 1, 0, none⟩), .pointer (some ⟨w.heap.size + 1 + 1, 0, none⟩), .func (.func 43) #[] #[.pointer (some ⟨w.heap.size + 1 + 1 + 1, 0, none⟩)], .pointer (some ⟨b6, 0, none⟩), .pointer (some ⟨W.heap.size, 0, none⟩), .pointer (some ⟨W.heap.size + 1, 0, none⟩), .int .u32 ((2 : Int) ^ x), .string (nameOf x), u 11, u 12, u 13, u 14, .int .i64 (turn : Int), .bool true, u 17, u 18, .func (.func 43) #[] #[.pointer (some ⟨w.heap.size + 1 + 1 + 1, 0, none⟩)], .int .u32 ((2 : Int) ^ x), .string (nameOf x), u 22, u 23, u 24, u 25, u 26, u 27, u 28, u 29, u 30, u 31, u 32, u 33, u 34, u 35, u 36, u 37, u 38, u 39, u 40, u 41, u 42, u 43, u 44, u 45, u 46, u 47, u 48, u 49, u 50, u 51, u 52, u 53, u 54, u 55, u 56, u 57, u 58, u 59, u 60, u 61, u 62, u 63, u 64, u 65, u 66, u 67, u 68, u 69, u 70, u 71, u 72, u 73, u 74, u 75, u 76, u 77, u 78, u 79, u 80, u 81, u 82, u 83, u 84], defers := [] })
        (fun _ _ _ _ _ h => h) ?assign ?body ?done ?stop
      case assign =>
        intro l pre x V Q hI hK
        unfold encF
        gi_wp2
        exact hK _ _ (RoundKeeps.refl _ _ _) hI rfl
      case done =>
        rintro D V hD ⟨n, h1, h2, h3, h4, h5⟩ hm
        exact FIN.out D V n _ hD h1 (fun _ => h2.symm) h3 h4 h5 hm
      case stop =>
        rintro D c pre V hD hpre ⟨rfl, h1, n, h2, h3, h4, h5⟩ hm
        refine wp_exit ?_
        exact FIN.out D V n _ hD h2 (fun h => by omega) h3 h4 h5 hm
      case body =>
        rintro l pre x a' V hl hr ⟨n, hn, rfl, h8, h7, hs⟩ rfl hp
        obtain ⟨hx1, hx2, hx3, hx4, hx5⟩ := each_next hn hp
        have y2 := hs.boxed z2 (by omega)
        have y3 := hs.boxed z3 (by omega)
        have y6 := hs.boxed z6 (by omega)
        have hVs := hs.size
        have HX4 := Lib.hid hx4
        have HX5 := Lib.hid hx5
        have t0 : Fence.wide.depth = none := rfl
        have t1 : Fence.wide.fn 23 := trivial
        have t2 : Fence.wide.fn 24 := trivial
        clear hx4 hx5 hp
        gi_wp2
        gi_loopw [22] (fun _ wr => ∃ j : Nat, n ≤ j ∧ j ≤ x ∧ Boxed wr (W.heap.size + 1) 3 (.int .i64 (j : Int)) ∧ StepIt (fun k => k = W.heap.size + 1) V wr) (fun _ wr => 32 - cellNat wr (W.heap.size + 1))
        case atStart => exact ⟨n, Nat.le_refl _, hx1, h8, StepIt.refl _ _⟩
        case round =>
          obtain ⟨j, hj1, hj2, hb8, hsj⟩ := hrel
          have x2 := hsj.boxed y2 (by omega)
          have x3 := hsj.boxed y3 (by omega)
          have x6 := hsj.boxed y6 (by omega)
          have e2 := x2.cell
          have e3 := x3.cell
          have e6 := x6.cell
          have e8 := hb8.cell
          have e8f := hb8.frozen
          have hlt32 : decide ((j : Int) < 32) = true := by simp; omega
          by_cases hlt : j < x
          · have hp := HX4.out j hj1 hlt
            have hmeas : 32 - cellNat (wr.setCell ⟨W.heap.size + 1, 0, none⟩ (.int .i64 ((j + 1 : Nat) : Int))) (W.heap.size + 1) < 32 - cellNat wr (W.heap.size + 1) := by
              rw [cellNat_of (hb8.set _), cellNat_of hb8]; omega
            have hnum : (((j + 1 : Nat) : Int)) = (j : Int) + 1 := by omega
            cases hb : f.testBit j
            · have HB := Lib.hid hb
              clear hb hp
              rw [hnum] at hmeas
              have HME := Lib.hid hmeas
              clear hmeas
              gi_wp2_with (first | (gi_at_call 23; refine (CallsIn.inRound l (callsIn_wide.2 (rHas_any f j (by omega) _ rfl _))).mono ?_; rintro e w' ⟨rfl, rfl⟩; rw [HB.out]))
              go_roundw
              case rel =>
                refine ⟨j + 1, by omega, by omega, ?_, hsj.trans (StepIt.set _ _ _ rfl)⟩
                rw [hnum]; exact hb8.set _
              case measure => exact HME.out
            · have hh : hasName j = false := by unfold eachP at hp; rw [hb, Bool.true_and] at hp; exact hp
              have hnil := nameOf_nil j (by omega)
              rw [hh] at hnil
              have HB := Lib.hid hb
              clear hb hp hh hmeas
              gi_wp2_with (first | (gi_at_call 23; refine (CallsIn.inRound l (callsIn_wide.2 (rHas_any f j (by omega) _ rfl _))).mono ?_; rintro e w' ⟨rfl, rfl⟩; rw [HB.out]) | (gi_at_call 24; refine (CallsIn.inRound l (callsIn_wide.2 (rName_any j (by omega) _))).mono ?_; rintro e wn ⟨rfl, hxn⟩; have g8 := StepIt.boxed (K := fun _ => False) (StepIt.of_ext hxn) hb8 (fun h => h); have g8c := g8.cell; have g8f := g8.frozen))
              have hmeas : 32 - cellNat (wn.setCell ⟨W.heap.size + 1, 0, none⟩ (.int .i64 ((j + 1 : Nat) : Int))) (W.heap.size + 1) < 32 - cellNat wr (W.heap.size + 1) := by
                rw [cellNat_of (g8.set _), cellNat_of hb8]; omega
              rw [hnum] at hmeas
              go_roundw
              case rel =>
                refine ⟨j + 1, by omega, by omega, ?_, (hsj.trans (StepIt.of_ext hxn)).trans (StepIt.set _ _ _ rfl)⟩
                rw [hnum]; exact g8.set _
              case measure => exact hmeas
          · obtain rfl : j = x := by omega
            have hb : f.testBit j = true := by unfold eachP at hx3; rw [Bool.and_eq_true] at hx3; exact hx3.1
            have hh : hasName j = true := by unfold eachP at hx3; rw [Bool.and_eq_true] at hx3; exact hx3.2
            have hnil := nameOf_nil j hx2
            rw [hh] at hnil
            have hne32 : (((j : Nat) : Int) == 32) = false := by simp; omega
            have hp2 := two32 hx2
            have hmod : ((2 ^ j : Nat) : Int) % 4294967296 = ((2 ^ j : Nat) : Int) := by generalize 2 ^ j = y at hp2; omega
            have hcast : ((2 ^ j : Nat) : Int) = (2 : Int) ^ j := by simp
            rw [hcast] at hmod
            have hlen : (eachK f n ++ [j]).length = (eachK f n).length + 1 := by simp
            have hl32 : (eachK f n).length ≤ 32 := by
              have := List.length_filter_le (eachP f) (List.range n)
              rw [List.length_range] at this
              unfold eachK; omega
            have b7 := hsj.boxed h7 (by omega)
            have HB := Lib.hid hb
            have HLEN := Lib.hid hlen
            clear hb hh hx3 hlen hp2 hcast
            generalize hkk : (eachK f n).length = kk at *
            have HKK := Lib.hid hkk
            clear hkk
            have hEnd : ∀ (wa wb : World), Ext wr wa → Ext wa wb → StepIt (fun k => k = W.heap.size ∨ k = W.heap.size + 1) V ((wb.setCell ⟨W.heap.size + 1, 0, none⟩ (.int .i64 ((j : Int) + 1))).setCell ⟨W.heap.size, 0, none⟩ (.int .i64 ((kk : Int) + 1))) := fun wa wb ha hb =>
              ((((hsj.mono (fun k hk => .inr hk)).trans (StepIt.of_ext ha)).trans (StepIt.of_ext hb)).trans (StepIt.set _ _ _ (.inr rfl))).trans (StepIt.set _ _ _ (.inl rfl))
            have HEND := Lib.hid hEnd
            clear hEnd
            rcases (by omega : turn = 0 ∨ turn = 1) with h | h
            · subst h
              cases hm : decide (many ≤ (kk : Int) + 1)
              all_goals
                have HM := Lib.hid hm
                gi_wp2_with (first | (gi_at_call 23; refine (CallsIn.inRound l (callsIn_wide.2 (rHas_any f j (by omega) _ rfl _))).mono ?_; rintro e w' ⟨rfl, rfl⟩; rw [HB.out]) | (gi_at_call 24; refine (CallsIn.inRound l (callsIn_wide.2 (rName_any j (by omega) wr))).mono ?_; rintro e w1n ⟨rfl, hx1n⟩; have c8 := StepIt.boxed (K := fun _ => False) (StepIt.of_ext hx1n) hb8 (fun h => h); have c8c := c8.cell) | (gi_at_call 24; refine (CallsIn.inRound l (callsIn_wide.2 (rName_any j (by omega) _))).mono ?_; rintro e w2n ⟨rfl, hx2n⟩; have hxn := hx1n.trans hx2n; have d8 := StepIt.boxed (K := fun _ => False) (StepIt.of_ext hxn) hb8 (fun h => h); have d7 := StepIt.boxed (K := fun _ => False) (StepIt.of_ext hxn) b7 (fun h => h); have d6 := StepIt.boxed (K := fun _ => False) (StepIt.of_ext hxn) x6 (fun h => h); have d3 := StepIt.boxed (K := fun _ => False) (StepIt.of_ext hxn) x3 (fun h => h); have d8c := d8.cell; have d8f := d8.frozen; have d7c := d7.cell; have d7f := d7.frozen; have d6c := d6.cell; have d3c := d3.cell))
              · refine ⟨RoundKeeps.of_step (HEND.out _ _ hx1n hx2n) (by have := HSZ.out; omega) (by have := HSZ.out; omega) (by have := HSZ.out; omega), j + 1, by omega, HX5.out.symm, ?_, ?_, hs.trans (HEND.out _ _ hx1n hx2n)⟩
                · rw [show ((j + 1 : Nat) : Int) = (j : Int) + 1 by omega]; exact (d8.set _).other (by omega) _
                · rw [HLEN.out, show ((kk + 1 : Nat) : Int) = (kk : Int) + 1 by omega]; exact (d7.other (by omega) _).set _
              · refine ⟨RoundKeeps.of_step (HEND.out _ _ hx1n hx2n) (by have := HSZ.out; omega) (by have := HSZ.out; omega) (by have := HSZ.out; omega), rfl, j + 1, by omega, ?_, ?_, hs.trans (HEND.out _ _ hx1n hx2n)⟩
                · rw [show ((j + 1 : Nat) : Int) = (j : Int) + 1 by omega]; exact (d8.set _).other (by omega) _
                · rw [HLEN.out, show ((kk + 1 : Nat) : Int) = (kk : Int) + 1 by omega]; exact (d7.other (by omega) _).set _
            · subst h
              gi_wp2_with (first | (gi_at_call 23; refine (CallsIn.inRound l (callsIn_wide.2 (rHas_any f j (by omega) _ rfl _))).mono ?_; rintro e w' ⟨rfl, rfl⟩; rw [HB.out]) | (gi_at_call 24; refine (CallsIn.inRound l (callsIn_wide.2 (rName_any j (by omega) wr))).mono ?_; rintro e w1n ⟨rfl, hx1n⟩; have c8 := StepIt.boxed (K := fun _ => False) (StepIt.of_ext hx1n) hb8 (fun h => h); have c8c := c8.cell) | (gi_at_call 24; refine (CallsIn.inRound l (callsIn_wide.2 (rName_any j (by omega) _))).mono ?_; rintro e w2n ⟨rfl, hx2n⟩; have hxn := hx1n.trans hx2n; have d8 := StepIt.boxed (K := fun _ => False) (StepIt.of_ext hxn) hb8 (fun h => h); have d7 := StepIt.boxed (K := fun _ => False) (StepIt.of_ext hxn) b7 (fun h => h); have d6 := StepIt.boxed (K := fun _ => False) (StepIt.of_ext hxn) x6 (fun h => h); have d3 := StepIt.boxed (K := fun _ => False) (StepIt.of_ext hxn) x3 (fun h => h); have d8c := d8.cell; have d8f := d8.frozen; have d7c := d7.cell; have d7f := d7.frozen; have d6c := d6.cell; have d3c := d3.cell))
              refine ⟨RoundKeeps.of_step (HEND.out _ _ hx1n hx2n) (by have := HSZ.out; omega) (by have := HSZ.out; omega) (by have := HSZ.out; omega), j + 1, by omega, HX5.out.symm, ?_, ?_, hs.trans (HEND.out _ _ hx1n hx2n)⟩
              · rw [show ((j + 1 : Nat) : Int) = (j : Int) + 1 by omega]; exact (d8.set _).other (by omega) _
              · rw [HLEN.out, show ((kk + 1 : Nat) : Int) = (kk : Int) + 1 by omega]; exact (d7.other (by omega) _).set _
    · obtain rfl : turn = 2 := by omega
      have c4 := hI.c4.cell
      have f4 := hI.c4.frozen
      go_wp2_with (go_at_call 16; (with_reducible refine (known_any _ (TabAt.ext HT.out hI.ext)).mono ?_); rintro e w9 ⟨rfl, hx9⟩; have g4 := StepIt.boxed (K := fun _ => False) (StepIt.of_ext hx9) hI.c4 (fun h => h); have g4c := g4.cell; have g4f := g4.frozen)
      exact leave_marks (b := w.heap.size + 1 + 1) (fun W' hb => res_each _ rfl hb.cell) (fun W' hx => ⟨rfl, hx⟩) defers _ (g4.set _) ((hI.ext.trans hx9).setCell (by simp; omega) _) (hI.marks.keep (fun D hD hd hm => heap_set_other _ ((hx9.block D hd).trans hm) (by intro e; subst e; have := hI.c4; rw [show W.heap[w.heap.size + 1 + 1]? = _ from this] at hm; cases hm)))
end Go.Proofs.YtbgiciijiopklaaDoor
