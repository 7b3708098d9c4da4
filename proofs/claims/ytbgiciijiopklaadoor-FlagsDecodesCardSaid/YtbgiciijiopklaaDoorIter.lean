/- Ranges over functions, at the wide fence: an iterator that hands out a list, one by one, and may write blocks of its own. -/
import Derived.Test.YtbgiciijiopklaaDoorLib
import Derived.RangeFuncNested
import Derived.RangeFuncLeaves
import Derived.ControlIn
import Derived.Shelf.Abstract
namespace Go.Proofs.YtbgiciijiopklaaDoor
open Go.RowKit Go.Shelf
/-- What an iterator does between two rounds: all lies on but its own blocks K. -/
structure StepIt (K : Nat → Prop) (W W' : World) : Prop where
  os : W'.os = W.os
  tape : W'.tape = W.tape
  output : W'.output = W.output
  size : W.heap.size ≤ W'.heap.size
  same : ∀ k, k < W.heap.size → ¬ K k → W'.heap[k]? = W.heap[k]?
/-- What an invariant of a loop must bear: what lay below B, and cells, lie on, but for K. -/
structure Step (B : Nat) (K : Nat → Prop) (W W' : World) : Prop where
  os : W'.os = W.os
  tape : W'.tape = W.tape
  output : W'.output = W.output
  size : W.heap.size ≤ W'.heap.size
  same : ∀ k o, W.heap[k]? = some o → ¬ K k → (k < B ∨ o.isCells = true) → W'.heap[k]? = some o
theorem lt_of_get {W : World} {k : Nat} {o : Obj} (h : W.heap[k]? = some o) : k < W.heap.size := (Array.getElem?_eq_some_iff.1 h).1
theorem StepIt.step {K : Nat → Prop} {W W' : World} (h : StepIt K W W') (B : Nat) : Step B K W W' :=
  ⟨h.os, h.tape, h.output, h.size, fun k _ hk hn _ => (h.same k (lt_of_get hk) hn).trans hk⟩
theorem StepIt.of_ext {K : Nat → Prop} {W W' : World} (h : Ext W W') : StepIt K W W' := ⟨h.os, h.tape, h.output, h.size, fun k hk _ => h.block k hk⟩
theorem StepIt.set {K : Nat → Prop} (W : World) (b : Nat) (v : Value) (hK : K b) : StepIt K W (W.setCell ⟨b, 0, none⟩ v) := by
  have hg := grownBy_setCell' W b v
  exact ⟨hg.os, hg.tape, hg.output, hg.size, fun k hk hn => hg.block k hk (fun e => hn (by cases e; exact hK))⟩
theorem Step.of_ext {B : Nat} {K : Nat → Prop} {W W' : World} (h : Ext W W') : Step B K W W' := (StepIt.of_ext h).step B
theorem Step.put {B : Nat} {K : Nat → Prop} {W : World} {l : Nat} {o : Obj} (o' : Obj) (hB : B ≤ l) (hl : W.heap[l]? = some o) (ho : o.isCells = false) : Step B K W (W.putObj l o') := by
  have hg := grownBy_putObj' W l o'
  refine ⟨hg.os, hg.tape, hg.output, hg.size, fun k o1 hk _ hc => ?_⟩
  have hne : k ≠ l := by
    rintro rfl
    rw [hl] at hk; cases hk
    rcases hc with hc | hc
    · omega
    · rw [ho] at hc; cases hc
  exact (hg.block k (lt_of_get hk) (fun e => hne (by cases e; rfl))).trans hk
/-- What lay when a function began lies on over a step, if K and the loop came later. -/
theorem Step.ext {B : Nat} {K : Nat → Prop} {w W W' : World} (h : Step B K W W') (hw : Ext w W) (hB : w.heap.size ≤ B) (hK : ∀ k, K k → w.heap.size ≤ k) : Ext w W' :=
  ⟨h.os.trans hw.os, h.tape.trans hw.tape, h.output.trans hw.output, Nat.le_trans hw.size h.size, fun k hk => by
    have h1 := hw.block k hk
    have h2 : w.heap[k]? = some w.heap[k] := Array.getElem?_eq_getElem hk
    rw [h2] at h1 ⊢
    exact h.same k _ h1 (fun hc => by have := hK k hc; omega) (.inl (by omega))⟩
theorem Step.boxed {B b : Nat} {K : Nat → Prop} {W W' : World} {t : TypeId} {v : Value} (h : Step B K W W') (hb : Boxed W b t v) (hK : ¬ K b) : Boxed W' b t v := h.same b _ hb hK (.inr rfl)
/-- An iterator that hands out xs, one by one, until it is told to stop; K are the blocks that it writes, R those that it wants kept. -/
def SeqOf {α : Type} (P : Program) (g : Nat) (lb : Array Value) (encs : α → Array Value) (K R : Nat → Prop) (xs : List α) (w : World) : Prop :=
  ∀ (l : Nat) (J Jx : List α → World → Prop) (W : World), Ext w W →
    (∀ s W1 W2, StepIt K W1 W2 → J s W1 → J s W2) → (∀ s W1 W2, StepIt K W1 W2 → Jx s W1 → Jx s W2) →
    (∀ pre x W1, J pre W1 → (pre ++ [x]) <+: xs → YieldAt Fence.wide 0 P l (encs x) W1 fun e W' =>
      (e = .returned (.bool true) ∧ J (pre ++ [x]) W' ∧ ∀ k, R k → W'.heap[k]? = W1.heap[k]?) ∨ (e = .returned (.bool false) ∧ Jx (pre ++ [x]) W')) →
    J [] W →
    Calls P g (#[.func (.yield l) #[] #[]] ++ lb) W fun e W' => (∃ v, e = .returned v) ∧ (J xs W' ∨ ∃ pre, pre <+: xs ∧ Jx pre W')
/-- What a round keeps: the records of loops, and the iterator's blocks. -/
def RoundKeeps (B : Nat) (R : Nat → Prop) (W W' : World) : Prop :=
  (∀ k o, W.heap[k]? = some o → B ≤ k → o.isCells = false → W'.heap[k]? = some o) ∧ ∀ k, R k → W'.heap[k]? = W.heap[k]?
theorem RoundKeeps.refl (B : Nat) (R : Nat → Prop) (W : World) : RoundKeeps B R W W := ⟨fun _ _ h _ _ => h, fun _ _ => rfl⟩
theorem RoundKeeps.of_ext {B : Nat} {R : Nat → Prop} {W W' : World} (h : Ext W W') (hR : ∀ k, R k → k < W.heap.size) : RoundKeeps B R W W' :=
  ⟨fun k _ hk _ _ => (h.block k (lt_of_get hk)).trans hk, fun k hk => h.block k (hR k hk)⟩
theorem RoundKeeps.trans {B : Nat} {R : Nat → Prop} {X Y Z : World} (h : RoundKeeps B R X Y) (k : RoundKeeps B R Y Z) : RoundKeeps B R X Z :=
  ⟨fun i o hi hB ho => k.1 i o (h.1 i o hi hB ho) hB ho, fun i hi => (k.2 i hi).trans (h.2 i hi)⟩
def roundP {α : Type} (B : Nat) (R : Nat → Prop) (I : List α → World → Prop) (Ix : Code → List α → World → Prop) (s : List α) (W : World) : Exit → Act → World → Prop
  | .normal, _, W' => RoundKeeps B R W W' ∧ I s W'
  | .ret, _, W' => RoundKeeps B R W W' ∧ Ix .ret s W'
  | .exit id, _, W' => RoundKeeps B R W W' ∧ Ix (.exit id) s W'
  | .goto t, _, W' => RoundKeeps B R W W' ∧ Ix (.goto t) s W'
  | .panic _, _, _ => False
  | .outgrown, _, _ => False
/-- The iterator's call, whatever loop it stands in. -/
theorem range_call {α : Type} {P : Program} {gf : Nat} {lb : Array Value} {encs : α → Array Value} {K R : Nat → Prop} {xs : List α} {w W1 : World} {ps : Array Tmp} {assign body : Code}
    (hseq : SeqOf P gf lb encs K R xs w) (hps : ∀ x, (encs x).size = ps.size) (hK : ∀ k, K k → k < w.heap.size) (hR : ∀ k, R k → k < w.heap.size)
    (I : List α → World → Prop) (Ix : Code → List α → World → Prop) (hI : ∀ s W W', Step w.heap.size K W W' → I s W → I s W') (hIx : ∀ c s W W', Step w.heap.size K W W' → Ix c s W → Ix c s W')
    (Ax : α → Act → World → Prop) (hAx : ∀ x a' W W', Step w.heap.size K W W' → Ax x a' W → Ax x a' W')
    (tmps : Array Value) (hassign : ∀ (l : Nat) (pre : List α) (x : α) (W : World) (Q : Act → World → Prop), I pre W → (∀ a' W', RoundKeeps w.heap.size R W W' → I pre W' → Ax x a' W' → Q a' W') →
      assign.wpIn (Fence.wide.inRound l) 0 P (Exit.then Q (fun _ _ _ => False)) { tmps := (ps.zip (encs x)).foldl (fun t (p, v) => t.setIfInBounds p v) tmps, defers := [] } W)
    (hbody : ∀ (l : Nat) (pre : List α) (x : α) (a' : Act) (W : World), w.heap.size ≤ l → (∃ r, W.heap[l]? = some (.loop r)) → I pre W → Ax x a' W → (pre ++ [x]) <+: xs → body.wpIn (Fence.wide.inRound l) 0 P (roundP w.heap.size R I Ix (pre ++ [x]) W) a' W)
    (L : Nat) (D : Option Nat) (df : Nat) (fn : FuncId) (rec : LoopState → Option Code → Loop) (hrec : rec = fun st pe => { state := st, pending := pe, fn, tmps, params := ps, assign, body, defers := df })
    (hL : w.heap.size ≤ L) (hD : ∀ d, D = some d → w.heap.size ≤ d ∧ d ≠ L) (he : Ext w W1) (h0 : I [] W1) (hl1 : W1.heap[L]? = some (.loop (rec .ready none))) (hd1 : ∀ d, D = some d → W1.heap[d]? = some (.deferred (some []))) :
    Calls P gf (#[.func (.yield L) #[] #[]] ++ lb) W1 fun e W' => (∃ v, e = .returned v) ∧ ((I xs W' ∧ W'.heap[L]? = some (.loop (rec .ready none)) ∧ ∀ d, D = some d → W'.heap[d]? = some (.deferred (some []))) ∨
      ∃ c pre, pre <+: xs ∧ Ix c pre W' ∧ W'.heap[L]? = some (.loop (rec .done (some c))) ∧ ∀ d, D = some d → W'.heap[d]? = some (.deferred (some []))) := by
  have hKL : ¬ K L := fun h => by have := hK L h; omega
  have hKD : ∀ d, D = some d → ¬ K d := fun d hd h => by have := hK d h; have := (hD d hd).1; omega
  have lay : ∀ {W W' : World} {o : Obj} {k : Nat}, StepIt K W W' → ¬ K k → W.heap[k]? = some o → W'.heap[k]? = some o := fun h hn hk => (h.same _ (lt_of_get hk) hn).trans hk
  refine (hseq L (fun s W => I s W ∧ W.heap[L]? = some (.loop (rec .ready none)) ∧ ∀ d, D = some d → W.heap[d]? = some (.deferred (some [])))
    (fun s W => ∃ c, Ix c s W ∧ W.heap[L]? = some (.loop (rec .done (some c))) ∧ ∀ d, D = some d → W.heap[d]? = some (.deferred (some []))) W1 he
    (fun s A B h hs => ⟨hI _ _ _ (h.step _) hs.1, lay h hKL hs.2.1, fun d hd => lay h (hKD d hd) (hs.2.2 d hd)⟩)
    (fun s A B h ⟨c, hs⟩ => ⟨c, hIx _ _ _ _ (h.step _) hs.1, lay h hKL hs.2.1, fun d hd => lay h (hKD d hd) (hs.2.2 d hd)⟩)
    ?_ ⟨h0, hl1, hd1⟩).mono ?_
  · rintro pre x W ⟨hi, hl, hd⟩ hpre
    have hy := run_yield (P := P) (args := encs x) hl (by rw [hrec]; exact hps x)
    rw [hrec] at hy
    refine ⟨fn, _, assign, body, hy, roundIn_of_wpIn (F := Fence.wide) trivial (hassign _ pre x W _ hi ?_)⟩
    intro a' Wa hk hia hax
    have hla := hk.1 _ _ hl hL rfl
    have hda := fun d hd' => hk.1 _ _ (hd d hd') (hD d hd').1 rfl
    refine ⟨_, run_beginRound hla (by rw [hrec]), ?_⟩
    have hl2 := World.putObj_heap_same (o := .loop { rec .ready none with state := .busy }) (lt_of_get hla)
    have put : ∀ (W : World) (o : Obj) (k : Nat), k ≠ L → (W.putObj L o).heap[k]? = W.heap[k]? := fun W o k hne => World.putObj_heap_other hne
    have hne : ∀ k, R k → k ≠ L := fun k h e => by have := hR k h; omega
    refine wpIn_mono (hbody _ pre x a' _ hL ⟨_, hl2⟩ (hI _ _ _ (Step.put _ hL hla rfl) hia) (hAx _ _ _ _ (Step.put _ hL hla rfl) hax) hpre) ?_
    have fin : ∀ (jump : Option Code) (W3 : World), RoundKeeps w.heap.size R (Wa.putObj L (.loop { rec .ready none with state := .busy })) W3 →
        (Instr.endRound L jump).run P W3 = .ok (.bool jump.isNone) (W3.putObj L (.loop (rec (if jump.isNone then .ready else .done) jump))) ∧
        (W3.putObj L (.loop (rec (if jump.isNone then .ready else .done) jump))).heap[L]? = some (.loop (rec (if jump.isNone then .ready else .done) jump)) ∧
        (∀ d, D = some d → (W3.putObj L (.loop (rec (if jump.isNone then .ready else .done) jump))).heap[d]? = some (.deferred (some []))) ∧
        Step w.heap.size K W3 (W3.putObj L (.loop (rec (if jump.isNone then .ready else .done) jump))) ∧
        ∀ k, R k → (W3.putObj L (.loop (rec (if jump.isNone then .ready else .done) jump))).heap[k]? = W.heap[k]? := fun jump W3 hk3 => by
      have hl3 := hk3.1 _ _ hl2 hL rfl
      have hr := run_endRound (P := P) jump hl3
      refine ⟨by rw [hrec] at hr ⊢; exact hr, World.putObj_heap_same (lt_of_get hl3), fun d hd' => ?_, Step.put _ hL hl3 rfl, fun k hkk => ?_⟩
      · rw [put _ _ _ (hD d hd').2]
        exact hk3.1 d _ ((put _ _ _ (hD d hd').2).trans (hda d hd')) (hD d hd').1 rfl
      · rw [put _ _ _ (hne k hkk), hk3.2 k hkk, put _ _ _ (hne k hkk), hk.2 k hkk]
    rintro e a3 W3 hp
    cases e with
    | normal =>
      obtain ⟨hk3, hi3⟩ := hp
      obtain ⟨hr, h1, h2, h3, h4⟩ := fin none W3 hk3
      exact ⟨_, _, hr, .inl ⟨rfl, ⟨hI _ _ _ h3 hi3, h1, h2⟩, h4⟩⟩
    | ret =>
      obtain ⟨hk3, hi3⟩ := hp
      obtain ⟨hr, h1, h2, h3, h4⟩ := fin (some .ret) W3 hk3
      exact ⟨_, _, hr, .inr ⟨rfl, .ret, hIx _ _ _ _ h3 hi3, h1, h2⟩⟩
    | exit id =>
      obtain ⟨hk3, hi3⟩ := hp
      obtain ⟨hr, h1, h2, h3, h4⟩ := fin (some (.exit id)) W3 hk3
      exact ⟨_, _, hr, .inr ⟨rfl, .exit id, hIx _ _ _ _ h3 hi3, h1, h2⟩⟩
    | goto t =>
      obtain ⟨hk3, hi3⟩ := hp
      obtain ⟨hr, h1, h2, h3, h4⟩ := fin (some (.goto t)) W3 hk3
      exact ⟨_, _, hr, .inr ⟨rfl, .goto t, hIx _ _ _ _ h3 hi3, h1, h2⟩⟩
    | panic ch => exact hp.elim
    | outgrown => exact hp.elim
  · rintro e W2 ⟨hv, (h | ⟨pre, hpre, c, h⟩)⟩
    · exact ⟨hv, .inl h⟩
    · exact ⟨hv, .inr ⟨c, pre, hpre, h⟩⟩
/-- The statement, outermost. -/
theorem wp_range {α : Type} {P : Program} {g : Operand} {Q : Exit → Act → World → Prop} {a : Act} {gf : Nat} {lb : Array Value} {encs : α → Array Value} {K R : Nat → Prop} {xs : List α} {w : World} {ps : Array Tmp} {assign body : Code}
    (hg : a.eval g = .func (.func gf) #[] lb) (eg : ∀ args w, (callFunc gf args).run P w = .ok (.enter gf args) w)
    (hseq : SeqOf P gf lb encs K R xs w) (hps : ∀ x, (encs x).size = ps.size) (hK : ∀ k, K k → k < w.heap.size) (hR : ∀ k, R k → k < w.heap.size)
    (I : List α → World → Prop) (Ix : Code → List α → World → Prop) (hI : ∀ s W W', Step w.heap.size K W W' → I s W → I s W') (hIx : ∀ c s W W', Step w.heap.size K W W' → Ix c s W → Ix c s W')
    (h0 : I [] w) (Ax : α → Act → World → Prop) (hAx : ∀ x a' W W', Step w.heap.size K W W' → Ax x a' W → Ax x a' W')
    (hassign : ∀ (l : Nat) (pre : List α) (x : α) (W : World) (Q : Act → World → Prop), I pre W → (∀ a' W', RoundKeeps w.heap.size R W W' → I pre W' → Ax x a' W' → Q a' W') →
      assign.wpIn (Fence.wide.inRound l) 0 P (Exit.then Q (fun _ _ _ => False)) { tmps := (ps.zip (encs x)).foldl (fun t (p, v) => t.setIfInBounds p v) a.tmps, defers := [] } W)
    (hbody : ∀ (l : Nat) (pre : List α) (x : α) (a' : Act) (W : World), w.heap.size ≤ l → (∃ r, W.heap[l]? = some (.loop r)) → I pre W → Ax x a' W → (pre ++ [x]) <+: xs → body.wpIn (Fence.wide.inRound l) 0 P (roundP w.heap.size R I Ix (pre ++ [x]) W) a' W)
    (hdone : ∀ (D : Nat) (W : World), w.heap.size ≤ D → I xs W → W.heap[D]? = some (.deferred (some [])) → Q .normal { a with defers := { target := .collected D, args := #[] } :: a.defers } W)
    (hstop : ∀ (D : Nat) (c : Code) (pre : List α) (W : World), w.heap.size ≤ D → pre <+: xs → Ix c pre W → W.heap[D]? = some (.deferred (some [])) → c.wp P Q { a with defers := { target := .collected D, args := #[] } :: a.defers } W) :
    (Code.rangeFunc g ps assign body).wp P Q a w := by
  refine (wpIn_wide (n := 0)).1 (wpIn_rangeFunc ?_)
  intro fn hfn
  obtain ⟨rec, hrec⟩ : ∃ rec : LoopState → Option Code → Loop, rec = fun st pe => { state := st, pending := pe, fn, tmps := a.tmps, params := ps, assign, body, defers := w.heap.size } := ⟨_, rfl⟩
  have hx1 := ((Ext.refl w).alloc (.deferred (some []))).alloc (.loop (rec .ready none))
  have hL1 : ((w.alloc (.deferred (some []))).alloc (.loop (rec .ready none))).heap[w.heap.size + 1]? = some (.loop (rec .ready none)) := by
    have := World.alloc_heap_new (w.alloc (.deferred (some []))) (.loop (rec .ready none)); rwa [World.size_alloc] at this
  have hK1 : ((w.alloc (.deferred (some []))).alloc (.loop (rec .ready none))).heap[w.heap.size]? = some (.deferred (some [])) :=
    (Below.heap_alloc _ _ _ (by simp)).trans (World.alloc_heap_new w _)
  refine ⟨w.heap.size + 1, [{ target := .collected w.heap.size, args := #[] }], (w.alloc (.deferred (some []))).alloc (.loop (rec .ready none)), { target := .fn (.func gf) lb, args := #[.func (.yield (w.heap.size + 1)) #[] #[]] }, (w.alloc (.deferred (some []))).alloc (.loop (rec .ready none)), gf,
    #[.func (.yield (w.heap.size + 1)) #[] #[]] ++ lb, (w.alloc (.deferred (some []))).alloc (.loop (rec .ready none)), by rw [hrec]; exact run_enterLoop_outer _ _ _ _ _, ?_, ?_, ?_, ?_, ?_⟩
  · simp only [resolve, hg]
    simp [go_sem]
  · exact fun _ _ => trivial
  · simp [invoke, go_sem, eg]
  · intro h; cases h
  refine (callsIn_wide (n := 0 - 1)).2 ((range_call hseq hps hK hR I Ix hI hIx Ax hAx a.tmps hassign hbody (w.heap.size + 1) (some w.heap.size) w.heap.size fn rec hrec (by omega) (fun d hd => by cases hd; exact ⟨Nat.le_refl _, by omega⟩) hx1 (hI _ _ _ (Step.of_ext hx1) h0) hL1 (fun d hd => by cases hd; exact hK1)).mono ?_)
  rintro e W2 ⟨⟨v, rfl⟩, (⟨hi, hl, hd⟩ | ⟨c, pre, hpre, hi, hl, hd⟩)⟩
  · refine ⟨none, _, by have := run_endLoop (P := P) hl (by rw [hrec]; simp); rw [hrec] at this; exact this, ?_⟩
    exact hdone _ _ (Nat.le_refl _) (hI _ _ _ (Step.put _ (by omega) hl rfl) hi) ((World.putObj_heap_other (by omega)).trans (hd _ rfl))
  · refine ⟨some c, _, by have := run_endLoop (P := P) hl (by rw [hrec]; simp); rw [hrec] at this; exact this, ?_⟩
    exact wpIn_wide.2 (hstop _ c pre _ (Nat.le_refl _) hpre (hIx _ _ _ _ (Step.put _ (by omega) hl rfl) hi) ((World.putObj_heap_other (by omega)).trans (hd _ rfl)))
/-- The statement, within a round. -/
theorem wp_rangeN {α : Type} {P : Program} {g : Operand} {Q : Exit → Act → World → Prop} {a : Act} {gf : Nat} {lb : Array Value} {encs : α → Array Value} {K R : Nat → Prop} {xs : List α} {w : World} {ps : Array Tmp} {assign body : Code}
    {l₀ : Nat} (hl₀ : ∃ r, w.heap[l₀]? = some (.loop r)) (hg : a.eval g = .func (.func gf) #[] lb) (eg : ∀ args w, (callFunc gf args).run P w = .ok (.enter gf args) w)
    (hseq : SeqOf P gf lb encs K R xs w) (hps : ∀ x, (encs x).size = ps.size) (hK : ∀ k, K k → k < w.heap.size) (hR : ∀ k, R k → k < w.heap.size)
    (I : List α → World → Prop) (Ix : Code → List α → World → Prop) (hI : ∀ s W W', Step w.heap.size K W W' → I s W → I s W') (hIx : ∀ c s W W', Step w.heap.size K W W' → Ix c s W → Ix c s W')
    (h0 : I [] w) (Ax : α → Act → World → Prop) (hAx : ∀ x a' W W', Step w.heap.size K W W' → Ax x a' W → Ax x a' W')
    (hassign : ∀ (l : Nat) (pre : List α) (x : α) (W : World) (Q : Act → World → Prop), I pre W → (∀ a' W', RoundKeeps w.heap.size R W W' → I pre W' → Ax x a' W' → Q a' W') →
      assign.wpIn (Fence.wide.inRound l) 0 P (Exit.then Q (fun _ _ _ => False)) { tmps := (ps.zip (encs x)).foldl (fun t (p, v) => t.setIfInBounds p v) a.tmps, defers := [] } W)
    (hbody : ∀ (l : Nat) (pre : List α) (x : α) (a' : Act) (W : World), w.heap.size ≤ l → (∃ r, W.heap[l]? = some (.loop r)) → I pre W → Ax x a' W → (pre ++ [x]) <+: xs → body.wpIn (Fence.wide.inRound l) 0 P (roundP w.heap.size R I Ix (pre ++ [x]) W) a' W)
    (hdone : ∀ (W : World), I xs W → Q .normal a W)
    (hstop : ∀ (c : Code) (pre : List α) (W : World), pre <+: xs → Ix c pre W → c.wpIn (Fence.wide.inRound l₀) 0 P Q a W) :
    (Code.rangeFunc g ps assign body).wpIn (Fence.wide.inRound l₀) 0 P Q a w := by
  obtain ⟨r₀, hr₀⟩ := hl₀
  refine wpIn_rangeFunc ?_
  intro fn hfn
  obtain ⟨rec, hrec⟩ : ∃ rec : LoopState → Option Code → Loop, rec = fun st pe => { state := st, pending := pe, fn, tmps := a.tmps, params := ps, assign, body, defers := r₀.defers } := ⟨_, rfl⟩
  have hx1 := (Ext.refl w).alloc (.loop (rec .ready none))
  have hL1 : (w.alloc (.loop (rec .ready none))).heap[w.heap.size]? = some (.loop (rec .ready none)) := World.alloc_heap_new w _
  refine ⟨w.heap.size, [], w.alloc (.loop (rec .ready none)), { target := .fn (.func gf) lb, args := #[.func (.yield w.heap.size) #[] #[]] }, w.alloc (.loop (rec .ready none)), gf,
    #[.func (.yield w.heap.size) #[] #[]] ++ lb, w.alloc (.loop (rec .ready none)), by rw [hrec]; exact run_enterLoop_inner hr₀ _ _ _ _ _, ?_, ?_, ?_, ?_, ?_⟩
  · simp only [resolve, hg]
    simp [go_sem]
  · exact fun _ _ => trivial
  · simp [invoke, go_sem, eg]
  · intro h; cases h
  refine CallsIn.inRound l₀ ((callsIn_wide (n := 0 - 1)).2 ((range_call hseq hps hK hR I Ix hI hIx Ax hAx a.tmps hassign hbody w.heap.size none r₀.defers fn rec hrec (Nat.le_refl _) (fun d hd => by cases hd) hx1 (hI _ _ _ (Step.of_ext hx1) h0) hL1 (fun d hd => by cases hd)).mono ?_))
  rintro e W2 ⟨⟨v, rfl⟩, (⟨hi, hl, hd⟩ | ⟨c, pre, hpre, hi, hl, hd⟩)⟩
  · refine ⟨none, _, by have := run_endLoop (P := P) hl (by rw [hrec]; simp); rw [hrec] at this; exact this, ?_⟩
    exact hdone _ (hI _ _ _ (Step.put _ (Nat.le_refl _) hl rfl) hi)
  · refine ⟨some c, _, by have := run_endLoop (P := P) hl (by rw [hrec]; simp); rw [hrec] at this; exact this, ?_⟩
    exact hstop c pre _ hpre (hIx _ _ _ _ (Step.put _ (Nat.le_refl _) hl rfl) hi)
end Go.Proofs.YtbgiciijiopklaaDoor
