/- A law on statements whose order of evaluation is open, where one operation comes last: it may store or call; the others only make new memory. -/
import Derived.Test.YtdpjkocpdomkbaaGreatDoorDagInv
namespace Go.Proofs.YtdpjkocpdomkbaaGreatDoor
open Go.RowKit
namespace Dag
variable {P : Program} {ops : Array Oper} {Q : Exit → Act → World → Prop}
/-- The region's form but for its last operation s. -/
def okL (ops : Array Oper) (size s : Nat) : Bool :=
  (List.range s).all (fun i => (match dstOf ops i with | some d => decide (d < size) | none => false) &&
    (List.range s).all (fun j => (i == j || dstOf ops i != dstOf ops j) && (match dstOf ops j with | some d => !(looks ops i).contains d || (waits ops i).contains j || (waits ops j).contains i | none => true)))
/-- Whatever comes before s is waited for. -/
def lastL (ops : Array Oper) (s : Nat) : Bool := (List.range s).all fun i => (List.range (s + 1)).any fun j => decide (i < j) && (waits ops j).contains i
theorem okL_spec {size s : Nat} (h : okL ops size s = true) (i : Nat) (hi : i < s) : (∃ d, dstOf ops i = some d ∧ d < size) ∧
    ∀ j, j < s → (i = j ∨ dstOf ops i ≠ dstOf ops j) ∧ (∀ d, dstOf ops j = some d → d ∈ looks ops i → j ∈ waits ops i ∨ i ∈ waits ops j) := by
  unfold okL at h
  rw [List.all_eq_true] at h
  have h1 := h i (List.mem_range.2 hi)
  simp only [Bool.and_eq_true] at h1
  obtain ⟨h3, h4⟩ := h1
  refine ⟨?_, fun j hj => ?_⟩
  · cases hd : dstOf ops i with
    | none => rw [hd] at h3; cases h3
    | some d => rw [hd] at h3; exact ⟨d, rfl, by simpa using h3⟩
  · have h5 := List.all_eq_true.1 h4 j (List.mem_range.2 hj)
    simp only [Bool.and_eq_true, Bool.or_eq_true, beq_iff_eq, bne_iff_ne] at h5
    refine ⟨h5.1, fun d hd hl => ?_⟩
    have h6 := h5.2
    rw [hd] at h6
    simp only [Bool.or_eq_true, Bool.not_eq_true', List.contains_eq_mem, decide_eq_true_eq, decide_eq_false_iff_not] at h6
    rcases h6 with (h6 | h6) | h6
    · exact absurd hl h6
    · exact .inl h6
    · exact .inr h6
structure InvL (ops : Array Oper) (F : Nat → Value → World → Prop) (a0 : Act) (w0 : World) (s : Nat) (L : Nat → Bool) (a : Act) (w : World) : Prop where
  not : L s = false
  ext : Ext w0 w
  defers : a.defers = a0.defers
  size : a.tmps.size = a0.tmps.size
  old : ∀ t, (∀ j, j < s → L j = true → dstOf ops j ≠ some t) → a.tmps[t]? = a0.tmps[t]?
  new : ∀ j d, j < s → L j = true → dstOf ops j = some d → ∃ v, a.tmps[d]? = some v ∧ F j v w
  down : ∀ j, L j = true → ∀ k ∈ waits ops j, L k = true
theorem invL_step {F : Nat → Value → World → Prop} {a0 a : Act} {w0 w w' : World} {s : Nat} {L : Nat → Bool} (stab : ∀ i v w w', F i v w → Ext w w' → F i v w') (hok : okL ops a0.tmps.size s = true) {i : Nat} (his : i < s) (hw : ∀ k ∈ waits ops i, L k = true) (hn : L i = false)
    (h : InvL ops F a0 w0 s L a w) {v : Value} (hF : F i v w') (he : Ext w w') : InvL ops F a0 w0 s (fun j => j == i || L j) (a.put (dstOf ops i) v) w' := by
  obtain ⟨⟨d, hd, hds⟩, hap⟩ := okL_spec hok i his
  have hj' : ∀ j, (j == i || L j) = true → j = i ∨ L j = true := fun j hj => by
    simp only [Bool.or_eq_true, beq_iff_eq] at hj; exact hj
  refine ⟨?_, h.ext.trans he, by rw [hd]; exact h.defers, by rw [hd]; simp [Act.put, h.size], fun t ht => ?_, fun j d' hjs hj hd' => ?_, fun j hj k hk => ?_⟩
  · have := h.not
    simp only [Bool.or_eq_false_iff, beq_eq_false_iff_ne]
    exact ⟨by omega, this⟩
  · have hne : d ≠ t := fun e => ht i his (by simp) (by rw [hd, e])
    rw [hd]
    simp only [Act.put, Array.getElem?_setIfInBounds_ne hne]
    exact h.old t fun j hjs hj => ht j hjs (by simp [hj])
  · rcases hj' j hj with rfl | hj
    · rw [hd] at hd'
      cases hd'
      rw [hd]
      exact ⟨v, by simp [Act.put, h.size, hds], hF⟩
    · obtain ⟨v', hv', hF'⟩ := h.new j d' hjs hj hd'
      have hne : d ≠ d' := fun e => by
        rcases (hap j hjs).1 with rfl | hn2
        · rw [hn] at hj; cases hj
        · exact hn2 (by rw [hd, hd', e])
      rw [hd]
      exact ⟨v', by simp only [Act.put, Array.getElem?_setIfInBounds_ne hne]; exact hv', stab j v' w w' hF' he⟩
  · rcases hj' j hj with rfl | hj
    · simp [hw k hk]
    · simp [h.down j hj k hk]
theorem invL_sees {F : Nat → Value → World → Prop} {a0 a : Act} {w0 w : World} {s : Nat} {L : Nat → Bool} (hok : okL ops a0.tmps.size s = true) (hlt : ∀ i, i < ops.size → ∀ k ∈ waits ops i, k < i) (hss : s < ops.size) {i : Nat} (his : i < s) (hw : ∀ k ∈ waits ops i, L k = true) (hn : L i = false) (h : InvL ops F a0 w0 s L a w) : Sees ops F a0 i a w := by
  intro t ht
  obtain ⟨_, hap⟩ := okL_spec hok i his
  cases hwr : writer ops i t with
  | some j =>
    simp only
    have h1 := List.find?_some hwr
    have h2 := List.mem_of_find?_eq_some hwr
    exact h.new j t (Nat.lt_trans (hlt i (by omega) j h2) his) (hw j h2) (by simpa using h1)
  | none =>
    simp only
    refine h.old t fun j hjs hj hd => ?_
    rcases (hap j hjs).2 t hd ht with g | g
    · have := List.find?_eq_none.1 hwr j g
      simp [hd] at this
    · have := h.down j hj i g
      rw [hn] at this; cases this
theorem invL_puts {F : Nat → Value → World → Prop} {a0 a : Act} {w0 w : World} {s : Nat} {L : Nat → Bool} (hok : okL ops a0.tmps.size s = true) (h : InvL ops F a0 w0 s L a w) (hall : ∀ i, i < s → L i = true) :
    ∃ vs : Nat → Value, a = puts ops vs (List.range s) a0 ∧ ∀ i, i < s → F i (vs i) w := by
  refine ⟨fun i => match dstOf ops i with | some d => a.tmps.getD d undef | none => undef, ?_, fun i hi => ?_⟩
  · have ht : a.tmps = (puts ops (fun i => match dstOf ops i with | some d => a.tmps.getD d undef | none => undef) (List.range s) a0).tmps := by
      apply Array.ext_getElem?
      intro t
      by_cases hx : ∃ j, j < s ∧ dstOf ops j = some t
      · obtain ⟨j, hj, hd⟩ := hx
        obtain ⟨v, hv, _⟩ := h.new j t hj (hall j hj) hd
        obtain ⟨⟨d, hd', hds⟩, hap⟩ := okL_spec hok j hj
        rw [hd] at hd'; cases hd'
        rw [puts_new _ hd _ _ (List.mem_range.2 hj) hds (fun i hi => by
          rcases (hap i (List.mem_range.1 hi)).1 with g | g
          · exact .inl g.symm
          · exact .inr (fun e => g (by rw [hd, e])))]
        simp [hd, hv, Array.getD_eq_getD_getElem?]
      · rw [puts_old _ t _ _ (fun j hj e => hx ⟨j, List.mem_range.1 hj, e⟩)]
        exact h.old t fun j hjs _ e => hx ⟨j, hjs, e⟩
    have hd := h.defers
    have hp := puts_defers (ops := ops) (fun i => match dstOf ops i with | some d => a.tmps.getD d undef | none => undef) (List.range s) a0
    cases a with
    | mk tm df =>
      simp only at ht hd
      generalize hq : puts ops (fun i => match dstOf ops i with | some d => tm.getD d undef | none => undef) (List.range s) a0 = q at *
      cases q with
      | mk tm' df' => simp only at ht hp; rw [ht, hd, hp]
  · obtain ⟨⟨d, hd, hds⟩, _⟩ := okL_spec hok i hi
    obtain ⟨v, hv, hF⟩ := h.new i d hi (hall i hi) hd
    simp only [hd, Array.getD_eq_getD_getElem?, hv, Option.getD_some]
    exact hF
theorem lastL_all {s : Nat} (h : lastL ops s = true) {L : Nat → Bool} (hs : ∀ k ∈ waits ops s, L k = true) (down : ∀ j, L j = true → ∀ k ∈ waits ops j, L k = true) : ∀ i, i < s → L i = true := by
  unfold lastL at h
  rw [List.all_eq_true] at h
  have key : ∀ m i, s - i ≤ m → i < s → L i = true := by
    intro m
    induction m with
    | zero => intro i h1 h2; omega
    | succ m ih =>
      intro i h1 h2
      have h3 := h i (List.mem_range.2 h2)
      obtain ⟨j, hj, h4⟩ := List.any_eq_true.1 h3
      have hj := List.mem_range.1 hj
      simp only [Bool.and_eq_true, decide_eq_true_eq, List.contains_eq_mem] at h4
      by_cases e : j = s
      · subst e; exact hs i h4.2
      · exact down j (ih j (by omega) (by omega)) i h4.2
  exact fun i hi => key _ i (Nat.le_refl _) hi
def propL (fs : List (Value → World → Prop)) (i : Nat) (v : Value) (w : World) : Prop := match fs[i]? with | some f => f v w | none => True
theorem propL_stab {fs : List (Value → World → Prop)} (hst : ∀ f ∈ fs, ∀ v w w', f v w → Ext w w' → f v w') (i : Nat) (v : Value) (w w' : World) (h : propL fs i v w) (e : Ext w w') : propL fs i v w' := by
  unfold propL at h ⊢
  cases hf : fs[i]? with
  | none => trivial
  | some f => rw [hf] at h; exact hst f (List.mem_of_getElem? hf) v w w' h e
/-- THE LAW: operation s is the last. -/
theorem wp_region_last {id : Nat} {a0 : Act} {w : World} (fs : List (Value → World → Prop)) (ds : List (Option Nat)) (s : Nat) (hst : ∀ f ∈ fs, ∀ v w w', f v w → Ext w w' → f v w') (hm : P.follows .mixedOrders = true) (hlt : ((List.range ops.size).all fun i => (waits ops i).all (· < i)) = true)
    (hss : ops.size = s + 1) (hok : okL ops a0.tmps.size s = true) (hlast : lastL ops s = true) (hds : (List.range' 0 s).map (dstOf ops) = ds)
    (steps : Steps P ops Q (propL fs) a0 w.drew (List.range s))
    (last : ∀ (vs : Nat → Value) (w' : World) (K : Act → World → Prop), Ext w.drew w' → (∀ i, i < s → propL fs i (vs i) w') → (∀ a w, Q .normal a w → K a w) → wpOp P ops Q s K (putL vs 0 ds a0) w') : (Code.region id ops true).wp P Q a0 w := by
  have hlt' : ∀ i, i < ops.size → ∀ k ∈ waits ops i, k < i := fun i hi k hk => by
    have h1 := List.all_eq_true.1 hlt i (List.mem_range.2 hi)
    have := List.all_eq_true.1 h1 k hk
    simpa using this
  have stab := propL_stab hst
  refine wp_region_inv (fun L a w' => InvL ops (propL fs) a0 w.drew s L a w' ∨ (Q .normal a w' ∧ ∀ i, i < ops.size → L i = true)) hm hlt ?_ ?_ ?_
  · exact .inl ⟨rfl, Ext.refl _, rfl, rfl, fun _ _ => rfl, fun j d _ hj => (Bool.false_ne_true hj).elim, fun j hj => (Bool.false_ne_true hj).elim⟩
  · intro i hi L a w' K hn hw h hK
    rcases h with h | ⟨_, h⟩
    · by_cases e : i = s
      · subst e
        have hall := lastL_all hlast hw h.down
        obtain ⟨vs, rfl, hF⟩ := invL_puts hok h hall
        rw [List.range_eq_range', puts_range, hds]
        refine last vs w' K h.ext hF fun a w hq => hK _ _ (.inr ⟨hq, fun j hj => ?_⟩)
        by_cases e : j = i
        · simp [e]
        · simp [hall j (by omega)]
      · have his : i < s := by omega
        exact steps.get i (List.mem_range.2 his) a w' _ h.ext (invL_sees hok hlt' (by omega) his hw hn h) fun v w2 hF he => hK _ _ (.inl (invL_step stab hok his hw hn h hF he))
    · rw [h i hi] at hn; cases hn
  · intro L a w' h hall
    rcases h with h | ⟨h, _⟩
    · have := h.not
      rw [hall s (by omega)] at this; cases this
    · exact h
end Dag
end Go.Proofs.YtdpjkocpdomkbaaGreatDoor
