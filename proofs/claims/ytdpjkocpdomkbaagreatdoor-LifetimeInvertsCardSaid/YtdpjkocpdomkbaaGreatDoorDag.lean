/- A law on statements whose order of evaluation is open and whose operations only make new memory: each operation is looked at once, from whatever state its forerunners leave. No condition. -/
import Derived.Test.YtdpjkocpdomkbaaGreatDoorLib
import Derived.Orders
namespace Go.Proofs.YtdpjkocpdomkbaaGreatDoor
open Go.RowKit
namespace Dag
variable {P : Program} {ops : Array Oper} {Q : Exit → Act → World → Prop}

/-- The operations that operation i waits for. -/
def waits (ops : Array Oper) (i : Nat) : List Nat := match ops[i]? with | some o => (o.after.toList.filter (Region.binds .any)).map (·.on) | none => []
def dstOf (ops : Array Oper) (i : Nat) : Option Nat := (ops[i]?).bind (·.dst)
/-- Which forerunner of operation i writes slot t. -/
def writer (ops : Array Oper) (i t : Nat) : Option Nat := (waits ops i).find? fun j => dstOf ops j == some t
def looks (ops : Array Oper) (i : Nat) : List Nat := match ops[i]? with | some o => o.looksAt ops | none => []
/-- The region's form: each operation waits for earlier ones alone; no slot is written twice, each lies in the frame; whoever reads a slot that is written in the region stands in an order to its writer. -/
def ok (ops : Array Oper) (size : Nat) : Bool :=
  (List.range ops.size).all (fun i => (waits ops i).all (· < i) && (match dstOf ops i with | some d => decide (d < size) | none => false) &&
    (List.range ops.size).all (fun j => (i == j || dstOf ops i != dstOf ops j) && (match dstOf ops j with | some d => !(looks ops i).contains d || (waits ops i).contains j || (waits ops j).contains i | none => true)))

/-- What operation i sees: of the slots that it reads those that a forerunner has written bear that one's fact, the others are as they were when the region began. -/
def Sees (ops : Array Oper) (F : Nat → Value → World → Prop) (a0 : Act) (i : Nat) (a : Act) (w : World) : Prop :=
  ∀ t ∈ looks ops i, match writer ops i t with
    | some j => ∃ v, a.tmps[t]? = some v ∧ F j v w
    | none => a.tmps[t]? = a0.tmps[t]?

structure Inv (ops : Array Oper) (F : Nat → Value → World → Prop) (a0 : Act) (w0 : World) (listed : Array Bool) (a : Act) (w : World) : Prop where
  sz : listed.size = ops.size
  ext : Ext w0 w
  defers : a.defers = a0.defers
  size : a.tmps.size = a0.tmps.size
  old : ∀ t, (∀ j, listed.getD j false = true → dstOf ops j ≠ some t) → a.tmps[t]? = a0.tmps[t]?
  new : ∀ j d, listed.getD j false = true → dstOf ops j = some d → ∃ v, a.tmps[d]? = some v ∧ F j v w
  down : ∀ j, listed.getD j false = true → ∀ k ∈ waits ops j, listed.getD k false = true

/-- What is to be shown of operation i. -/
def Step (P : Program) (ops : Array Oper) (Q : Exit → Act → World → Prop) (F : Nat → Value → World → Prop) (a0 : Act) (w0 : World) (i : Nat) : Prop :=
  ∀ (a : Act) (w : World) (K : Act → World → Prop), Ext w0 w → Sees ops F a0 i a w → (∀ v w', F i v w' → Ext w w' → K (a.put (dstOf ops i) v) w') → wpOp P ops Q i K a w

theorem ok_spec {size : Nat} (h : ok ops size = true) (i : Nat) (hi : i < ops.size) : (∀ k ∈ waits ops i, k < i) ∧ (∃ d, dstOf ops i = some d ∧ d < size) ∧
    ∀ j, j < ops.size → (i = j ∨ dstOf ops i ≠ dstOf ops j) ∧ (∀ d, dstOf ops j = some d → d ∈ looks ops i → j ∈ waits ops i ∨ i ∈ waits ops j) := by
  unfold ok at h
  rw [List.all_eq_true] at h
  have h1 := h i (List.mem_range.2 hi)
  simp only [Bool.and_eq_true] at h1
  obtain ⟨⟨h2, h3⟩, h4⟩ := h1
  refine ⟨fun k hk => by have := List.all_eq_true.1 h2 k hk; simpa using this, ?_, fun j hj => ?_⟩
  · cases hd : dstOf ops i with
    | none => rw [hd] at h3; cases h3
    | some d => rw [hd] at h3; exact ⟨d, rfl, by simpa using h3⟩
  · have h5 := List.all_eq_true.1 h4 j (List.mem_range.2 hj)
    simp only [Bool.and_eq_true, Bool.or_eq_true, beq_iff_eq, bne_iff_ne] at h5
    refine ⟨h5.1, fun d hd hl => ?_⟩
    have h6 := h5.2
    rw [hd] at h6
    simp only [Bool.or_eq_true, Bool.not_eq_true', List.contains_eq_mem, decide_eq_true_eq, decide_eq_false_iff_not] at h6
    rcases h6 with (h6 | h6) | h6
    · exact absurd hl h6
    · exact .inl h6
    · exact .inr h6

theorem waits_ready {listed : Array Bool} {i : Nat} (h : i ∈ Region.ready .any ops listed) : listed.getD i true = false ∧ i < ops.size ∧ ∀ k ∈ waits ops i, listed.getD k false = true := by
  obtain ⟨h1, o, ho, h2⟩ := mem_ready.1 h
  refine ⟨h1, ?_, fun k hk => ?_⟩
  · rcases Nat.lt_or_ge i ops.size with h | h
    · exact h
    · simp [h] at ho
  · unfold waits at hk
    rw [ho] at hk
    simp only [List.mem_map, List.mem_filter, Array.mem_toList_iff] at hk
    obtain ⟨e, ⟨he, hb⟩, rfl⟩ := hk
    exact h2 e he hb

theorem getD_set {listed : Array Bool} {i j : Nat} (hi : i < listed.size) : (listed.setIfInBounds i true).getD j false = true ↔ j = i ∨ listed.getD j false = true := by
  simp only [Array.getD_eq_getD_getElem?, Array.getElem?_setIfInBounds]
  by_cases h : i = j
  · subst h; simp [hi]
  · simp [h, Ne.symm h]

theorem inv_step {F : Nat → Value → World → Prop} {a0 a : Act} {w0 w w' : World} {listed : Array Bool} (stab : ∀ i v w w', F i v w → Ext w w' → F i v w') (hok : ok ops a0.tmps.size = true) {i : Nat} (hr : i ∈ Region.ready .any ops listed)
    (h : Inv ops F a0 w0 listed a w) {v : Value} (hF : F i v w') (he : Ext w w') : Inv ops F a0 w0 (listed.setIfInBounds i true) (a.put (dstOf ops i) v) w' := by
  obtain ⟨hu, hi, hw⟩ := waits_ready hr
  obtain ⟨_, ⟨d, hd, hds⟩, hap⟩ := ok_spec hok i hi
  have hil : i < listed.size := by rw [h.sz]; exact hi
  refine ⟨by simp [h.sz], h.ext.trans he, by rw [hd]; exact h.defers, by rw [hd]; simp [Act.put, h.size], fun t ht => ?_, fun j d' hj hd' => ?_, fun j hj k hk => ?_⟩
  · have hne : d ≠ t := fun e => ht i ((getD_set hil).2 (.inl rfl)) (by rw [hd, e])
    rw [hd]
    simp only [Act.put, Array.getElem?_setIfInBounds_ne hne]
    exact h.old t fun j hj => ht j ((getD_set hil).2 (.inr hj))
  · rcases (getD_set hil).1 hj with rfl | hj
    · rw [hd] at hd'
      cases hd'
      rw [hd]
      exact ⟨v, by simp [Act.put, h.size, hds], hF⟩
    · obtain ⟨v', hv', hF'⟩ := h.new j d' hj hd'
      have hjs : j < ops.size := by
        rcases Nat.lt_or_ge j ops.size with g | g
        · exact g
        · simp [dstOf, g] at hd'
      have hne : d ≠ d' := fun e => by
        rcases (hap j hjs).1 with rfl | hn
        · rw [Array.getD_eq_getD_getElem?, Array.getElem?_eq_getElem hil] at hu hj
          simp only [Option.getD_some] at hu hj
          rw [hu] at hj; cases hj
        · exact hn (by rw [hd, hd', e])
      rw [hd]
      exact ⟨v', by simp only [Act.put, Array.getElem?_setIfInBounds_ne hne]; exact hv', stab j v' w w' hF' he⟩
  · rcases (getD_set hil).1 hj with rfl | hj
    · exact (getD_set hil).2 (.inr (hw k hk))
    · exact (getD_set hil).2 (.inr (h.down j hj k hk))

theorem inv_sees {F : Nat → Value → World → Prop} {a0 a : Act} {w0 w : World} {listed : Array Bool} (hok : ok ops a0.tmps.size = true) {i : Nat} (hr : i ∈ Region.ready .any ops listed) (h : Inv ops F a0 w0 listed a w) : Sees ops F a0 i a w := by
  intro t ht
  obtain ⟨hu, hi, hw⟩ := waits_ready hr
  obtain ⟨_, _, hap⟩ := ok_spec hok i hi
  cases hwr : writer ops i t with
  | some j =>
    simp only
    have h1 := List.find?_some hwr
    have h2 := List.mem_of_find?_eq_some hwr
    exact h.new j t (hw j h2) (by simpa using h1)
  | none =>
    simp only
    refine h.old t fun j hj hd => ?_
    have hjs : j < ops.size := by
      rcases Nat.lt_or_ge j ops.size with g | g
      · exact g
      · simp [dstOf, g] at hd
    rcases (hap j hjs).2 t hd ht with g | g
    · have := List.find?_eq_none.1 hwr j g
      simp [hd] at this
    · have := h.down j hj i g
      have hil : i < listed.size := by rw [h.sz]; exact hi
      rw [Array.getD_eq_getD_getElem?, Array.getElem?_eq_getElem hil] at hu this
      simp only [Option.getD_some] at hu this
      rw [hu] at this; cases this

theorem all_of_none {listed : Array Bool} (hok : ∀ i, i < ops.size → ∀ k ∈ waits ops i, k < i) (hs : listed.size = ops.size) (h : Region.ready .any ops listed = []) : ∀ i, i < ops.size → listed.getD i false = true := by
  intro i
  induction i using Nat.strongRecOn with
  | _ i ih =>
    intro hi
    rcases Bool.eq_false_or_eq_true (listed.getD i false) with g | g
    · exact g
    · exfalso
      have : i ∈ Region.ready .any ops listed := by
        refine mem_ready.2 ⟨?_, ops[i], by simp [hi], fun e he hb => ?_⟩
        · have hil : i < listed.size := by omega
          rw [Array.getD_eq_getD_getElem?, Array.getElem?_eq_getElem hil] at g ⊢
          simpa using g
        · have hk : e.on ∈ waits ops i := by
            unfold waits
            simp only [Array.getElem?_eq_getElem hi, List.mem_map, List.mem_filter, Array.mem_toList_iff]
            exact ⟨e, ⟨he, hb⟩, rfl⟩
          exact ih e.on (hok i hi _ hk) (by have := hok i hi _ hk; omega)
      rw [h] at this; cases this

theorem wpAny_of_dag {F : Nat → Value → World → Prop} {a0 : Act} {w0 : World} (stab : ∀ i v w w', F i v w → Ext w w' → F i v w') (hok : ok ops a0.tmps.size = true)
    (steps : ∀ i, i < ops.size → Step P ops Q F a0 w0 i) (fin : ∀ listed a w, Inv ops F a0 w0 listed a w → (∀ i, i < ops.size → listed.getD i false = true) → Q .normal a w) :
    ∀ fuel listed a w, Inv ops F a0 w0 listed a w → ((List.range ops.size).filter fun i => !listed.getD i false).length ≤ fuel → wpAny P .any ops Q fuel listed a w := by
  have hlt : ∀ i, i < ops.size → ∀ k ∈ waits ops i, k < i := fun i hi => (ok_spec hok i hi).1
  intro fuel
  induction fuel with
  | zero =>
    intro listed a w h hf
    have hnil : ((List.range ops.size).filter fun i => !listed.getD i false) = [] := List.length_eq_zero_iff.1 (by omega)
    have hall : ∀ i, i < ops.size → listed.getD i false = true := fun i hi => by
      have := List.filter_eq_nil_iff.1 hnil i (List.mem_range.2 hi)
      simpa using this
    refine ⟨?_, fin listed a w h hall⟩
    cases hr : Region.ready .any ops listed with
    | nil => rfl
    | cons x xs =>
      exfalso
      have hx : x ∈ Region.ready .any ops listed := by rw [hr]; simp
      obtain ⟨hu, hxs, _⟩ := waits_ready hx
      have hil : x < listed.size := by rw [h.sz]; exact hxs
      have := hall x hxs
      rw [Array.getD_eq_getD_getElem?, Array.getElem?_eq_getElem hil] at hu this
      simp only [Option.getD_some] at hu this
      rw [hu] at this; cases this
  | succ fuel ih =>
    intro listed a w h hf
    refine ⟨fun hr => fin listed a w h (all_of_none hlt h.sz hr), fun i hi => ?_⟩
    obtain ⟨hu, his, _⟩ := waits_ready hi
    refine steps i his a w _ h.ext (inv_sees hok hi h) fun v w' hF he => ih _ _ _ (inv_step stab hok hi h hF he) ?_
    have hil : i < listed.size := by rw [h.sz]; exact his
    have hsub : ((List.range ops.size).filter fun j => !(listed.setIfInBounds i true).getD j false) = ((List.range ops.size).filter fun j => !listed.getD j false).filter (· ≠ i) := by
      rw [List.filter_filter]
      apply List.filter_congr
      intro j _
      by_cases hj : j = i
      · subst hj
        have : (listed.setIfInBounds j true).getD j false = true := (getD_set hil).2 (.inl rfl)
        simp [this]
      · have : (listed.setIfInBounds i true).getD j false = listed.getD j false := by
          rw [Bool.eq_iff_iff, getD_set hil]; simp [hj]
        simp [this, hj]
    rw [hsub]
    have hmem : i ∈ (List.range ops.size).filter fun j => !listed.getD j false := by
      refine List.mem_filter.2 ⟨List.mem_range.2 his, ?_⟩
      rw [Array.getD_eq_getD_getElem?, Array.getElem?_eq_getElem hil] at hu ⊢
      simpa using hu
    have hlen := List.length_filter_lt_length_iff_exists (p := fun j => decide (j ≠ i)) (l := (List.range ops.size).filter fun j => !listed.getD j false) |>.2 ⟨i, hmem, by simp⟩
    omega
/-- The frame with the region's values put in. -/
def puts (ops : Array Oper) (vs : Nat → Value) : List Nat → Act → Act
  | [], a => a
  | i :: l, a => puts ops vs l (a.put (dstOf ops i) (vs i))
theorem puts_size (vs : Nat → Value) : ∀ (l : List Nat) (a : Act), (puts ops vs l a).tmps.size = a.tmps.size
  | [], _ => rfl
  | i :: l, a => by rw [puts, puts_size vs l]; cases dstOf ops i <;> simp [Act.put]
theorem puts_defers (vs : Nat → Value) : ∀ (l : List Nat) (a : Act), (puts ops vs l a).defers = a.defers
  | [], _ => rfl
  | i :: l, a => by rw [puts, puts_defers vs l]; cases dstOf ops i <;> rfl
theorem puts_old (vs : Nat → Value) (t : Nat) : ∀ (l : List Nat) (a : Act), (∀ j ∈ l, dstOf ops j ≠ some t) → (puts ops vs l a).tmps[t]? = a.tmps[t]?
  | [], _, _ => rfl
  | i :: l, a, h => by
    rw [puts, puts_old vs t l _ (fun j hj => h j (List.mem_cons_of_mem _ hj))]
    have h1 := h i (List.mem_cons_self ..)
    cases hd : dstOf ops i with
    | none => rfl
    | some d =>
      have hne : d ≠ t := fun e => h1 (by rw [hd, e])
      simp [Act.put, Array.getElem?_setIfInBounds_ne hne]
theorem puts_new (vs : Nat → Value) {t j : Nat} (hj : dstOf ops j = some t) : ∀ (l : List Nat) (a : Act), j ∈ l → t < a.tmps.size → (∀ i ∈ l, i = j ∨ dstOf ops i ≠ some t) → (puts ops vs l a).tmps[t]? = some (vs j)
  | [], _, h, _, _ => by cases h
  | i :: l, a, h, ht, hap => by
    rw [puts]
    by_cases hl : j ∈ l
    · exact puts_new vs hj l _ hl (by cases dstOf ops i <;> simp [Act.put, ht]) (fun k hk => hap k (List.mem_cons_of_mem _ hk))
    · have hij : i = j := by
        rcases List.mem_cons.1 h with h | h
        · exact h.symm
        · exact absurd h hl
      subst hij
      rw [puts_old vs t l _ (fun k hk => (hap k (List.mem_cons_of_mem _ hk)).resolve_left (fun e => hl (e ▸ hk))), hj]
      simp [Act.put, ht]
theorem inv_puts {F : Nat → Value → World → Prop} {a0 a : Act} {w0 w : World} {listed : Array Bool} (hok : ok ops a0.tmps.size = true) (h : Inv ops F a0 w0 listed a w) (hall : ∀ i, i < ops.size → listed.getD i false = true) :
    ∃ vs : Nat → Value, a = puts ops vs (List.range ops.size) a0 ∧ ∀ i, i < ops.size → F i (vs i) w := by
  refine ⟨fun i => match dstOf ops i with | some d => a.tmps.getD d undef | none => undef, ?_, fun i hi => ?_⟩
  · have ht : a.tmps = (puts ops (fun i => match dstOf ops i with | some d => a.tmps.getD d undef | none => undef) (List.range ops.size) a0).tmps := by
      apply Array.ext_getElem?
      intro t
      by_cases hx : ∃ j, j < ops.size ∧ dstOf ops j = some t
      · obtain ⟨j, hj, hd⟩ := hx
        obtain ⟨v, hv, _⟩ := h.new j t (hall j hj) hd
        obtain ⟨_, ⟨d, hd', hds⟩, hap⟩ := ok_spec hok j hj
        rw [hd] at hd'; cases hd'
        rw [puts_new _ hd _ _ (List.mem_range.2 hj) hds (fun i hi => by
          rcases (hap i (List.mem_range.1 hi)).1 with g | g
          · exact .inl g.symm
          · exact .inr (fun e => g (by rw [hd, e])))]
        simp [hd, hv, Array.getD_eq_getD_getElem?]
      · rw [puts_old _ t _ _ (fun j hj e => hx ⟨j, List.mem_range.1 hj, e⟩)]
        exact h.old t fun j hj e => hx ⟨j, by
          rcases Nat.lt_or_ge j ops.size with g | g
          · exact g
          · simp [dstOf, g] at e, e⟩
    have hd := h.defers
    have hp := puts_defers (ops := ops) (fun i => match dstOf ops i with | some d => a.tmps.getD d undef | none => undef) (List.range ops.size) a0
    cases a with
    | mk tm df =>
      simp only at ht hd
      generalize hq : puts ops (fun i => match dstOf ops i with | some d => tm.getD d undef | none => undef) (List.range ops.size) a0 = q at *
      cases q with
      | mk tm' df' => simp only at ht hp; rw [ht, hd, hp]
  · obtain ⟨_, ⟨d, hd, hds⟩, _⟩ := ok_spec hok i hi
    obtain ⟨v, hv, hF⟩ := h.new i d (hall i hi) hd
    simp only [hd, Array.getD_eq_getD_getElem?, hv, Option.getD_some]
    exact hF
/-- All steps, as one conjunction. -/
def Steps (P : Program) (ops : Array Oper) (Q : Exit → Act → World → Prop) (F : Nat → Value → World → Prop) (a0 : Act) (w0 : World) : List Nat → Prop
  | [] => True
  | i :: l => Step P ops Q F a0 w0 i ∧ Steps P ops Q F a0 w0 l
theorem Steps.get {F : Nat → Value → World → Prop} {a0 : Act} {w0 : World} : ∀ {l : List Nat}, Steps P ops Q F a0 w0 l → ∀ i ∈ l, Step P ops Q F a0 w0 i
  | _ :: _, h, i, hi => by
    rcases List.mem_cons.1 hi with rfl | hi
    · exact h.1
    · exact Steps.get h.2 i hi
/-- THE LAW. -/
theorem wp_region_dag {id : Nat} {a0 : Act} {w : World} (F : Nat → Value → World → Prop) (hm : P.follows .mixedOrders = true) (hok : ok ops a0.tmps.size = true) (stab : ∀ i v w w', F i v w → Ext w w' → F i v w')
    (steps : Steps P ops Q F a0 w.drew (List.range ops.size))
    (fin : ∀ (vs : Nat → Value) (w' : World), Ext w.drew w' → (∀ i, i < ops.size → F i (vs i) w') → Q .normal (puts ops vs (List.range ops.size) a0) w') : (Code.region id ops true).wp P Q a0 w := by
  refine wp_region_any hm ?_
  refine wpAny_of_dag (F := F) (a0 := a0) (w0 := w.drew) stab hok (fun i hi => steps.get i (List.mem_range.2 hi)) (fun listed a w' h hall => ?_) ops.size _ a0 _ ?_ ?_
  · obtain ⟨vs, rfl, hF⟩ := inv_puts hok h hall
    exact fin vs w' h.ext hF
  · refine ⟨by simp, Ext.refl _, rfl, rfl, fun _ _ => rfl, fun j d hj => ?_, fun j hj => ?_⟩
    · exfalso
      rw [Array.getD_eq_getD_getElem?, Array.getElem?_replicate] at hj
      split at hj <;> simp at hj
    · exfalso
      rw [Array.getD_eq_getD_getElem?, Array.getElem?_replicate] at hj
      split at hj <;> simp at hj
  · refine Nat.le_trans (List.length_filter_le _ _) (by simp)
/-- What a slot holds that a forerunner has written. -/
theorem Sees.new {F : Nat → Value → World → Prop} {a0 a : Act} {w : World} {i : Nat} (h : Sees ops F a0 i a w) {t j : Nat} (hl : (looks ops i).contains t = true) (hw : writer ops i t = some j) : ∃ v, a.tmps[t]? = some v ∧ F j v w := by
  have := h t (by simpa using hl)
  rw [hw] at this
  exact this
/-- What a slot holds that the region has not written. -/
theorem Sees.old {F : Nat → Value → World → Prop} {a0 a : Act} {w : World} {i : Nat} (h : Sees ops F a0 i a w) {t : Nat} (hl : (looks ops i).contains t = true) (hw : writer ops i t = none) : a.tmps[t]? = a0.tmps[t]? := by
  have := h t (by simpa using hl)
  rw [hw] at this
  exact this
theorem eval_of {a : Act} {t : Nat} {v : Value} (h : a.tmps[t]? = some v) : a.eval (.tmp t) = v := by simp [Act.eval, Array.getD_eq_getD_getElem?, h]
theorem wpOp_lit {i : Nat} {o : Oper} {K : Act → World → Prop} {a : Act} {w : World} (ho : ops[i]? = some o) (h : if Region.wanted o (yielded ops a.tmps) = true then Oper.wp P o a w K Q else K (a.put o.dst undef) w) : wpOp P ops Q i K a w := by
  unfold wpOp
  simp only [ho]
  split
  · rename_i hw; rw [if_pos hw] at h; exact .inl h
  · rename_i hw; rw [if_neg hw] at h; exact h
/-- The values put in, one slot after the other. -/
def putL (vs : Nat → Value) : Nat → List (Option Nat) → Act → Act
  | _, [], a => a
  | i, d :: l, a => putL vs (i + 1) l (a.put d (vs i))
theorem puts_range (vs : Nat → Value) : ∀ (n k : Nat) (a : Act), puts ops vs (List.range' k n) a = putL vs k ((List.range' k n).map (dstOf ops)) a
  | 0, _, _ => rfl
  | n + 1, k, a => by
    rw [List.range'_succ, puts, List.map_cons, putL, puts_range vs n (k + 1)]
/-- What is said of an operation's result: this value; a slice over a new block that holds these cells; a pointer into such a block; a pointer to a new variable that holds these cells. -/
inductive Fact where
  | val (v : Value)
  | box (n : Nat) (vs : Array Value) (T : TypeId)
  | into (k : Nat) (vs : Array Value) (T : TypeId)
  | var (vs : Array Value) (T : TypeId)
def Fact.isVal : Fact → Bool
  | .val _ => true
  | _ => false
def Fact.holds (B : Nat) : Fact → Value → World → Prop
  | .val x, v, _ => v = x
  | .box n vs T, v, w => ∃ b, v = .slice (some ⟨b, 0, none⟩) n n ∧ w.heap[b]? = some (.cells vs T (0, 0))
  | .into k vs T, v, w => ∃ b, v = .pointer (some ⟨b, k, none⟩) ∧ w.heap[b]? = some (.cells vs T (0, 0))
  | .var vs T, v, w => ∃ b, v = .pointer (some ⟨b, 0, none⟩) ∧ w.heap[b]? = some (.cells vs T (0, 0)) ∧ B ≤ b
theorem heap_keep {w w' : World} {b : Nat} {o : Obj} (h : w.heap[b]? = some o) (e : Ext w w') : w'.heap[b]? = some o :=
  (Below.block e b (Array.getElem?_eq_some_iff.1 h).1).trans h
theorem Fact.stab {B : Nat} (f : Fact) {v : Value} {w w' : World} (h : f.holds B v w) (e : Ext w w') : f.holds B v w' := by
  cases f with
  | val x => exact h
  | box n vs T => obtain ⟨b, h1, h2⟩ := h; exact ⟨b, h1, heap_keep h2 e⟩
  | into k vs T => obtain ⟨b, h1, h2⟩ := h; exact ⟨b, h1, heap_keep h2 e⟩
  | var vs T => obtain ⟨b, h1, h2, h3⟩ := h; exact ⟨b, h1, heap_keep h2 e, h3⟩
theorem cell_of_heap {w : World} {b : Nat} {vs : Array Value} {T : TypeId} (h : w.heap[b]? = some (.cells vs T (0, 0))) (i : Nat) : w.cell? ⟨b, i, none⟩ = vs[i]? := by simp [World.cell?, h]
theorem frozen_of_heap {w : World} {b : Nat} {vs : Array Value} {T : TypeId} (h : w.heap[b]? = some (.cells vs T (0, 0))) (i : Nat) : w.frozen? ⟨b, i, none⟩ = false := by simp [World.frozen?, h]
def factAt (B : Nat) (fs : List Fact) (i : Nat) (v : Value) (w : World) : Prop := match fs[i]? with | some f => f.holds B v w | none => True
theorem factAt_stab {B : Nat} (fs : List Fact) (i : Nat) (v : Value) (w w' : World) (h : factAt B fs i v w) (e : Ext w w') : factAt B fs i v w' := by
  unfold factAt at h ⊢
  cases hf : fs[i]? with
  | none => trivial
  | some f => rw [hf] at h; exact f.stab h e
/-- THE LAW, with the facts as a list. -/
theorem wp_region_facts {id : Nat} {a0 : Act} {w : World} (fs : List Fact) (ds : List (Option Nat)) (hm : P.follows .mixedOrders = true) (hok : ok ops a0.tmps.size = true) (hds : (List.range' 0 ops.size).map (dstOf ops) = ds)
    (steps : Steps P ops Q (factAt w.heap.size fs) a0 w.drew (List.range ops.size))
    (fin : ∀ (vs : Nat → Value) (w' : World), Ext w.drew w' → (∀ i, i < ops.size → factAt w.heap.size fs i (vs i) w') → Q .normal (putL vs 0 ds a0) w') : (Code.region id ops true).wp P Q a0 w :=
  wp_region_dag (factAt w.heap.size fs) hm hok (factAt_stab fs) steps (fun vs w' h1 h2 => by
    rw [List.range_eq_range', puts_range, hds]; exact fin vs w' h1 h2)
/-! ### One store, into a variable that the region itself makes -/
/-- The region's form with a store: operation s stores into the variable that operation k has made; whoever reads a slot of which more is said than its value comes before the store. -/
def okS (ops : Array Oper) (fs : List Fact) (size s k : Nat) : Bool :=
  decide (s < ops.size) && decide (k < ops.size) && (dstOf ops s == none) && (waits ops s).contains k &&
  (List.range ops.size).all (fun i => (waits ops i).all (· < i) && (i == s || (match dstOf ops i with | some d => decide (d < size) | none => false)) &&
    (List.range ops.size).all (fun j => (i == j || j == s || dstOf ops i != dstOf ops j) && (match dstOf ops j with | some d => !(looks ops i).contains d || (waits ops i).contains j || (waits ops j).contains i | none => true)) &&
    (looks ops i).all (fun t => match writer ops i t with | some j => ((fs[j]?).map Fact.isVal).getD true || i == s || (waits ops s).contains i | none => true))
structure InvS (ops : Array Oper) (fs : List Fact) (nv : Array Value) (T : TypeId) (s k : Nat) (a0 : Act) (w0 : World) (listed : Array Bool) (a : Act) (w : World) : Prop where
  sz : listed.size = ops.size
  ext : Ext w0 w
  defers : a.defers = a0.defers
  size : a.tmps.size = a0.tmps.size
  old : ∀ t, (∀ j, listed.getD j false = true → dstOf ops j ≠ some t) → a.tmps[t]? = a0.tmps[t]?
  new : ∀ j d, listed.getD j false = true → dstOf ops j = some d → ∃ v, a.tmps[d]? = some v ∧ (((fs[j]?).map Fact.isVal).getD true = true ∨ listed.getD s false = false → factAt w0.heap.size fs j v w)
  kept : listed.getD s false = true → ∃ d v, dstOf ops k = some d ∧ a.tmps[d]? = some v ∧ (Fact.var nv T).holds w0.heap.size v w
  down : ∀ j, listed.getD j false = true → ∀ k ∈ waits ops j, listed.getD k false = true
/-- The store's own step: from the variable that k has made to its new cells. -/
def StepS (P : Program) (ops : Array Oper) (Q : Exit → Act → World → Prop) (fs : List Fact) (nv : Array Value) (T : TypeId) (s k : Nat) (a0 : Act) (w0 : World) : Prop :=
  ∀ (a : Act) (w : World) (K : Act → World → Prop), Ext w0 w → Sees ops (factAt w0.heap.size fs) a0 s a w →
    (∀ w' b d, Ext w0 w' → dstOf ops k = some d → a.tmps[d]? = some (.pointer (some ⟨b, 0, none⟩)) → w0.heap.size ≤ b → w'.heap[b]? = some (.cells nv T (0, 0)) → K a w') → wpOp P ops Q s K a w
theorem okS_spec {fs : List Fact} {size s k : Nat} (h : okS ops fs size s k = true) : s < ops.size ∧ k < ops.size ∧ dstOf ops s = none ∧ k ∈ waits ops s ∧
    ∀ i, i < ops.size → (∀ k ∈ waits ops i, k < i) ∧ (i = s ∨ ∃ d, dstOf ops i = some d ∧ d < size) ∧
      (∀ j, j < ops.size → (i = j ∨ j = s ∨ dstOf ops i ≠ dstOf ops j) ∧ (∀ d, dstOf ops j = some d → d ∈ looks ops i → j ∈ waits ops i ∨ i ∈ waits ops j)) ∧
      (∀ t ∈ looks ops i, ∀ j, writer ops i t = some j → ((fs[j]?).map Fact.isVal).getD true = true ∨ i = s ∨ i ∈ waits ops s) := by
  unfold okS at h
  simp only [Bool.and_eq_true, decide_eq_true_eq, beq_iff_eq, List.contains_eq_mem] at h
  obtain ⟨⟨⟨⟨h1, h2⟩, h3⟩, h4⟩, h5⟩ := h
  refine ⟨h1, h2, h3, h4, fun i hi => ?_⟩
  have h6 := List.all_eq_true.1 h5 i (List.mem_range.2 hi)
  simp only [Bool.and_eq_true, Bool.or_eq_true, beq_iff_eq] at h6
  obtain ⟨⟨⟨h7, h8⟩, h9⟩, h10⟩ := h6
  refine ⟨fun k hk => by have := List.all_eq_true.1 h7 k hk; simpa using this, ?_, fun j hj => ?_, fun t ht j hw => ?_⟩
  · rcases h8 with h8 | h8
    · exact .inl h8
    · cases hd : dstOf ops i with
      | none => rw [hd] at h8; cases h8
      | some d => rw [hd] at h8; exact .inr ⟨d, rfl, by simpa using h8⟩
  · have h11 := List.all_eq_true.1 h9 j (List.mem_range.2 hj)
    simp only [Bool.and_eq_true, Bool.or_eq_true, beq_iff_eq, bne_iff_ne] at h11
    refine ⟨by rcases h11.1 with (g | g) | g; exact .inl g; exact .inr (.inl g); exact .inr (.inr g), fun d hd hl => ?_⟩
    have h12 := h11.2
    rw [hd] at h12
    simp only [Bool.or_eq_true, Bool.not_eq_true', decide_eq_true_eq, decide_eq_false_iff_not] at h12
    rcases h12 with (h12 | h12) | h12
    · exact absurd hl h12
    · exact .inl h12
    · exact .inr h12
  · have h13 := List.all_eq_true.1 h10 t ht
    rw [hw] at h13
    simp only [Bool.or_eq_true, beq_iff_eq, decide_eq_true_eq] at h13
    rcases h13 with (g | g) | g
    · exact .inl g
    · exact .inr (.inl g)
    · exact .inr (.inr g)
theorem factAt_val {B : Nat} {fs : List Fact} {i : Nat} {v : Value} {w w' : World} (hv : ((fs[i]?).map Fact.isVal).getD true = true) (h : factAt B fs i v w) : factAt B fs i v w' := by
  unfold factAt at h ⊢
  cases hf : fs[i]? with
  | none => trivial
  | some f =>
    rw [hf] at h hv
    cases f with
    | val x => exact h
    | box n vs T => cases hv
    | into k vs T => cases hv
    | var vs T => cases hv
theorem listed_false {listed : Array Bool} {i : Nat} (hil : i < listed.size) (hu : listed.getD i true = false) : listed.getD i false = false := by
  rw [Array.getD_eq_getD_getElem?, Array.getElem?_eq_getElem hil] at hu ⊢
  exact hu
theorem invS_sees {fs : List Fact} {nv : Array Value} {T : TypeId} {s k : Nat} {a0 a : Act} {w0 w : World} {listed : Array Bool} (hok : okS ops fs a0.tmps.size s k = true) {i : Nat} (hr : i ∈ Region.ready .any ops listed)
    (h : InvS ops fs nv T s k a0 w0 listed a w) : Sees ops (factAt w0.heap.size fs) a0 i a w := by
  intro t ht
  obtain ⟨hu, hi, hw⟩ := waits_ready hr
  obtain ⟨hs1, hk1, hs2, hk2, hall⟩ := okS_spec hok
  obtain ⟨_, _, hap, hvb⟩ := hall i hi
  have hil : i < listed.size := by rw [h.sz]; exact hi
  have hif := listed_false hil hu
  cases hwr : writer ops i t with
  | some j =>
    simp only
    have h1 := List.find?_some hwr
    have h2 := List.mem_of_find?_eq_some hwr
    obtain ⟨v, hv, hF⟩ := h.new j t (hw j h2) (by simpa using h1)
    refine ⟨v, hv, hF ?_⟩
    rcases hvb t ht j hwr with g | g | g
    · exact .inl g
    · subst g; exact .inr hif
    · refine .inr ?_
      rcases Bool.eq_false_or_eq_true (listed.getD s false) with q | q
      · have := h.down s q i g
        rw [this] at hif; cases hif
      · exact q
  | none =>
    simp only
    refine h.old t fun j hj hd => ?_
    have hjs : j < ops.size := by
      rcases Nat.lt_or_ge j ops.size with g | g
      · exact g
      · simp [dstOf, g] at hd
    rcases (hap j hjs).2 t hd ht with g | g
    · have := List.find?_eq_none.1 hwr j g
      simp [hd] at this
    · have := h.down j hj i g
      rw [this] at hif; cases hif
theorem invS_step {fs : List Fact} {nv : Array Value} {T : TypeId} {s k : Nat} {a0 a : Act} {w0 w w' : World} {listed : Array Bool} (hok : okS ops fs a0.tmps.size s k = true) {i : Nat} (hr : i ∈ Region.ready .any ops listed) (hne : i ≠ s)
    (h : InvS ops fs nv T s k a0 w0 listed a w) {v : Value} (hF : factAt w0.heap.size fs i v w') (he : Ext w w') : InvS ops fs nv T s k a0 w0 (listed.setIfInBounds i true) (a.put (dstOf ops i) v) w' := by
  obtain ⟨hu, hi, hw⟩ := waits_ready hr
  obtain ⟨hs1, hk1, hs2, hk2, hall⟩ := okS_spec hok
  obtain ⟨_, hdd, hap, _⟩ := hall i hi
  obtain ⟨d, hd, hds⟩ := hdd.resolve_left hne
  have hil : i < listed.size := by rw [h.sz]; exact hi
  have hif := listed_false hil hu
  have hsl : (listed.setIfInBounds i true).getD s false = listed.getD s false := by
    rw [Bool.eq_iff_iff, getD_set hil]; simp [Ne.symm hne]
  have apart : ∀ j d', listed.getD j false = true → dstOf ops j = some d' → d ≠ d' := fun j d' hj hd' e => by
    have hjs : j < ops.size := by
      rcases Nat.lt_or_ge j ops.size with g | g
      · exact g
      · simp [dstOf, g] at hd'
    rcases (hap j hjs).1 with rfl | rfl | hn
    · rw [hj] at hif; cases hif
    · rw [hs2] at hd'; cases hd'
    · exact hn (by rw [hd, hd', e])
  refine ⟨by simp [h.sz], h.ext.trans he, by rw [hd]; exact h.defers, by rw [hd]; simp [Act.put, h.size], fun t ht => ?_, fun j d' hj hd' => ?_, fun hs => ?_, fun j hj k hk => ?_⟩
  · have hne' : d ≠ t := fun e => ht i ((getD_set hil).2 (.inl rfl)) (by rw [hd, e])
    rw [hd]
    simp only [Act.put, Array.getElem?_setIfInBounds_ne hne']
    exact h.old t fun j hj => ht j ((getD_set hil).2 (.inr hj))
  · rcases (getD_set hil).1 hj with rfl | hj
    · rw [hd] at hd'
      cases hd'
      rw [hd]
      exact ⟨v, by simp [Act.put, h.size, hds], fun _ => hF⟩
    · obtain ⟨v', hv', hF'⟩ := h.new j d' hj hd'
      rw [hd]
      exact ⟨v', by simp only [Act.put, Array.getElem?_setIfInBounds_ne (apart j d' hj hd')]; exact hv', fun g => factAt_stab fs j v' w w' (hF' (by rw [hsl] at g; exact g)) he⟩
  · rw [hsl] at hs
    obtain ⟨d', v', h1, h2, h3⟩ := h.kept hs
    refine ⟨d', v', h1, ?_, Fact.stab _ h3 he⟩
    rw [hd]
    simp only [Act.put, Array.getElem?_setIfInBounds_ne (apart k d' (h.down s hs k hk2) h1)]
    exact h2
  · rcases (getD_set hil).1 hj with rfl | hj
    · exact (getD_set hil).2 (.inr (hw k hk))
    · exact (getD_set hil).2 (.inr (h.down j hj k hk))
theorem invS_store {fs : List Fact} {nv : Array Value} {T : TypeId} {s k : Nat} {a0 a : Act} {w0 w w' : World} {listed : Array Bool} (hok : okS ops fs a0.tmps.size s k = true) (hr : s ∈ Region.ready .any ops listed)
    (h : InvS ops fs nv T s k a0 w0 listed a w) {b d : Nat} (he : Ext w0 w') (hd : dstOf ops k = some d) (hv : a.tmps[d]? = some (.pointer (some ⟨b, 0, none⟩))) (hB : w0.heap.size ≤ b) (hb : w'.heap[b]? = some (.cells nv T (0, 0))) :
    InvS ops fs nv T s k a0 w0 (listed.setIfInBounds s true) a w' := by
  obtain ⟨hu, hi, hw⟩ := waits_ready hr
  obtain ⟨hs1, hk1, hs2, hk2, hall⟩ := okS_spec hok
  have hil : s < listed.size := by rw [h.sz]; exact hi
  refine ⟨by simp [h.sz], he, h.defers, h.size, fun t ht => h.old t fun j hj => ht j ((getD_set hil).2 (.inr hj)), fun j d' hj hd' => ?_, fun _ => ⟨d, _, hd, hv, b, rfl, hb, hB⟩, fun j hj k hk => ?_⟩
  · rcases (getD_set hil).1 hj with rfl | hj
    · rw [hs2] at hd'; cases hd'
    · obtain ⟨v', hv', hF'⟩ := h.new j d' hj hd'
      refine ⟨v', hv', fun g => ?_⟩
      have hst : (listed.setIfInBounds s true).getD s false = true := (getD_set hil).2 (.inl rfl)
      have g1 : ((fs[j]?).map Fact.isVal).getD true = true := by
        rcases g with g | g
        · exact g
        · rw [hst] at g; cases g
      exact factAt_val g1 (hF' (.inl g1))
  · rcases (getD_set hil).1 hj with rfl | hj
    · exact (getD_set hil).2 (.inr (hw k hk))
    · exact (getD_set hil).2 (.inr (h.down j hj k hk))
theorem wpAny_of_store {fs : List Fact} {nv : Array Value} {T : TypeId} {s k : Nat} {a0 : Act} {w0 : World} (hok : okS ops fs a0.tmps.size s k = true)
    (steps : ∀ i, i < ops.size → i ≠ s → Step P ops Q (factAt w0.heap.size fs) a0 w0 i) (store : StepS P ops Q fs nv T s k a0 w0)
    (fin : ∀ listed a w, InvS ops fs nv T s k a0 w0 listed a w → (∀ i, i < ops.size → listed.getD i false = true) → Q .normal a w) :
    ∀ fuel listed a w, InvS ops fs nv T s k a0 w0 listed a w → ((List.range ops.size).filter fun i => !listed.getD i false).length ≤ fuel → wpAny P .any ops Q fuel listed a w := by
  obtain ⟨hs1, hk1, hs2, hk2, hspec⟩ := okS_spec hok
  have hlt : ∀ i, i < ops.size → ∀ k ∈ waits ops i, k < i := fun i hi => (hspec i hi).1
  intro fuel
  induction fuel with
  | zero =>
    intro listed a w h hf
    have hnil : ((List.range ops.size).filter fun i => !listed.getD i false) = [] := List.length_eq_zero_iff.1 (by omega)
    have hall : ∀ i, i < ops.size → listed.getD i false = true := fun i hi => by
      have := List.filter_eq_nil_iff.1 hnil i (List.mem_range.2 hi)
      simpa using this
    refine ⟨?_, fin listed a w h hall⟩
    cases hr : Region.ready .any ops listed with
    | nil => rfl
    | cons x xs =>
      exfalso
      have hx : x ∈ Region.ready .any ops listed := by rw [hr]; simp
      obtain ⟨hu, hxs, _⟩ := waits_ready hx
      have hil : x < listed.size := by rw [h.sz]; exact hxs
      have := hall x hxs
      rw [listed_false hil hu] at this; cases this
  | succ fuel ih =>
    intro listed a w h hf
    refine ⟨fun hr => fin listed a w h (all_of_none hlt h.sz hr), fun i hi => ?_⟩
    obtain ⟨hu, his, _⟩ := waits_ready hi
    have hil : i < listed.size := by rw [h.sz]; exact his
    have hlen : ((List.range ops.size).filter fun j => !(listed.setIfInBounds i true).getD j false).length ≤ fuel := by
      have hsub : ((List.range ops.size).filter fun j => !(listed.setIfInBounds i true).getD j false) = ((List.range ops.size).filter fun j => !listed.getD j false).filter (· ≠ i) := by
        rw [List.filter_filter]
        apply List.filter_congr
        intro j _
        by_cases hj : j = i
        · subst hj
          have : (listed.setIfInBounds j true).getD j false = true := (getD_set hil).2 (.inl rfl)
          simp [this]
        · have : (listed.setIfInBounds i true).getD j false = listed.getD j false := by
            rw [Bool.eq_iff_iff, getD_set hil]; simp [hj]
          simp [this, hj]
      rw [hsub]
      have hmem : i ∈ (List.range ops.size).filter fun j => !listed.getD j false := by
        refine List.mem_filter.2 ⟨List.mem_range.2 his, ?_⟩
        rw [listed_false hil hu]; rfl
      have hlen := List.length_filter_lt_length_iff_exists (p := fun j => decide (j ≠ i)) (l := (List.range ops.size).filter fun j => !listed.getD j false) |>.2 ⟨i, hmem, by simp⟩
      omega
    by_cases hne : i = s
    · subst hne
      exact store a w _ h.ext (invS_sees hok hi h) fun w' b d he hd hv hB hb => ih _ _ _ (invS_store hok hi h he hd hv hB hb) hlen
    · exact steps i his hne a w _ h.ext (invS_sees hok hi h) fun v w' hF he => ih _ _ _ (invS_step hok hi hne h hF he) hlen
theorem invS_puts {fs : List Fact} {nv : Array Value} {T : TypeId} {s k : Nat} {a0 a : Act} {w0 w : World} {listed : Array Bool} (hok : okS ops fs a0.tmps.size s k = true) (h : InvS ops fs nv T s k a0 w0 listed a w) (hall : ∀ i, i < ops.size → listed.getD i false = true) :
    ∃ vs : Nat → Value, a = puts ops vs (List.range ops.size) a0 ∧ (∀ i, i < ops.size → i ≠ s → ((fs[i]?).map Fact.isVal).getD true = true → factAt w0.heap.size fs i (vs i) w) ∧ (Fact.var nv T).holds w0.heap.size (vs k) w := by
  obtain ⟨hs1, hk1, hs2, hk2, hspec⟩ := okS_spec hok
  refine ⟨fun i => match dstOf ops i with | some d => a.tmps.getD d undef | none => undef, ?_, fun i hi hne hv => ?_, ?_⟩
  · have ht : a.tmps = (puts ops (fun i => match dstOf ops i with | some d => a.tmps.getD d undef | none => undef) (List.range ops.size) a0).tmps := by
      apply Array.ext_getElem?
      intro t
      by_cases hx : ∃ j, j < ops.size ∧ dstOf ops j = some t
      · obtain ⟨j, hj, hd⟩ := hx
        obtain ⟨v, hv, _⟩ := h.new j t (hall j hj) hd
        obtain ⟨_, hdd, hap, _⟩ := hspec j hj
        have hjs : j ≠ s := fun e => by rw [e, hs2] at hd; cases hd
        obtain ⟨d, hd', hds⟩ := hdd.resolve_left hjs
        rw [hd] at hd'; cases hd'
        rw [puts_new _ hd _ _ (List.mem_range.2 hj) hds (fun i hi => by
          rcases (hap i (List.mem_range.1 hi)).1 with g | g | g
          · exact .inl g.symm
          · exact .inr (fun e => by rw [g, hs2] at e; cases e)
          · exact .inr (fun e => g (by rw [hd, e])))]
        simp [hd, hv, Array.getD_eq_getD_getElem?]
      · rw [puts_old _ t _ _ (fun j hj e => hx ⟨j, List.mem_range.1 hj, e⟩)]
        exact h.old t fun j hj e => hx ⟨j, by
          rcases Nat.lt_or_ge j ops.size with g | g
          · exact g
          · simp [dstOf, g] at e, e⟩
    have hd := h.defers
    have hp := puts_defers (ops := ops) (fun i => match dstOf ops i with | some d => a.tmps.getD d undef | none => undef) (List.range ops.size) a0
    cases a with
    | mk tm df =>
      simp only at ht hd
      generalize hq : puts ops (fun i => match dstOf ops i with | some d => tm.getD d undef | none => undef) (List.range ops.size) a0 = q at *
      cases q with
      | mk tm' df' => simp only at ht hp; rw [ht, hd, hp]
  · obtain ⟨_, hdd, _, _⟩ := hspec i hi
    obtain ⟨d, hd, hds⟩ := hdd.resolve_left hne
    obtain ⟨v, hv', hF⟩ := h.new i d (hall i hi) hd
    simp only [hd, Array.getD_eq_getD_getElem?, hv', Option.getD_some]
    exact hF (.inl hv)
  · obtain ⟨d, v, hd, hv, hF⟩ := h.kept (hall s hs1)
    simp only [hd, Array.getD_eq_getD_getElem?, hv, Option.getD_some]
    exact hF
/-- All steps but one, as one conjunction. -/
def StepsS (P : Program) (ops : Array Oper) (Q : Exit → Act → World → Prop) (fs : List Fact) (nv : Array Value) (T : TypeId) (s k : Nat) (a0 : Act) (w0 : World) : List Nat → Prop
  | [] => True
  | i :: l => (if i = s then StepS P ops Q fs nv T s k a0 w0 else Step P ops Q (factAt w0.heap.size fs) a0 w0 i) ∧ StepsS P ops Q fs nv T s k a0 w0 l
theorem StepsS.get {fs : List Fact} {nv : Array Value} {T : TypeId} {s k : Nat} {a0 : Act} {w0 : World} : ∀ {l : List Nat}, StepsS P ops Q fs nv T s k a0 w0 l → ∀ i ∈ l, (if i = s then StepS P ops Q fs nv T s k a0 w0 else Step P ops Q (factAt w0.heap.size fs) a0 w0 i)
  | _ :: _, h, i, hi => by
    rcases List.mem_cons.1 hi with rfl | hi
    · exact h.1
    · exact StepsS.get h.2 i hi
/-- THE LAW WITH A STORE: operation s stores into the variable that operation k makes; behind it that variable holds the cells nv. -/
theorem wp_region_store {id : Nat} {a0 : Act} {w : World} (fs : List Fact) (nv : Array Value) (T : TypeId) (s k : Nat) (ds : List (Option Nat)) (hm : P.follows .mixedOrders = true) (hok : okS ops fs a0.tmps.size s k = true) (hds : (List.range' 0 ops.size).map (dstOf ops) = ds)
    (steps : StepsS P ops Q fs nv T s k a0 w.drew (List.range ops.size))
    (fin : ∀ (vs : Nat → Value) (w' : World), Ext w.drew w' → (∀ i, i < ops.size → i ≠ s → ((fs[i]?).map Fact.isVal).getD true = true → factAt w.heap.size fs i (vs i) w') → (Fact.var nv T).holds w.heap.size (vs k) w' → Q .normal (putL vs 0 ds a0) w') : (Code.region id ops true).wp P Q a0 w := by
  obtain ⟨hs1, _⟩ := okS_spec hok
  refine wp_region_any hm ?_
  refine wpAny_of_store (fs := fs) (nv := nv) (T := T) (s := s) (k := k) (a0 := a0) (w0 := w.drew) hok (fun i hi hne => by have := steps.get i (List.mem_range.2 hi); rw [if_neg hne] at this; exact this) (by have := steps.get s (List.mem_range.2 hs1); rw [if_pos rfl] at this; exact this) (fun listed a w' h hall => ?_) ops.size _ a0 _ ?_ ?_
  · obtain ⟨vs, rfl, hF, hk⟩ := invS_puts hok h hall
    rw [List.range_eq_range', puts_range, hds]
    exact fin vs w' h.ext hF hk
  · refine ⟨by simp, Ext.refl _, rfl, rfl, fun _ _ => rfl, fun j d hj => ?_, fun hj => ?_, fun j hj => ?_⟩
    all_goals
      exfalso
      rw [Array.getD_eq_getD_getElem?, Array.getElem?_replicate] at hj
      split at hj <;> simp at hj
  · refine Nat.le_trans (List.length_filter_le _ _) (by simp)
/-- A store into a block that is known whole. -/
theorem heap_setCell {w : World} {b i : Nat} {vs : Array Value} {T : TypeId} {fr : Nat × Nat} (h : w.heap[b]? = some (.cells vs T fr)) (v : Value) : (w.setCell ⟨b, i, none⟩ v).heap[b]? = some (.cells (vs.setIfInBounds i v) T fr) := by
  simp [World.setCell, Array.getElem?_modify, h]
end Dag
end Go.Proofs.YtdpjkocpdomkbaaGreatDoor
