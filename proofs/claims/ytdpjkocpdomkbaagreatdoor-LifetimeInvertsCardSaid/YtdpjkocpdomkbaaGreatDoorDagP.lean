/- The law on statements whose order of evaluation is open, with facts that are predicates: bytes that lie somewhere, slices of such. -/
import Derived.Test.YtdpjkocpdomkbaaGreatDoorDag
import Derived.Test.YtdpjkocpdomkbaaGreatDoorDerX
namespace Go.Proofs.YtdpjkocpdomkbaaGreatDoor
open Go.RowKit
/-- A slice that holds these bytes. -/
def isB (bs : List UInt8) (v : Value) (w : World) : Prop := ∃ A c, v = .slice A bs.length c ∧ PartOk w ⟨A, c, bs⟩ ∧ bs.length ≤ c
/-- A slice of slices that hold these bytes. -/
def isPs (l : List (List UInt8)) (v : Value) (w : World) : Prop := ∃ g ps cap, v = .slice (some ⟨g, 0, none⟩) l.length cap ∧ ps.map Part.bs = l ∧ PartsAt w g ps ∧ ∀ p ∈ ps, PartOk w p
def isV (x : Value) (v : Value) (_ : World) : Prop := v = x
theorem isB.ext {bs : List UInt8} {v : Value} {w w' : World} (h : isB bs v w) (e : Ext w w') : isB bs v w' := by
  obtain ⟨A, c, h1, h2, h3⟩ := h; exact ⟨A, c, h1, h2.ext e, h3⟩
theorem isPs.ext {l : List (List UInt8)} {v : Value} {w w' : World} (h : isPs l v w) (e : Ext w w') : isPs l v w' := by
  obtain ⟨g, ps, cap, h1, h2, h3, h4⟩ := h; exact ⟨g, ps, cap, h1, h2, h3.ext e, fun p hp => (h4 p hp).ext e⟩
theorem isB.nil (w : World) : isB [] (.slice none 0 0) w := ⟨none, 0, rfl, ⟨BSw.nil _ _, fun _ => rfl⟩, Nat.le_refl _⟩
theorem isB.of {bs : List UInt8} {w w' : World} {e : Ending} (h : Bytes bs w e w') : ∃ v, e = .returned v ∧ isB bs v w' ∧ Ext w w' := by
  obtain ⟨A, c, rfl, hb, hc, hnil, hx⟩ := h
  exact ⟨_, rfl, ⟨A, c, rfl, ⟨hb.weak, hnil⟩, hc⟩, hx⟩
theorem parts_new (w : World) (T : TypeId) (l : List Part) : PartsAt (w.alloc (.cells (l.map fun p => Value.slice p.A p.bs.length p.c).toArray T)) w.heap.size l := fun j hj => by
  rw [cell_heap (heap_new w _) j]
  simp [hj]
theorem flat_of {ps : List Part} {l : List (List UInt8)} (h : ps.map Part.bs = l) : flatP ps = l.flatten := by subst h; rfl
theorem len_of {ps : List Part} {l : List (List UInt8)} (h : ps.map Part.bs = l) : l.length = ps.length := by subst h; simp
/-- A part as a value. -/
def pv (p : Part) : Value := .slice p.A p.bs.length p.c
/-- A literal of slices that hold these bytes, in a block of its own. -/
def isPl (B : Nat) (l : List (List UInt8)) (v : Value) (w : World) : Prop := ∃ (g : Nat) (ps : List Part), B ≤ g ∧ v = .slice (some ⟨g, 0, none⟩) l.length l.length ∧ ps.map Part.bs = l ∧ w.heap[g]? = some (.cells (ps.map pv).toArray 28 (0, 0)) ∧ ∀ p ∈ ps, PartOk w p
theorem isPl.ext {B : Nat} {l : List (List UInt8)} {v : Value} {w w' : World} (h : isPl B l v w) (e : Ext w w') : isPl B l v w' := by
  obtain ⟨g, ps, h0, h1, h2, h3, h4⟩ := h; exact ⟨g, ps, h0, h1, h2, Dag.heap_keep h3 e, fun p hp => (h4 p hp).ext e⟩
theorem isPl.own {B g : Nat} {ps : List Part} {w : World} (h0 : B ≤ g) (h3 : w.heap[g]? = some (.cells (ps.map pv).toArray 28 (0, 0))) (hl : ps.length ≤ maxLen) : w.ownsRow B 28 1 (.slice (some ⟨g, 0, none⟩) ps.length ps.length) ps.length (ps.map pv) :=
  ⟨by simp, .inr ⟨g, ps.length, (ps.map pv).toArray, rfl, h0, h3, Nat.le_refl _, hl, by simp, by simp [List.take_of_length_le]⟩⟩
theorem parts_own {w : World} {B : Nat} {v : Value} {ps : List Part} {n : Nat} (hn : n = ps.length) (h : w.ownsRow B 28 1 v n (ps.map pv)) (hne : ps ≠ []) : ∃ g cap, v = .slice (some ⟨g, 0, none⟩) n cap ∧ PartsAt w g ps := by
  subst hn
  have h2 := h
  rcases h.2 with ⟨_, h0⟩ | ⟨g, cap, cur, rfl, _⟩
  · exact absurd (List.length_eq_zero_iff.1 h0) hne
  · refine ⟨g, cap, rfl, fun j hj => ?_⟩
    rw [h2.cellAt j (by omega)]
    simp [hj, pv]
namespace Dag
variable {P : Program} {ops : Array Oper} {Q : Exit → Act → World → Prop}
def propAt (fs : List (Value → World → Prop)) (i : Nat) (v : Value) (w : World) : Prop := match fs[i]? with | some f => f v w | none => True
def Stab (f : Value → World → Prop) : Prop := ∀ v w w', f v w → Ext w w' → f v w'
theorem stabV (x : Value) : Stab (isV x) := fun _ _ _ h _ => h
theorem stabB (x : List UInt8) : Stab (isB x) := fun _ _ _ h e => h.ext e
theorem stabP (x : List (List UInt8)) : Stab (isPs x) := fun _ _ _ h e => h.ext e
theorem stabL (B : Nat) (x : List (List UInt8)) : Stab (isPl B x) := fun _ _ _ h e => h.ext e
theorem wp_region_props {id : Nat} {a0 : Act} {w : World} (fs : List (Value → World → Prop)) (ds : List (Option Nat)) (hst : ∀ f ∈ fs, Stab f) (hm : P.follows .mixedOrders = true) (hok : ok ops a0.tmps.size = true) (hds : (List.range' 0 ops.size).map (dstOf ops) = ds)
    (steps : Steps P ops Q (propAt fs) a0 w.drew (List.range ops.size))
    (fin : ∀ (vs : Nat → Value) (w' : World), Ext w.drew w' → (∀ i, i < ops.size → propAt fs i (vs i) w') → Q .normal (putL vs 0 ds a0) w') : (Code.region id ops true).wp P Q a0 w :=
  wp_region_dag (propAt fs) hm hok (fun i v w w' h e => by
    unfold propAt at h ⊢
    cases hf : fs[i]? with
    | none => trivial
    | some f => rw [hf] at h; exact hst f (List.mem_of_getElem? hf) v w w' h e) steps (fun vs w' h1 h2 => by
    rw [List.range_eq_range', puts_range, hds]; exact fin vs w' h1 h2)
end Dag
end Go.Proofs.YtdpjkocpdomkbaaGreatDoor
