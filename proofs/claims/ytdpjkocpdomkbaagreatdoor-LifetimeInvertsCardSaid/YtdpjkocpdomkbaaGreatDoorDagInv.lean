/- A law on statements whose order of evaluation is open, by an invariant of what has been done: any operation may store. -/
import Derived.Test.YtdpjkocpdomkbaaGreatDoorDag
namespace Go.Proofs.YtdpjkocpdomkbaaGreatDoor
open Go.RowKit
namespace Dag
variable {P : Program} {ops : Array Oper} {Q : Exit → Act → World → Prop}
theorem getD_false {listed : Array Bool} {i : Nat} (hi : i < listed.size) (h : listed.getD i true = false) : listed.getD i false = false := by
  rw [Array.getD_eq_getD_getElem?, Array.getElem?_eq_getElem hi] at h ⊢
  simpa using h
theorem wpAny_of_inv (Inv : (Nat → Bool) → Act → World → Prop) (hlt : ∀ i, i < ops.size → ∀ k ∈ waits ops i, k < i)
    (steps : ∀ i, i < ops.size → ∀ (L : Nat → Bool) (a : Act) (w : World) (K : Act → World → Prop), L i = false → (∀ k ∈ waits ops i, L k = true) → Inv L a w → (∀ a' w', Inv (fun j => j == i || L j) a' w' → K a' w') → wpOp P ops Q i K a w)
    (fin : ∀ (L : Nat → Bool) (a : Act) (w : World), Inv L a w → (∀ i, i < ops.size → L i = true) → Q .normal a w) :
    ∀ fuel (listed : Array Bool) a w, listed.size = ops.size → Inv (fun j => listed.getD j false) a w → ((List.range ops.size).filter fun i => !listed.getD i false).length ≤ fuel → wpAny P .any ops Q fuel listed a w := by
  intro fuel
  induction fuel with
  | zero =>
    intro listed a w hs h hf
    have hnil : ((List.range ops.size).filter fun i => !listed.getD i false) = [] := List.length_eq_zero_iff.1 (by omega)
    have hall : ∀ i, i < ops.size → listed.getD i false = true := fun i hi => by
      have := List.filter_eq_nil_iff.1 hnil i (List.mem_range.2 hi)
      simpa using this
    refine ⟨?_, fin _ a w h hall⟩
    cases hr : Region.ready .any ops listed with
    | nil => rfl
    | cons x xs =>
      exfalso
      have hx : x ∈ Region.ready .any ops listed := by rw [hr]; simp
      obtain ⟨hu, hxs, _⟩ := waits_ready hx
      have hu := getD_false (by rw [hs]; exact hxs) hu
      rw [hall x hxs] at hu; cases hu
  | succ fuel ih =>
    intro listed a w hs h hf
    refine ⟨fun hr => fin _ a w h (all_of_none hlt hs hr), fun i hi => ?_⟩
    obtain ⟨hu, his, hk⟩ := waits_ready hi
    have hil : i < listed.size := by rw [hs]; exact his
    have hu := getD_false hil hu
    have hset : ∀ j, (listed.setIfInBounds i true).getD j false = (j == i || listed.getD j false) := fun j => by
      rw [Bool.eq_iff_iff, getD_set hil]; simp
    refine steps i his _ a w _ hu hk h fun a' w' h' => ih _ _ _ (by simp [hs]) ?_ ?_
    · rw [show (fun j => (listed.setIfInBounds i true).getD j false) = (fun j => j == i || listed.getD j false) from funext hset]; exact h'
    · have hsub : ((List.range ops.size).filter fun j => !(listed.setIfInBounds i true).getD j false) = ((List.range ops.size).filter fun j => !listed.getD j false).filter (· ≠ i) := by
        rw [List.filter_filter]
        apply List.filter_congr
        intro j _
        rw [hset j]
        by_cases hj : j = i <;> simp [hj]
      rw [hsub]
      have hmem : i ∈ (List.range ops.size).filter fun j => !listed.getD j false := List.mem_filter.2 ⟨List.mem_range.2 his, by rw [hu]; rfl⟩
      have hlen := List.length_filter_lt_length_iff_exists (p := fun j => decide (j ≠ i)) (l := (List.range ops.size).filter fun j => !listed.getD j false) |>.2 ⟨i, hmem, by simp⟩
      omega
theorem wp_region_inv {id : Nat} {a0 : Act} {w : World} (Inv : (Nat → Bool) → Act → World → Prop) (hm : P.follows .mixedOrders = true) (hlt : ((List.range ops.size).all fun i => (waits ops i).all (· < i)) = true) (h0 : Inv (fun _ => false) a0 w.drew)
    (steps : ∀ i, i < ops.size → ∀ (L : Nat → Bool) (a : Act) (w : World) (K : Act → World → Prop), L i = false → (∀ k ∈ waits ops i, L k = true) → Inv L a w → (∀ a' w', Inv (fun j => j == i || L j) a' w' → K a' w') → wpOp P ops Q i K a w)
    (fin : ∀ (L : Nat → Bool) (a : Act) (w : World), Inv L a w → (∀ i, i < ops.size → L i = true) → Q .normal a w) : (Code.region id ops true).wp P Q a0 w := by
  refine wp_region_any hm ?_
  refine wpAny_of_inv Inv (fun i hi k hk => ?_) steps fin ops.size _ a0 _ (by simp) ?_ ?_
  · have h1 := List.all_eq_true.1 hlt i (List.mem_range.2 hi)
    have := List.all_eq_true.1 h1 k hk
    simpa using this
  · have : (fun j => (Array.replicate ops.size false).getD j false) = fun _ => false := funext fun j => by
      rw [Array.getD_eq_getD_getElem?, Array.getElem?_replicate]; split <;> rfl
    rw [this]; exact h0
  · exact Nat.le_trans (List.length_filter_le _ _) (by simp)
end Dag
end Go.Proofs.YtdpjkocpdomkbaaGreatDoor
