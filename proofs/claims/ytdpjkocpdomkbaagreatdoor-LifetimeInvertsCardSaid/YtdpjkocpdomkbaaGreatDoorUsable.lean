/- Contracts of lifetime.Usable, Renewable, Left. No condition. -/
import Derived.Test.YtdpjkocpdomkbaaGreatDoorValid
import Derived.Test.YtdpjkocpdomkbaaGreatDoorFirst
import Derived.Deep.RegionHeld3
namespace Go.Proofs.YtdpjkocpdomkbaaGreatDoor
open Go.RowKit
/-- What Usable hands back, for numbers of whatever size. -/
def usableE (a s t r now k : Int) : Int :=
  firstErr [(validT a s t r && okTimes [now] && (decide (0 ≤ k) && decide (k ≤ 86400)), 2), (decide (IntKind.i64.wrap (s - k) ≤ now), 140), (decide (now ≤ IntKind.i64.wrap (t + k)), 141)]
theorem usableE_def (a s t r now k : Int) : usableE a s t r now k =
  firstErr [(validT a s t r && okTimes [now] && (decide (0 ≤ k) && decide (k ≤ 86400)), 2), (decide (IntKind.i64.wrap (s - k) ≤ now), 140), (decide (now ≤ IntKind.i64.wrap (t + k)), 141)] := rfl
attribute [irreducible] usableE
set_option maxRecDepth 4000 in
set_option maxHeartbeats 1600000 in
theorem usable_any (a s t r now k : Int) (w : World) :
    Calls Tryz.prog 20 #[.agg #[.int .i64 a, .int .i64 s, .int .i64 t, .int .i64 r], .int .i64 now, .int .i64 k] w fun e w' => e = .returned (.int .i64 (usableE a s t r now k)) ∧ Ext w w' := by
  go_enter Tryz.func20, Tryz.ntmps20
  have SM : Hid (∀ w1 w2 : World, (w1.cell? ⟨w.heap.size, 0, none⟩ = some (.int .i64 a) ∧ w1.cell? ⟨w.heap.size, 1, none⟩ = some (.int .i64 s) ∧ w1.cell? ⟨w.heap.size, 2, none⟩ = some (.int .i64 t) ∧ w1.cell? ⟨w.heap.size, 3, none⟩ = some (.int .i64 r) ∧ Ext w w1) → Ext w1 w2 → 
    (w2.cell? ⟨w.heap.size, 0, none⟩ = some (.int .i64 a) ∧ w2.cell? ⟨w.heap.size, 1, none⟩ = some (.int .i64 s) ∧ w2.cell? ⟨w.heap.size, 2, none⟩ = some (.int .i64 t) ∧ w2.cell? ⟨w.heap.size, 3, none⟩ = some (.int .i64 r) ∧ Ext w w2)) :=
    fun w1 w2 ⟨h1, h2, h3, h4, h5⟩ hx => ⟨hx.cell h1, hx.cell h2, hx.cell h3, hx.cell h4, h5.trans hx⟩
  have Hu := Lib.hid (usableE_def a s t r now k)
  cases hv : validT a s t r
  · have Hv := Lib.hid hv
    clear hv
    go_wp2
    first
      | go_region_held (fun w' => w'.cell? ⟨w.heap.size, 0, none⟩ = some (.int .i64 a) ∧ w'.cell? ⟨w.heap.size, 1, none⟩ = some (.int .i64 s) ∧ w'.cell? ⟨w.heap.size, 2, none⟩ = some (.int .i64 t) ∧ w'.cell? ⟨w.heap.size, 3, none⟩ = some (.int .i64 r) ∧ Ext w w')
          (first | assumption | exact SM.out _ _ (by assumption) (by assumption) | exact SM.out _ _ (by assumption) ((Ext.refl _).alloc _) | (refine ⟨?_, ?_, ?_, ?_, ((Ext.refl _).alloc _).drew⟩ <;> simp [go_sem]))
          (first | (go_at_call 13; refine (valid_any _ _ _ _ _).mono ?_; rw [Hv.out]; rintro e w' ⟨rfl, hw1⟩) | (go_at_call 41; refine (first_blk3 _ _ _ _ _ _ (by first | with_reducible exact heap_new _ _ | with_reducible exact heap_new2 _ _ _)).mono ?_; rintro e w' ⟨rfl, hw1⟩))
      | fail
    go_wp2
    go_ret
    rename_i hS
    exact ⟨ret_int (by rw [Hu.out, Hv.out]; rfl), hS.2.2.2.2⟩
  · have Hv := Lib.hid hv
    clear hv
    cases hn : okTimes [now]
    · have Hn := Lib.hid hn
      clear hn
      go_wp2
      first
        | go_region_held (fun w' => w'.cell? ⟨w.heap.size, 0, none⟩ = some (.int .i64 a) ∧ w'.cell? ⟨w.heap.size, 1, none⟩ = some (.int .i64 s) ∧ w'.cell? ⟨w.heap.size, 2, none⟩ = some (.int .i64 t) ∧ w'.cell? ⟨w.heap.size, 3, none⟩ = some (.int .i64 r) ∧ Ext w w')
            (first | assumption | exact SM.out _ _ (by assumption) (by assumption) | exact SM.out _ _ (by assumption) ((Ext.refl _).alloc _) | (refine ⟨?_, ?_, ?_, ?_, ((Ext.refl _).alloc _).drew⟩ <;> simp [go_sem]))
            (first | (go_at_call 13; refine (valid_any _ _ _ _ _).mono ?_; rw [Hv.out]; rintro e w' ⟨rfl, hw1⟩) | (go_at_call 33; refine (times_blk1 _ (by first | with_reducible exact heap_new _ _ | with_reducible exact heap_new2 _ _ _)).mono ?_; rw [Hn.out]; rintro e w' ⟨rfl, rfl⟩) | (go_at_call 41; refine (first_blk3 _ _ _ _ _ _ (by first | with_reducible exact heap_new _ _ | with_reducible exact heap_new2 _ _ _)).mono ?_; rintro e w' ⟨rfl, hw1⟩))
        | fail
      go_wp2
      go_ret
      rename_i hS
      exact ⟨ret_int (by rw [Hu.out, Hv.out, Hn.out]; rfl), hS.2.2.2.2⟩
    · have Hn := Lib.hid hn
      clear hn
      go_wp2
      go_region_held3 (fun w' => w'.cell? ⟨w.heap.size, 0, none⟩ = some (.int .i64 a) ∧ w'.cell? ⟨w.heap.size, 1, none⟩ = some (.int .i64 s) ∧ w'.cell? ⟨w.heap.size, 2, none⟩ = some (.int .i64 t) ∧ w'.cell? ⟨w.heap.size, 3, none⟩ = some (.int .i64 r) ∧ Ext w w')
        (first | assumption | exact SM.out _ _ (by assumption) (by assumption) | exact SM.out _ _ (by assumption) ((Ext.refl _).alloc _) | (refine ⟨?_, ?_, ?_, ?_, ((Ext.refl _).alloc _).drew⟩ <;> simp [go_sem]))
        (first | (go_at_call 13; refine (valid_any _ _ _ _ _).mono ?_; rw [Hv.out]; rintro e w' ⟨rfl, hw1⟩) | (go_at_call 33; refine (times_blk1 _ (by first | with_reducible exact heap_new _ _ | with_reducible exact heap_new2 _ _ _)).mono ?_; rw [Hn.out]; rintro e w' ⟨rfl, rfl⟩) | (go_at_call 39; refine (between_any _ _ _ _).mono ?_; rintro e w' ⟨rfl, rfl⟩) | (go_at_call 41; refine (first_blk3 _ _ _ _ _ _ (by first | with_reducible exact heap_new _ _ | with_reducible exact heap_new2 _ _ _)).mono ?_; rintro e w' ⟨rfl, hw1⟩))
      go_wp2
      go_ret
      rename_i hS
      exact ⟨ret_int (by rw [Hu.out, Hv.out, Hn.out]; rfl), hS.2.2.2.2⟩
end Go.Proofs.YtdpjkocpdomkbaaGreatDoor
