/- A slice of bytes that came in: opened, and shut behind a call that only makes new memory. -/
import Derived.Test.YtdpjkocpdomkbaaGreatDoorTableZ
import Derived.Test.YtdpjkocpdomkbaaGreatDoorDerA
namespace Go.Proofs.YtdpjkocpdomkbaaGreatDoor
open Go.Joins Go.Deep Go.ChangeShapes Go.WideShapes Go.ChangeAt Go.RowKit
theorem cells_u8T : Tryz.prog.cellsOf 5 = 1 := by kernel_rfl
set_option maxRecDepth 100000 in
theorem open_bytes {H : Type} {enc : TypeId × Value → H} {W : World} {b0 : Nat} {v : Value} {d : DataW H} {p : List MemPlace} (hval : Value.okWide Tryz.prog W .any b0 28 v) (h : DataW.Trod enc Tryz.prog W 0 (fun _ => true) true 28 v d p) :
    ∃ A bs L c, v = .slice A L c ∧ bs.length = L ∧ L ≤ c ∧ BSw W A bs ∧ ∀ W', Ext W W' → ∀ sp : Nat → Bool, (∀ x ∈ p, sp x.block = true) → DataW.Trod enc Tryz.prog W' 0 sp true 28 v d p := by
  obtain ⟨a1, len, cap, rfl⟩ := okWide_slice Tryz.underlying28 hval
  obtain ⟨fuel, hf⟩ := h
  rcases open_ints Tryz.underlying28 Tryz.underlying5 cells_u8T hf with ⟨hcs, hx⟩ | ⟨a, len', cap', zs, hcs, _, hl, hm, hz, hx, hcell, hwz⟩
  · simp [Value.cells] at hcs
    obtain ⟨rfl, rfl, rfl⟩ := hcs
    simp only [Prod.mk.injEq] at hx
    obtain ⟨rfl, rfl⟩ := hx
    refine ⟨none, [], 0, 0, rfl, rfl, Nat.le_refl _, BSw.nil _ _, fun W' _ sp _ => ?_⟩
    refine ⟨1, ?_⟩
    rw [DataW.trod_step]
    unfold DataW.trodStep
    simp [Value.cells, Tryz.underlying28]
  · simp [Value.cells] at hcs
    obtain ⟨rfl, rfl, rfl⟩ := hcs
    simp only [Prod.mk.injEq] at hx
    obtain ⟨rfl, rfl⟩ := hx
    simp only [if_true] at hz
    have hlen : ((zs.take len).map fun n => UInt8.ofNat n.toNat).length = len := by simp; omega
    refine ⟨some a, (zs.take len).map fun n => UInt8.ofNat n.toNat, len, cap, rfl, hlen, hl, ?_, fun W' hx sp hsp => ⟨2, ?_⟩⟩
    · intro hne
      have hpos : 0 < len := by
        rcases Nat.eq_zero_or_pos len with h0 | h0
        · subst h0; simp at hne
        · exact h0
      obtain ⟨ab, ao, spot⟩ := a
      have hspot : spot = none := by simpa [Addr.add] using World.cell?_spot (hcell 0 (by omega))
      subst hspot
      refine ⟨ab, ao, rfl, fun j hj => ?_⟩
      have hj' : j < len := by rw [hlen] at hj; exact hj
      have hcj := hcell j (by omega)
      rw [Addr.add_lit] at hcj
      rw [hcj]
      have e : zs.getD j 0 = zs[j]'(by omega) := by simp [List.getD, List.getElem?_eq_getElem (show j < zs.length by omega)]
      have hb := bounds_u8 (hwz _ (List.getElem_mem (show j < zs.length by omega)))
      rw [e]
      simp
      omega
    · refine shut_ints 0 Tryz.underlying28 Tryz.underlying5 cells_u8T (Nat.zero_le _) hl hm ?_ (fun i hi => hx.cell (hcell i hi)) hwz
      by_cases h0 : 0 < zs.length
      · have hs : sp a.block = true := hsp (.cell a.block a.off) (by simp only [MemPlace.row, List.mem_map, List.mem_range]; exact ⟨0, h0, by simp⟩)
        rw [hs, if_pos rfl]
        exact hz
      · have : cap = 0 := by omega
        have : len = 0 := by omega
        split <;> omega
end Go.Proofs.YtdpjkocpdomkbaaGreatDoor
