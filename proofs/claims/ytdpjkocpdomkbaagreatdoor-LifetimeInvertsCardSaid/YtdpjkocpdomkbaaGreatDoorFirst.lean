/- The contract of lifetime.first: the error of the first condition that does not hold. No condition. -/
import Derived.Test.YtdpjkocpdomkbaaGreatDoorRows
import Derived.Test.YtdpjkocpdomkbaaGreatDoorLib
namespace Go.Proofs.YtdpjkocpdomkbaaGreatDoor
open Go.RowKit
set_option maxHeartbeats 400000 in
theorem first1_any (h : Bool) (e : Int) (w : World) :
    Calls Tryz.prog 68 #[.agg #[.bool h, .int .i64 e]] w fun e w' => e = .returned (.bool (!h)) ∧ Ext w w' := by
  go_enter Tryz.func68, Tryz.ntmps68
  go_wp2
  go_ret
  exact ⟨rfl, (Ext.refl _).alloc _⟩
/-- The cells of conditions. -/
def CondCells (w : World) (b off : Nat) (cs : List (Bool × Int)) : Prop :=
  ∀ j (h : j < cs.length), w.cell? ⟨b, off + j * 2, none⟩ = some (.bool cs[j].1) ∧ w.cell? ⟨b, off + j * 2 + 1, none⟩ = some (.int .i64 cs[j].2)
theorem CondCells.ext {w w' : World} {b off : Nat} {cs : List (Bool × Int)} (h : CondCells w b off cs) (e : Ext w w') : CondCells w' b off cs :=
  fun j hj => ⟨e.cell (h j hj).1, e.cell (h j hj).2⟩
/-- The place of the first condition that does not hold, or -1. -/
def IndexCPost (cs : List (Bool × Int)) (w : World) (e : Ending) (w' : World) : Prop := (∃ n : Int, e = .returned (.int .i64 n) ∧ ((n = -1 ∧ ∀ c ∈ cs, c.1 = true) ∨ (∃ k : Nat, n = k ∧ ∃ h : k < cs.length, cs[k].1 = false ∧ ∀ c ∈ cs.take k, c.1 = true))) ∧ Ext w w'
set_option maxHeartbeats 400000 in
theorem indexC_any (b off cap len : Nat) (cs : List (Bool × Int)) (w : World) (hlen : len = cs.length) (hbig : len ≤ 9223372036854775807) (hc : CondCells w b off cs) :
    Calls Tryz.prog 67 #[.slice (some ⟨b, off, none⟩) len cap, .func (.func 68) #[] #[]] w (IndexCPost cs w) := by
  subst hlen
  go_enter Tryz.func67, Tryz.ntmps67
  go_wp2
  go_loopw [8] (fun i wr => ∃ k : Nat, k ≤ cs.length ∧ i = .int .i64 k ∧ (∀ c ∈ cs.take k, c.1 = true) ∧ Ext w wr) (fun i _ => cs.length - (intOf i).toNat)
  case atStart => exact ⟨0, Nat.zero_le _, rfl, by simp, Ext.refl _⟩
  case round =>
    obtain ⟨k, hk, rfl, hn, hx⟩ := hrel
    have Hn := Lib.hid hn
    clear hn
    by_cases hlt : k < cs.length
    · have hcell := ((hc.ext hx) k hlt).1
      have hcell2 := ((hc.ext hx) k hlt).2
      have Hc := Lib.hid hc
      clear hc
      generalize hcb : cs[k].1 = cb at hcell
      have Hb := Lib.hid hcb
      clear hcb
      generalize cs[k].2 = ce at hcell2
      cases cb
      · go_wp2_with (go_at_call 68; refine (first1_any _ _ _).mono ?_; rintro e w' ⟨rfl, hw1⟩)
        go_ret
        exact ⟨⟨_, rfl, .inr ⟨k, rfl, hlt, Hb.out, Hn.out⟩⟩, hx.trans hw1⟩
      · go_wp2_with (go_at_call 68; refine (first1_any _ _ _).mono ?_; rintro e w' ⟨rfl, hw1⟩)
        go_roundw
        case rel =>
          refine ⟨k + 1, by omega, by go_num, ?_, hx.trans hw1⟩
          intro c hcm
          rw [List.take_succ_eq_append_getElem hlt, List.mem_append] at hcm
          rcases hcm with hcm | hcm
          · exact Hn.out c hcm
          · rw [List.mem_singleton] at hcm; subst hcm; exact Hb.out
        case measure => simp [intOf]; omega
    · have hk' : k = cs.length := by omega
      have HK := Lib.hid hk'
      clear hk'
      go_wp2
      go_ret
      refine ⟨⟨_, rfl, .inl ⟨rfl, ?_⟩⟩, hx⟩
      have := Hn.out; rw [HK.out, List.take_length] at this; exact this
/-- The error of the first condition that does not hold, or 0. -/
def firstErr (cs : List (Bool × Int)) : Int := match cs.find? (fun c => !c.1) with | some c => c.2 | none => 0
theorem firstErr_none (cs : List (Bool × Int)) (h : ∀ c ∈ cs, c.1 = true) : firstErr cs = 0 := by
  unfold firstErr
  rw [List.find?_eq_none.2 (fun c hc => by simp [h c hc])]
theorem firstErr_at (cs : List (Bool × Int)) (k : Nat) (hk : k < cs.length) (h0 : cs[k].1 = false) (h : ∀ c ∈ cs.take k, c.1 = true) : firstErr cs = cs[k].2 := by
  unfold firstErr
  have : cs.find? (fun c => !c.1) = some cs[k] := by
    rw [List.find?_eq_some_iff_append]
    refine ⟨by simp [h0], cs.take k, cs.drop (k+1), by simp, fun a ha => by simp [h a ha]⟩
  rw [this]
set_option maxHeartbeats 400000 in
theorem first_any (b off cap len : Nat) (cs : List (Bool × Int)) (w : World) (hlen : len = cs.length) (hbig : len ≤ 9223372036854775807) (hc : CondCells w b off cs) :
    Calls Tryz.prog 41 #[.slice (some ⟨b, off, none⟩) len cap] w fun e w' => e = .returned (.int .i64 (firstErr cs)) ∧ Ext w w' := by
  have Hc := Lib.hid hc
  have Hl := Lib.hid hlen
  clear hc hlen
  go_enter Tryz.func41, Tryz.ntmps41
  go_wp2_with fail
  (go_at_call 67; refine (indexC_any b off cap len cs _ Hl.out hbig Hc.out).mono ?_; rintro e w' ⟨⟨n, rfl, hn⟩, hx⟩)
  rcases hn with ⟨rfl, hn⟩ | ⟨k, rfl, hlt, hb, hn⟩
  · have Hn := Lib.hid hn
    clear hn
    go_wp2
    go_ret
    exact ⟨ret_int (firstErr_none cs Hn.out).symm, hx⟩
  · have Hn := Lib.hid (firstErr_at cs k hlt hb hn)
    clear hn
    have hcell2 := ((Hc.out.ext hx) k hlt).2
    have hl2 : k < len := by rw [Hl.out]; exact hlt
    clear hb
    go_wp2
    go_ret
    exact ⟨ret_int Hn.out.symm, hx⟩
set_option maxHeartbeats 400000 in
/-- 'first' at a block that holds three conditions. -/
theorem first_blk3 (h1 h2 h3 : Bool) (e1 e2 e3 : Int) {b cap : Nat} {T : TypeId} {fr : Nat × Nat} {w : World} (h : w.heap[b]? = some (.cells #[.bool h1, .int .i64 e1, .bool h2, .int .i64 e2, .bool h3, .int .i64 e3] T fr)) :
    Calls Tryz.prog 41 #[.slice (some ⟨b, 0, none⟩) 3 cap] w fun e w' => e = .returned (.int .i64 (firstErr [(h1, e1), (h2, e2), (h3, e3)])) ∧ Ext w w' := by
  refine first_any b 0 cap 3 [(h1, e1), (h2, e2), (h3, e3)] w rfl (by decide) (fun j hj => ?_)
  match j, hj with
  | 0, _ => simp [World.cell?, h]
  | 1, _ => simp [World.cell?, h]
  | 2, _ => simp [World.cell?, h]
set_option maxHeartbeats 400000 in
/-- 'first' at a block that holds two conditions. -/
theorem first_blk2 (h1 h2 : Bool) (e1 e2 : Int) {b cap : Nat} {T : TypeId} {fr : Nat × Nat} {w : World} (h : w.heap[b]? = some (.cells #[.bool h1, .int .i64 e1, .bool h2, .int .i64 e2] T fr)) :
    Calls Tryz.prog 41 #[.slice (some ⟨b, 0, none⟩) 2 cap] w fun e w' => e = .returned (.int .i64 (firstErr [(h1, e1), (h2, e2)])) ∧ Ext w w' := by
  refine first_any b 0 cap 2 [(h1, e1), (h2, e2)] w rfl (by decide) (fun j hj => ?_)
  match j, hj with
  | 0, _ => simp [World.cell?, h]
  | 1, _ => simp [World.cell?, h]
theorem firstErr3 (h1 h2 h3 : Bool) (e1 e2 e3 : Int) : firstErr [(h1, e1), (h2, e2), (h3, e3)] = if h1 = false then e1 else if h2 = false then e2 else if h3 = false then e3 else 0 := by
  cases h1 <;> cases h2 <;> cases h3 <;> rfl
theorem firstErr2 (h1 h2 : Bool) (e1 e2 : Int) : firstErr [(h1, e1), (h2, e2)] = if h1 = false then e1 else if h2 = false then e2 else 0 := by
  cases h1 <;> cases h2 <;> rfl
end Go.Proofs.YtdpjkocpdomkbaaGreatDoor
