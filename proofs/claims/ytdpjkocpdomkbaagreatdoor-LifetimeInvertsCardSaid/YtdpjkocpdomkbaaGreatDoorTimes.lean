/- Contracts of the small tests of package lifetime: numbers that are times, ranges. No condition. -/
import Derived.Test.YtdpjkocpdomkbaaGreatDoorRows
import Derived.Test.YtdpjkocpdomkbaaGreatDoorLib
namespace Go.Proofs.YtdpjkocpdomkbaaGreatDoor
open Go.RowKit
def badT (v : Int) : Bool := decide (v < 0) || decide (1099511627776 < v)
theorem badT_def (v : Int) : badT v = (decide (v < 0) || decide (1099511627776 < v)) := rfl
attribute [irreducible] badT
theorem any_take_succ (p : Int → Bool) (zs : List Int) (k : Nat) (hlt : k < zs.length) : (zs.take (k+1)).any p = ((zs.take k).any p || p zs[k]) := by
  rw [List.take_succ_eq_append_getElem hlt, List.any_append]; simp only [List.any_cons, List.any_nil, Bool.or_false]
set_option maxHeartbeats 400000 in
theorem between_any (v lo hi : Int) (w : World) :
    Calls Tryz.prog 39 #[.int .i64 v, .int .i64 lo, .int .i64 hi] w fun e w' => e = .returned (.bool (decide (lo ≤ v) && decide (v ≤ hi))) ∧ w = w' := by
  go_enter Tryz.func39, Tryz.ntmps39
  go_wp2
  all_goals go_ret
  all_goals exact ⟨by simp [*]; try omega, rfl⟩
set_option maxHeartbeats 400000 in
theorem times1_any (v : Int) (w : World) :
    Calls Tryz.prog 56 #[.int .i64 v] w fun e w' => e = .returned (.bool (badT v)) ∧ w = w' := by
  go_enter Tryz.func56, Tryz.ntmps56
  go_wp2
  all_goals go_ret
  all_goals exact ⟨by simp [badT_def, *], rfl⟩
def IndexPost (zs : List Int) (w : World) (e : Ending) (w' : World) : Prop := (∃ n : Int, e = .returned (.int .i64 n) ∧ (decide (n ≥ 0)) = zs.any badT) ∧ w = w'
set_option maxHeartbeats 400000 in
theorem index_any (b off cap len : Nat) (zs : List Int) (w : World) (hlen : len = zs.length) (hbig : len ≤ 9223372036854775807) (hc : ∀ j, j < zs.length → w.cell? ⟨b, off + j, none⟩ = some (.int .i64 (zs.getD j 0))) :
    Calls Tryz.prog 81 #[.slice (some ⟨b, off, none⟩) len cap, .func (.func 56) #[] #[]] w (IndexPost zs w) := by
  subst hlen
  go_enter Tryz.func81, Tryz.ntmps81
  go_wp2
  go_loop [8] (fun i => ∃ k : Nat, k ≤ zs.length ∧ i = .int .i64 k ∧ (zs.take k).any badT = false) (fun i => zs.length - (intOf i).toNat)
  case atStart => exact ⟨0, Nat.zero_le _, rfl, rfl⟩
  case round =>
    obtain ⟨k, hk, rfl, hn⟩ := hrel
    by_cases hlt : k < zs.length
    · have hcell : w.cell? ⟨b, off + k, none⟩ = some (.int .i64 zs[k]) := by rw [hc k hlt]; simp [hlt]
      have hs := any_take_succ badT zs k hlt
      rw [hn, Bool.false_or] at hs
      have Hn := Lib.hid hn
      have Hs := Lib.hid hs
      clear hn hs
      cases hb : badT zs[k]
      · go_wp2_with (go_at_call 56; refine (times1_any _ _).mono ?_; rintro e w' ⟨rfl, rfl⟩)
        go_round
        case rel => exact ⟨k + 1, by omega, by go_num, Hs.out.trans hb⟩
        case measure => simp [intOf]; omega
      · go_wp2_with (go_at_call 56; refine (times1_any _ _).mono ?_; rintro e w' ⟨rfl, rfl⟩)
        go_ret
        refine ⟨⟨_, rfl, ?_⟩, rfl⟩
        have h1 : (zs.take (k+1)).any badT = true := Hs.out.trans hb
        rw [decide_eq_true (by omega)]
        symm; rw [List.any_eq_true] at h1 ⊢
        obtain ⟨x, hx, hp⟩ := h1
        exact ⟨x, List.mem_of_mem_take hx, hp⟩
    · have hk' : k = zs.length := by omega
      rw [hk', List.take_length] at hn
      have Hn := Lib.hid hn
      clear hn hk'
      go_wp2
      go_ret
      refine ⟨⟨_, rfl, ?_⟩, rfl⟩
      rw [Hn.out]; rfl
set_option maxHeartbeats 400000 in
theorem contains_any (b off cap len : Nat) (zs : List Int) (w : World) (hlen : len = zs.length) (hbig : len ≤ 9223372036854775807) (hc : ∀ j, j < zs.length → w.cell? ⟨b, off + j, none⟩ = some (.int .i64 (zs.getD j 0))) :
    Calls Tryz.prog 55 #[.slice (some ⟨b, off, none⟩) len cap, .func (.func 56) #[] #[]] w fun e w' => e = .returned (.bool (zs.any badT)) ∧ w = w' := by
  have Hc := Lib.hid hc
  have Hl := Lib.hid hlen
  clear hc hlen
  go_enter Tryz.func55, Tryz.ntmps55
  go_wp2_with (go_at_call 81; refine (index_any b off cap len zs _ Hl.out hbig Hc.out).mono ?_; rintro e w' ⟨⟨n, rfl, hn⟩, rfl⟩)
  go_ret
  exact ⟨by simp, rfl⟩
set_option maxHeartbeats 400000 in
/-- 'times': are all the numbers times? -/
theorem times_any (b off cap len : Nat) (zs : List Int) (w : World) (hlen : len = zs.length) (hbig : len ≤ 9223372036854775807) (hc : ∀ j, j < zs.length → w.cell? ⟨b, off + j, none⟩ = some (.int .i64 (zs.getD j 0))) :
    Calls Tryz.prog 33 #[.slice (some ⟨b, off, none⟩) len cap] w fun e w' => e = .returned (.bool (!zs.any badT)) ∧ w = w' := by
  have Hc := Lib.hid hc
  have Hl := Lib.hid hlen
  clear hc hlen
  go_enter Tryz.func33, Tryz.ntmps33
  go_wp2_with (go_at_call 55; refine (contains_any b off cap len zs _ Hl.out hbig Hc.out).mono ?_; rintro e w' ⟨rfl, rfl⟩)
  go_ret
  exact ⟨by simp, rfl⟩
/-- Are all the numbers times? -/
def okTimes (zs : List Int) : Bool := !zs.any badT
theorem okTimes_def (zs : List Int) : okTimes zs = !zs.any badT := rfl
attribute [irreducible] okTimes
set_option maxHeartbeats 400000 in
/-- 'times' at a block that holds the numbers. -/
theorem times_blk (zs : List Int) {b len cap : Nat} {T : TypeId} {fr : Nat × Nat} {w : World} (h : w.heap[b]? = some (.cells (zs.map (Value.int .i64)).toArray T fr)) (hlen : len = zs.length) (hbig : zs.length ≤ 9223372036854775807) :
    Calls Tryz.prog 33 #[.slice (some ⟨b, 0, none⟩) len cap] w fun e w' => e = .returned (.bool (okTimes zs)) ∧ w = w' := by
  rw [okTimes_def]
  exact times_any b 0 cap len zs w hlen (by omega) (fun j hj => by simp [World.cell?, h, hj])
theorem times_blk1 (x0 : Int) {b : Nat} {T : TypeId} {fr : Nat × Nat} {w : World} (h : w.heap[b]? = some (.cells #[.int .i64 x0] T fr)) :
    Calls Tryz.prog 33 #[.slice (some ⟨b, 0, none⟩) 1 1] w fun e w' => e = .returned (.bool (okTimes [x0])) ∧ w = w' := times_blk [x0] h rfl (by simp)
theorem times_blk2 (x0 x1 : Int) {b : Nat} {T : TypeId} {fr : Nat × Nat} {w : World} (h : w.heap[b]? = some (.cells #[.int .i64 x0, .int .i64 x1] T fr)) :
    Calls Tryz.prog 33 #[.slice (some ⟨b, 0, none⟩) 2 2] w fun e w' => e = .returned (.bool (okTimes [x0, x1])) ∧ w = w' := times_blk [x0, x1] h rfl (by simp)
theorem times_blk3 (x0 x1 x2 : Int) {b : Nat} {T : TypeId} {fr : Nat × Nat} {w : World} (h : w.heap[b]? = some (.cells #[.int .i64 x0, .int .i64 x1, .int .i64 x2] T fr)) :
    Calls Tryz.prog 33 #[.slice (some ⟨b, 0, none⟩) 3 3] w fun e w' => e = .returned (.bool (okTimes [x0, x1, x2])) ∧ w = w' := times_blk [x0, x1, x2] h rfl (by simp)
theorem times_blk4 (x0 x1 x2 x3 : Int) {b : Nat} {T : TypeId} {fr : Nat × Nat} {w : World} (h : w.heap[b]? = some (.cells #[.int .i64 x0, .int .i64 x1, .int .i64 x2, .int .i64 x3] T fr)) :
    Calls Tryz.prog 33 #[.slice (some ⟨b, 0, none⟩) 4 4] w fun e w' => e = .returned (.bool (okTimes [x0, x1, x2, x3])) ∧ w = w' := times_blk [x0, x1, x2, x3] h rfl (by simp)
end Go.Proofs.YtdpjkocpdomkbaaGreatDoor
