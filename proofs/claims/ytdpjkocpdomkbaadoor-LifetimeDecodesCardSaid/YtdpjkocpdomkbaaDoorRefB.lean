/- Contracts of the reference's least, fresh, Initial, Derive, Renew (watchwordref13). Numbers within their ranges where a contract says so. -/
import Derived.Test.YtdpjkocpdomkbaaDoorRefA
namespace Go.Proofs.YtdpjkocpdomkbaaDoor
open Go.RowKit
/-- The least of some numbers. -/
def leastL : List Int → Int
  | [] => 0
  | x :: l => l.foldl (fun o y => if y < o then y else o) x
theorem leastL_2 (a b : Int) : leastL [a, b] = min a b := by
  simp only [leastL, List.foldl]
  repeat' split
  all_goals omega
theorem leastL_3 (a b c : Int) : leastL [a, b, c] = min a (min b c) := by
  simp only [leastL, List.foldl]
  repeat' split
  all_goals omega
theorem leastL_4 (a b c d : Int) : leastL [a, b, c, d] = min a (min b (min c d)) := by
  simp only [leastL, List.foldl]
  repeat' split
  all_goals omega
theorem leastL_take (l : List Int) (k : Nat) (h0 : 0 < k) (hk : k < l.length) : leastL (l.take (k + 1)) = if l[k] < leastL (l.take k) then l[k] else leastL (l.take k) := by
  match l, k, h0, hk with
  | x :: m, k + 1, _, hk =>
    have hk' : k < m.length := by simpa using hk
    simp only [List.take_succ_cons, leastL]
    rw [List.take_succ_eq_append_getElem hk', List.foldl_append]
    rfl
attribute [irreducible] leastL
set_option maxHeartbeats 400000 in
theorem least_any (b off cap len : Nat) (zs : List Int) (w : World) (hlen : len = zs.length) (h0 : 0 < zs.length) (hbig : len ≤ 9223372036854775807) (hc : ∀ j, j < zs.length → w.cell? ⟨b, off + j, none⟩ = some (.int .i64 (zs.getD j 0))) :
    Calls Tryd.prog 43 #[.slice (some ⟨b, off, none⟩) len cap] w fun e w' => e = .returned (.int .i64 (leastL zs)) ∧ w = w' := by
  subst hlen
  have hc0 : w.cell? ⟨b, off, none⟩ = some (.int .i64 (leastL (zs.take 1))) := by
    have := hc 0 h0
    match zs, h0 with
    | x :: l, _ => simpa [leastL] using this
  have Hc := Lib.hid hc
  clear hc
  go_enter Tryd.func43, Tryd.ntmps43
  go_wp2
  go_loop [3, 4] (fun o i => ∃ k : Nat, 1 ≤ k ∧ k ≤ zs.length ∧ i = .int .i64 k ∧ o = .int .i64 (leastL (zs.take k))) (fun _ i => zs.length - (intOf i).toNat)
  case atStart => exact ⟨1, Nat.le_refl _, h0, rfl, rfl⟩
  case round =>
    obtain ⟨k, hk1, hk, rfl, rfl⟩ := hrel
    by_cases hlt : k < zs.length
    · have hcell : w.cell? ⟨b, off + k, none⟩ = some (.int .i64 zs[k]) := by rw [Hc.out k hlt]; simp [hlt]
      have hs := leastL_take zs k (by omega) hlt
      have Hs := Lib.hid hs
      clear hs
      go_wp2
      all_goals
        go_round
        case rel => exact ⟨k + 1, by omega, by omega, by go_num, by rw [Hs.out]; first | rw [if_pos ‹_›] | rw [if_neg (by omega)]⟩
        case measure => simp [intOf]; omega
    · have hk' : k = zs.length := by omega
      have hz : leastL (zs.take k) = leastL zs := by rw [hk', List.take_length]
      have Hn := Lib.hid hz
      clear hz hk'
      go_wp2
      go_ret
      exact ⟨ret_int Hn.out, rfl⟩
theorem least_blk (zs : List Int) {b len cap : Nat} {T : TypeId} {fr : Nat × Nat} {w : World} (h : w.heap[b]? = some (.cells (zs.map (Value.int .i64)).toArray T fr)) (h0 : 0 < zs.length) (hlen : len = zs.length) (hbig : zs.length ≤ 9223372036854775807) :
    Calls Tryd.prog 43 #[.slice (some ⟨b, 0, none⟩) len cap] w fun e w' => e = .returned (.int .i64 (leastL zs)) ∧ w = w' :=
  least_any b 0 cap len zs w hlen h0 (by omega) (fun j hj => by simp [World.cell?, h, hj])
theorem least_blk2 (x0 x1 : Int) {b : Nat} {T : TypeId} {fr : Nat × Nat} {w : World} (h : w.heap[b]? = some (.cells #[.int .i64 x0, .int .i64 x1] T fr)) :
    Calls Tryd.prog 43 #[.slice (some ⟨b, 0, none⟩) 2 2] w fun e w' => e = .returned (.int .i64 (leastL [x0, x1])) ∧ w = w' := least_blk [x0, x1] h (by simp) rfl (by simp)
theorem least_blk3 (x0 x1 x2 : Int) {b : Nat} {T : TypeId} {fr : Nat × Nat} {w : World} (h : w.heap[b]? = some (.cells #[.int .i64 x0, .int .i64 x1, .int .i64 x2] T fr)) :
    Calls Tryd.prog 43 #[.slice (some ⟨b, 0, none⟩) 3 3] w fun e w' => e = .returned (.int .i64 (leastL [x0, x1, x2])) ∧ w = w' := least_blk [x0, x1, x2] h (by simp) rfl (by simp)
theorem least_blk4 (x0 x1 x2 x3 : Int) {b : Nat} {T : TypeId} {fr : Nat × Nat} {w : World} (h : w.heap[b]? = some (.cells #[.int .i64 x0, .int .i64 x1, .int .i64 x2, .int .i64 x3] T fr)) :
    Calls Tryd.prog 43 #[.slice (some ⟨b, 0, none⟩) 4 4] w fun e w' => e = .returned (.int .i64 (leastL [x0, x1, x2, x3])) ∧ w = w' := least_blk [x0, x1, x2, x3] h (by simp) rfl (by simp)
/-- The end of new times. -/
def endR (start till life en : Int) : Int := if till = 0 then min (start + life) (min 1099511627776 en) else min (min (start + life) (min 1099511627776 en)) till
/-- Until when new times can be renewed. -/
def renR (start wish renew longest : Int) : Int := if wish ≠ 0 ∧ renew ≠ 0 ∧ longest ≠ 0 then min wish (min (start + renew) (min 1099511627776 longest)) else 0
/-- The new times and the error: what a wish, limits and the times of a ticket come to from a start on. -/
def freshR (auth start till wish life renew en longest : Int) : (Int × Int × Int × Int) × Int :=
  if endR start till life en ≤ start then ((0, 0, 0, 0), 143) else ((auth, start, endR start till life en, if renR start wish renew longest < endR start till life en then 0 else renR start wish renew longest), 0)
theorem freshR_def (auth start till wish life renew en longest : Int) : freshR auth start till wish life renew en longest =
  if endR start till life en ≤ start then ((0, 0, 0, 0), 143) else ((auth, start, endR start till life en, if renR start wish renew longest < endR start till life en then 0 else renR start wish renew longest), 0) := rfl
attribute [irreducible] freshR
theorem freshR_never {auth start till wish life renew en longest e : Int} (he : e = endR start till life en) (h : e ≤ start) : freshR auth start till wish life renew en longest = ((0, 0, 0, 0), 143) := by
  rw [freshR_def, if_pos (by omega)]
theorem freshR_some {auth start till wish life renew en longest e r : Int} (he : e = endR start till life en) (h : ¬ e ≤ start) (hr : r = if renR start wish renew longest < endR start till life en then 0 else renR start wish renew longest) : freshR auth start till wish life renew en longest = ((auth, start, e, r), 0) := by
  rw [freshR_def, if_neg (by omega), ← he, hr, he]
/-- Times and an error are handed back, in a world that only grew. -/
def TimesPost (x : (Int × Int × Int × Int) × Int) (w : World) (e : Ending) (w' : World) : Prop :=
  ∃ a s t r er : Int, e = .returned (.tuple #[.agg #[.int .i64 a, .int .i64 s, .int .i64 t, .int .i64 r], .int .i64 er]) ∧ Hid (x = ((a, s, t, r), er)) ∧ Ext w w'
set_option maxHeartbeats 3200000 in
theorem fresh_any (auth start till wish life renew en longest : Int) (w : World) (h1 : 0 ≤ start) (h2 : start ≤ 1099511627776) (h3 : 0 ≤ life) (h4 : life ≤ 2147483648) (h5 : 0 ≤ renew) (h6 : renew ≤ 2147483648) :
    Calls Tryd.prog 39 #[.int .i64 auth, .int .i64 start, .int .i64 till, .int .i64 wish, .int .i64 life, .int .i64 renew, .int .i64 en, .int .i64 longest] w (TimesPost (freshR auth start till wish life renew en longest) w) := by
  have Hf := Lib.hid (freshR_def auth start till wish life renew en longest)
  go_enter Tryd.func39, Tryd.ntmps39
  by_cases ht : till = 0
  · have ht1 : ((till : Int) != 0) = false := by simp [ht]
    have Ht := Lib.hid ht
    clear ht
    go_wp2_with (first | (go_at_call 43; (with_reducible refine (least_blk2 _ _ (by first | with_reducible exact heap_new _ _ | with_reducible exact heap_new2 _ _ _ | with_reducible exact heap_new3 _ _ _ _ | with_reducible exact heap_new4 _ _ _ _ _ | with_reducible exact heap_new5 _ _ _ _ _ _ | with_reducible exact heap_new6 _ _ _ _ _ _ _ | with_reducible exact heap_new7 _ _ _ _ _ _ _ _ | with_reducible exact heap_new8 _ _ _ _ _ _ _ _ _ | with_reducible exact heap_new9 _ _ _ _ _ _ _ _ _ _ | with_reducible exact heap_new10 _ _ _ _ _ _ _ _ _ _ _)).mono ?_); rintro e w' ⟨rfl, rfl⟩) | (go_at_call 43; (with_reducible refine (least_blk3 _ _ _ (by first | with_reducible exact heap_new _ _ | with_reducible exact heap_new2 _ _ _ | with_reducible exact heap_new3 _ _ _ _ | with_reducible exact heap_new4 _ _ _ _ _ | with_reducible exact heap_new5 _ _ _ _ _ _ | with_reducible exact heap_new6 _ _ _ _ _ _ _ | with_reducible exact heap_new7 _ _ _ _ _ _ _ _ | with_reducible exact heap_new8 _ _ _ _ _ _ _ _ _ | with_reducible exact heap_new9 _ _ _ _ _ _ _ _ _ _ | with_reducible exact heap_new10 _ _ _ _ _ _ _ _ _ _ _)).mono ?_); rintro e w' ⟨rfl, rfl⟩) | (go_at_call 43; (with_reducible refine (least_blk4 _ _ _ _ (by first | with_reducible exact heap_new _ _ | with_reducible exact heap_new2 _ _ _ | with_reducible exact heap_new3 _ _ _ _ | with_reducible exact heap_new4 _ _ _ _ _ | with_reducible exact heap_new5 _ _ _ _ _ _ | with_reducible exact heap_new6 _ _ _ _ _ _ _ | with_reducible exact heap_new7 _ _ _ _ _ _ _ _ | with_reducible exact heap_new8 _ _ _ _ _ _ _ _ _ | with_reducible exact heap_new9 _ _ _ _ _ _ _ _ _ _ | with_reducible exact heap_new10 _ _ _ _ _ _ _ _ _ _ _)).mono ?_); rintro e w' ⟨rfl, rfl⟩))
    all_goals go_returns
    all_goals
      have H3 := leastL_3 (start + life) 1099511627776 en
      have H4 := leastL_4 wish (start + renew) 1099511627776 longest
      have ht := Ht.out
      have he : leastL [start + life, 1099511627776, en] = endR start till life en := by unfold endR; rw [if_pos ht]; exact H3
      clear ht1
      refine ⟨_, _, _, _, _, rfl, ?_, (by repeat (first | exact Ext.refl _ | assumption | refine Ext.drew ?_ | refine Ext.alloc ?_ _ | refine Ext.setCell ?_ (by first | exact Nat.le_refl _ | (simp; done) | (simp; omega)) _ | refine Ext.trans ?_ (by assumption)))⟩
      try simp only [bne_iff_ne, bne_eq_false_iff_eq, ne_eq] at *
      first | exact freshR_never he (by omega) | exact freshR_some he (by omega) (by unfold renR; repeat (first | omega | split))
  · go_wp2_with (first | (go_at_call 43; (with_reducible refine (least_blk2 _ _ (by first | with_reducible exact heap_new _ _ | with_reducible exact heap_new2 _ _ _ | with_reducible exact heap_new3 _ _ _ _ | with_reducible exact heap_new4 _ _ _ _ _ | with_reducible exact heap_new5 _ _ _ _ _ _ | with_reducible exact heap_new6 _ _ _ _ _ _ _ | with_reducible exact heap_new7 _ _ _ _ _ _ _ _ | with_reducible exact heap_new8 _ _ _ _ _ _ _ _ _ | with_reducible exact heap_new9 _ _ _ _ _ _ _ _ _ _ | with_reducible exact heap_new10 _ _ _ _ _ _ _ _ _ _ _)).mono ?_); rintro e w' ⟨rfl, rfl⟩) | (go_at_call 43; (with_reducible refine (least_blk3 _ _ _ (by first | with_reducible exact heap_new _ _ | with_reducible exact heap_new2 _ _ _ | with_reducible exact heap_new3 _ _ _ _ | with_reducible exact heap_new4 _ _ _ _ _ | with_reducible exact heap_new5 _ _ _ _ _ _ | with_reducible exact heap_new6 _ _ _ _ _ _ _ | with_reducible exact heap_new7 _ _ _ _ _ _ _ _ | with_reducible exact heap_new8 _ _ _ _ _ _ _ _ _ | with_reducible exact heap_new9 _ _ _ _ _ _ _ _ _ _ | with_reducible exact heap_new10 _ _ _ _ _ _ _ _ _ _ _)).mono ?_); rintro e w' ⟨rfl, rfl⟩) | (go_at_call 43; (with_reducible refine (least_blk4 _ _ _ _ (by first | with_reducible exact heap_new _ _ | with_reducible exact heap_new2 _ _ _ | with_reducible exact heap_new3 _ _ _ _ | with_reducible exact heap_new4 _ _ _ _ _ | with_reducible exact heap_new5 _ _ _ _ _ _ | with_reducible exact heap_new6 _ _ _ _ _ _ _ | with_reducible exact heap_new7 _ _ _ _ _ _ _ _ | with_reducible exact heap_new8 _ _ _ _ _ _ _ _ _ | with_reducible exact heap_new9 _ _ _ _ _ _ _ _ _ _ | with_reducible exact heap_new10 _ _ _ _ _ _ _ _ _ _ _)).mono ?_); rintro e w' ⟨rfl, rfl⟩))
    all_goals go_returns
    all_goals
      have H3 := leastL_3 (start + life) 1099511627776 en
      have H2 := leastL_2 (leastL [start + life, 1099511627776, en]) till
      have H4 := leastL_4 wish (start + renew) 1099511627776 longest
      have he : leastL [leastL [start + life, 1099511627776, en], till] = endR start till life en := by unfold endR; rw [if_neg ht, H2, H3]
      refine ⟨_, _, _, _, _, rfl, ?_, (by repeat (first | exact Ext.refl _ | assumption | refine Ext.drew ?_ | refine Ext.alloc ?_ _ | refine Ext.setCell ?_ (by first | exact Nat.le_refl _ | (simp; done) | (simp; omega)) _ | refine Ext.trans ?_ (by assumption)))⟩
      try simp only [bne_iff_ne, bne_eq_false_iff_eq, ne_eq] at *
      first | exact freshR_never he (by omega) | exact freshR_some he (by omega) (by unfold renR; repeat (first | omega | split))
end Go.Proofs.YtdpjkocpdomkbaaDoor
