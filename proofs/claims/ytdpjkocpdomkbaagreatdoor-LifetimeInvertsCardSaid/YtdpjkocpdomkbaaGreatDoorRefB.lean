/- Contracts of the reference's least, fresh, Initial, Derive, Renew (watchwordref13). Numbers within their ranges where a contract says so. -/
import Derived.Test.YtdpjkocpdomkbaaGreatDoorRefA
namespace Go.Proofs.YtdpjkocpdomkbaaGreatDoor
open Go.RowKit
/-- The least of some numbers. -/
def leastL : List Int → Int
  | [] => 0
  | x :: l => l.foldl (fun o y => if y < o then y else o) x
theorem leastL_2 (a b : Int) : leastL [a, b] = min a b := by
  simp only [leastL, List.foldl]
  repeat' split
  all_goals omega
theorem leastL_3 (a b c : Int) : leastL [a, b, c] = min a (min b c) := by
  simp only [leastL, List.foldl]
  repeat' split
  all_goals omega
theorem leastL_4 (a b c d : Int) : leastL [a, b, c, d] = min a (min b (min c d)) := by
  simp only [leastL, List.foldl]
  repeat' split
  all_goals omega
theorem leastL_take (l : List Int) (k : Nat) (h0 : 0 < k) (hk : k < l.length) : leastL (l.take (k + 1)) = if l[k] < leastL (l.take k) then l[k] else leastL (l.take k) := by
  match l, k, h0, hk with
  | x :: m, k + 1, _, hk =>
    have hk' : k < m.length := by simpa using hk
    simp only [List.take_succ_cons, leastL]
    rw [List.take_succ_eq_append_getElem hk', List.foldl_append]
    rfl
attribute [irreducible] leastL
/-- The end of new times. -/
def endR (start till life en : Int) : Int := if till = 0 then min (start + life) (min 1099511627776 en) else min (min (start + life) (min 1099511627776 en)) till
/-- Until when new times can be renewed. -/
def renR (start wish renew longest : Int) : Int := if wish ≠ 0 ∧ renew ≠ 0 ∧ longest ≠ 0 then min wish (min (start + renew) (min 1099511627776 longest)) else 0
/-- The new times and the error: what a wish, limits and the times of a ticket come to from a start on. -/
def freshR (auth start till wish life renew en longest : Int) : (Int × Int × Int × Int) × Int :=
  if endR start till life en ≤ start then ((0, 0, 0, 0), 143) else ((auth, start, endR start till life en, if renR start wish renew longest < endR start till life en then 0 else renR start wish renew longest), 0)
theorem freshR_def (auth start till wish life renew en longest : Int) : freshR auth start till wish life renew en longest =
  if endR start till life en ≤ start then ((0, 0, 0, 0), 143) else ((auth, start, endR start till life en, if renR start wish renew longest < endR start till life en then 0 else renR start wish renew longest), 0) := rfl
attribute [irreducible] freshR
theorem freshR_never {auth start till wish life renew en longest e : Int} (he : e = endR start till life en) (h : e ≤ start) : freshR auth start till wish life renew en longest = ((0, 0, 0, 0), 143) := by
  rw [freshR_def, if_pos (by omega)]
theorem freshR_some {auth start till wish life renew en longest e r : Int} (he : e = endR start till life en) (h : ¬ e ≤ start) (hr : r = if renR start wish renew longest < endR start till life en then 0 else renR start wish renew longest) : freshR auth start till wish life renew en longest = ((auth, start, e, r), 0) := by
  rw [freshR_def, if_neg (by omega), ← he, hr, he]
/-- Times and an error are handed back, in a world that only grew. -/
def TimesPost (x : (Int × Int × Int × Int) × Int) (w : World) (e : Ending) (w' : World) : Prop :=
  ∃ a s t r er : Int, e = .returned (.tuple #[.agg #[.int .i64 a, .int .i64 s, .int .i64 t, .int .i64 r], .int .i64 er]) ∧ Hid (x = ((a, s, t, r), er)) ∧ Ext w w'
end Go.Proofs.YtdpjkocpdomkbaaGreatDoor
