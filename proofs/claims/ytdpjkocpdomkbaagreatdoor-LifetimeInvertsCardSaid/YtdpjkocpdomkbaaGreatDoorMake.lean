/- Contracts of lifetime's grant.make and its four rules. Numbers within their ranges. -/
import Derived.Test.YtdpjkocpdomkbaaGreatDoorRefB
namespace Go.Proofs.YtdpjkocpdomkbaaGreatDoor
open Go.RowKit
theorem setCell_same (w : World) (p : Addr) (v : Value) (h : w.cell? p = some v) : w.setCell p v = w := by
  have hh : (w.setCell p v).heap = w.heap := by
    unfold World.setCell
    apply Array.ext
    · simp
    · intro i h1 h2
      simp only [Array.getElem_modify]
      split
      · rename_i hi
        subst hi
        unfold World.cell? at h
        rw [Array.getElem?_eq_getElem h2] at h
        generalize w.heap[p.block] = o at *
        cases o with
        | cells c elem frozen =>
          simp only at h ⊢
          by_cases hs : p.spot.isSome = true
          · simp [hs]
          · simp only [hs, Bool.false_eq_true, if_false] at h ⊢
            congr 1
            apply Array.ext
            · simp
            · intro j g1 g2
              rw [Array.getElem_setIfInBounds g2]
              split
              · rename_i hj; subst hj; rw [Array.getElem?_eq_getElem g2] at h; injection h with h; exact h.symm
              · rfl
        | _ => rfl
      · rfl
  have e : w.setCell p v = { (w.setCell p v) with heap := (w.setCell p v).heap } := rfl
  rw [e, hh]
  rfl
def min4 (x y z u : Int) : Int := min x (min y (min z u))
theorem min4_def (x y z u : Int) : min4 x y z u = min x (min y (min z u)) := rfl
attribute [irreducible] min4
theorem run_min4 {P : Program} (ts : Array TypeId) (t : TypeId) (k k' k'' k3 : IntKind) (x y z u : Int) (w : World) : (Builtin.min_ ts t #[.int k x, .int k' y, .int k'' z, .int k3 u]).run P w = .ok (.int k (min4 x y z u)) w := by
  have h : (if u < (if z < (if y < x then y else x) then z else (if y < x then y else x)) then u else (if z < (if y < x then y else x) then z else (if y < x then y else x))) = min4 x y z u := by
    rw [min4_def]
    (repeat' split) <;> omega
  simp [Builtin.min_, Builtin.min2, h]
/-- The call hands nothing back and has set one number. -/
def SetTo (w : World) (p : Addr) (v : Int) (e : Ending) (w' : World) : Prop := e = .returned (.tuple #[]) ∧ w' = w.setCell p (.int .i64 v)
theorem setTo_of {w : World} {p : Addr} {u v : Int} (h : u = v) : SetTo w p v (.returned (.tuple #[])) (w.setCell p (.int .i64 u)) := by
  subst h; exact ⟨rfl, rfl⟩
theorem setTo_id {w : World} {p : Addr} {u v : Int} (hc : w.cell? p = some (.int .i64 u)) (h : u = v) : SetTo w p v (.returned (.tuple #[])) w := by
  subst h; exact ⟨rfl, (setCell_same w p _ hc).symm⟩
def rule1V (st life en : Int) : Int := min (st + life) (min 1099511627776 en)
theorem rule1V_def (st life en : Int) : rule1V st life en = min (st + life) (min 1099511627776 en) := rfl
def rule2V (x till : Int) : Int := if till = 0 then x else min x till
theorem rule2V_def (x till : Int) : rule2V x till = if till = 0 then x else min x till := rfl
def rule3V (st wish renew longest : Int) : Int := if wish ≠ 0 ∧ renew ≠ 0 then min wish (min (st + renew) (min 1099511627776 longest)) else 0
theorem rule3V_def (st wish renew longest : Int) : rule3V st wish renew longest = if wish ≠ 0 ∧ renew ≠ 0 then min wish (min (st + renew) (min 1099511627776 longest)) else 0 := rfl
def rule4V (x en : Int) : Int := if x < en then 0 else x
theorem rule4V_def (x en : Int) : rule4V x en = if x < en then 0 else x := rfl
attribute [irreducible] rule1V rule2V rule3V rule4V
set_option maxHeartbeats 800000 in
theorem rule1_any (bt bg : Nat) (st life en : Int) (x : Value) (w : World) (h1 : 0 ≤ st) (h2 : st ≤ 1099511627776) (h3 : 0 ≤ life) (h4 : life ≤ 2147483648)
    (ct : w.cell? ⟨bt, 1, none⟩ = some (.int .i64 st)) (cg : w.cell? ⟨bg, 3, none⟩ = some (.int .i64 life)) (ce : w.cell? ⟨bg, 7, none⟩ = some (.int .i64 en)) (cx : w.cell? ⟨bt, 2, none⟩ = some x) (fx : w.frozen? ⟨bt, 2, none⟩ = false) :
    Calls Tryz.prog 63 #[.pointer (some ⟨bt, 0, none⟩), .pointer (some ⟨bg, 0, none⟩)] w (SetTo w ⟨bt, 2, none⟩ (rule1V st life en)) := by
  have HV := Lib.hid (rule1V_def st life en)
  go_enter Tryz.func63, Tryz.ntmps63
  go_wp2
  all_goals go_end0
  all_goals exact setTo_of (by rw [HV.out]; omega)
set_option maxHeartbeats 800000 in
theorem rule2_any (bt bg : Nat) (x till : Int) (w : World)
    (cx : w.cell? ⟨bt, 2, none⟩ = some (.int .i64 x)) (cg : w.cell? ⟨bg, 1, none⟩ = some (.int .i64 till)) (fx : w.frozen? ⟨bt, 2, none⟩ = false) :
    Calls Tryz.prog 64 #[.pointer (some ⟨bg, 0, none⟩), .pointer (some ⟨bt, 0, none⟩)] w (SetTo w ⟨bt, 2, none⟩ (rule2V x till)) := by
  have HV := Lib.hid (rule2V_def x till)
  have hc := Lib.hid cx
  go_enter Tryz.func64, Tryz.ntmps64
  by_cases ht : till = 0
  · have ht1 : ((till : Int) != 0) = false := by simp [ht]
    have Ht := Lib.hid ht
    clear ht
    go_wp2
    go_end0
    exact setTo_id hc.out (by rw [HV.out, if_pos Ht.out])
  · go_wp2
    all_goals go_end0
    all_goals exact setTo_of (by rw [HV.out, if_neg ht]; omega)
set_option maxHeartbeats 1600000 in
theorem rule3_any (bt bg : Nat) (st wish renew longest : Int) (w : World) (h1 : 0 ≤ st) (h2 : st ≤ 1099511627776) (h3 : 0 ≤ renew) (h4 : renew ≤ 2147483648)
    (ct : w.cell? ⟨bt, 1, none⟩ = some (.int .i64 st)) (cw : w.cell? ⟨bg, 2, none⟩ = some (.int .i64 wish)) (cr : w.cell? ⟨bg, 4, none⟩ = some (.int .i64 renew)) (cl : w.cell? ⟨bg, 8, none⟩ = some (.int .i64 longest)) (cx : w.cell? ⟨bt, 3, none⟩ = some (.int .i64 0)) (fx : w.frozen? ⟨bt, 3, none⟩ = false) :
    Calls Tryz.prog 65 #[.pointer (some ⟨bg, 0, none⟩), .pointer (some ⟨bt, 0, none⟩)] w (SetTo w ⟨bt, 3, none⟩ (rule3V st wish renew longest)) := by
  have HV := Lib.hid (rule3V_def st wish renew longest)
  have hm4 := @run_min4 Tryz.prog
  have hc := Lib.hid cx
  go_enter Tryz.func65, Tryz.ntmps65
  by_cases hw : wish = 0
  · have hw1 : ((wish : Int) != 0) = false := by simp [hw]
    have Ht := Lib.hid hw
    clear hw
    go_wp2
    all_goals go_end0
    all_goals exact setTo_id hc.out (by rw [HV.out, if_neg (fun h => h.1 Ht.out)])
  · by_cases hr : renew = 0
    · have hw1 : ((renew : Int) != 0) = false := by simp [hr]
      have Ht := Lib.hid hr
      clear hr
      go_wp2
      all_goals go_end0
      all_goals exact setTo_id hc.out (by rw [HV.out, if_neg (fun h => h.2 Ht.out)])
    · have hw1 : ((wish : Int) != 0) = true := by simp [hw]
      have hr1 : ((renew : Int) != 0) = true := by simp [hr]
      go_wp2
      all_goals go_end0
      all_goals exact setTo_of (by rw [HV.out, if_pos ⟨hw, hr⟩, min4_def])
set_option maxHeartbeats 800000 in
theorem rule4_any (bt : Nat) (en x : Int) (w : World)
    (ce : w.cell? ⟨bt, 2, none⟩ = some (.int .i64 en)) (cx : w.cell? ⟨bt, 3, none⟩ = some (.int .i64 x)) (fx : w.frozen? ⟨bt, 3, none⟩ = false) :
    Calls Tryz.prog 66 #[.pointer (some ⟨bt, 0, none⟩)] w (SetTo w ⟨bt, 3, none⟩ (rule4V x en)) := by
  have HV := Lib.hid (rule4V_def x en)
  have hc := Lib.hid cx
  go_enter Tryz.func66, Tryz.ntmps66
  by_cases ht : x < en
  · go_wp2
    all_goals go_end0
    all_goals exact setTo_of (by rw [HV.out, if_pos ht])
  · go_wp2
    all_goals go_end0
    all_goals exact setTo_id hc.out (by rw [HV.out, if_neg (by omega)])
theorem fresh_rules_never {ba st till wish life renew be br : Int} (h : rule2V (rule1V st life be) till ≤ st) : freshR ba st till wish life renew be br = ((0, 0, 0, 0), 143) := by
  refine freshR_never (e := rule2V (rule1V st life be) till) ?_ h
  rw [rule2V_def, rule1V_def]; unfold endR; rfl
theorem rule3V_eq {st wish renew br : Int} (h1 : 0 ≤ st) (h2 : 0 ≤ renew) (h3 : 0 ≤ wish) : rule3V st wish renew br = renR st wish renew br := by
  rw [rule3V_def]; unfold renR
  by_cases h4 : wish ≠ 0 ∧ renew ≠ 0
  · by_cases h5 : br = 0
    · rw [if_pos h4, if_neg (fun g : wish ≠ 0 ∧ renew ≠ 0 ∧ br ≠ 0 => g.2.2 h5)]
      omega
    · rw [if_pos h4, if_pos (⟨h4.1, h4.2, h5⟩ : wish ≠ 0 ∧ renew ≠ 0 ∧ br ≠ 0)]
  · rw [if_neg h4, if_neg (fun g : wish ≠ 0 ∧ renew ≠ 0 ∧ br ≠ 0 => h4 ⟨g.1, g.2.1⟩)]
theorem fresh_rules_some {ba st till wish life renew be br : Int} (h1 : 0 ≤ st) (h2 : 0 ≤ renew) (h3 : 0 ≤ wish) (h : ¬ rule2V (rule1V st life be) till ≤ st) : freshR ba st till wish life renew be br = ((ba, st, rule2V (rule1V st life be) till, rule4V (rule3V st wish renew br) (rule2V (rule1V st life be) till)), 0) := by
  have he : rule2V (rule1V st life be) till = endR st till life be := by rw [rule2V_def, rule1V_def]; unfold endR; rfl
  refine freshR_some he h ?_
  rw [rule4V_def, he, rule3V_eq h1 h2 h3]
set_option maxHeartbeats 6400000 in
set_option maxRecDepth 4000 in
theorem make_any (f till wish life renew ba bs be br now k : Int) (w : World) (h1 : 0 ≤ now) (h2 : now ≤ 1099511627776) (h3 : 0 ≤ life) (h4 : life ≤ 2147483648) (h5 : 0 ≤ renew) (h6 : renew ≤ 2147483648) (h7 : 0 ≤ k) (h8 : k ≤ 86400) (h9 : 0 ≤ f) (h10 : f ≤ 1099511627776) (h11 : 0 ≤ ba) (h12 : ba ≤ 1099511627776) (h13 : 0 ≤ wish) :
    Calls Tryz.prog 40 #[.agg #[.int .i64 f, .int .i64 till, .int .i64 wish, .int .i64 life, .int .i64 renew, .int .i64 ba, .int .i64 bs, .int .i64 be, .int .i64 br, .int .i64 now, .int .i64 k]] w (TimesPost (freshR ba (if now + k < f then f else max now ba) till wish life renew be br) w) := by
  generalize hX : freshR ba (if now + k < f then f else max now ba) till wish life renew be br = X
  have HX := Lib.hid hX
  clear hX
  go_enter Tryz.func40, Tryz.ntmps40
  by_cases hb : now < ba
  · by_cases hl : now + k < f
    · skip
      go_wp2_with fail
      refine wp_loop_rounds 5 ?_
      rw [rounds_succ]
      go_wp2_with (go_at_call 63; (with_reducible refine (rule1_any _ _ (f) life be (.int .i64 0) _ h9 h10 h3 h4 (by simp [go_sem]) (by simp [go_sem]) (by simp [go_sem]) (by simp [go_sem]) (by simp [go_sem])).mono ?_); rintro e w' ⟨rfl, rfl⟩)
      rw [rounds_succ]
      go_wp2_with (go_at_call 64; (with_reducible refine (rule2_any _ _ (rule1V (f) life be) till _ (by simp [go_sem]) (by simp [go_sem]) (by simp [go_sem])).mono ?_); rintro e w' ⟨rfl, rfl⟩)
      rw [rounds_succ]
      go_wp2_with (go_at_call 65; (with_reducible refine (rule3_any _ _ (f) wish renew br _ h9 h10 h5 h6 (by simp [go_sem]) (by simp [go_sem]) (by simp [go_sem]) (by simp [go_sem]) (by simp [go_sem]) (by simp [go_sem])).mono ?_); rintro e w' ⟨rfl, rfl⟩)
      rw [rounds_succ]
      go_wp2_with (go_at_call 66; (with_reducible refine (rule4_any _ (rule2V (rule1V (f) life be) till) (rule3V (f) wish renew br) _ (by simp [go_sem]) (by simp [go_sem]) (by simp [go_sem])).mono ?_); rintro e w' ⟨rfl, rfl⟩)
      rw [rounds_succ]
      go_wp2_with fail
      all_goals go_returns
      all_goals refine ⟨_, _, _, _, _, rfl, HX.out.symm.trans ?_, (by repeat (first | exact Ext.refl _ | assumption | refine Ext.drew ?_ | refine Ext.alloc ?_ _ | refine Ext.setCell ?_ (by first | exact Nat.le_refl _ | (simp; done) | (simp; omega)) _ | refine Ext.trans ?_ (by assumption)))⟩
      all_goals
        rw [show (if now + k < f then f else max now ba) = f from if_pos (by omega)]
        first
        | exact fresh_rules_never (by assumption)
        | exact fresh_rules_some h9 h5 h13 (by omega)
    · skip
      go_wp2_with fail
      refine wp_loop_rounds 5 ?_
      rw [rounds_succ]
      go_wp2_with (go_at_call 63; (with_reducible refine (rule1_any _ _ (ba) life be (.int .i64 0) _ h11 h12 h3 h4 (by simp [go_sem]) (by simp [go_sem]) (by simp [go_sem]) (by simp [go_sem]) (by simp [go_sem])).mono ?_); rintro e w' ⟨rfl, rfl⟩)
      rw [rounds_succ]
      go_wp2_with (go_at_call 64; (with_reducible refine (rule2_any _ _ (rule1V (ba) life be) till _ (by simp [go_sem]) (by simp [go_sem]) (by simp [go_sem])).mono ?_); rintro e w' ⟨rfl, rfl⟩)
      rw [rounds_succ]
      go_wp2_with (go_at_call 65; (with_reducible refine (rule3_any _ _ (ba) wish renew br _ h11 h12 h5 h6 (by simp [go_sem]) (by simp [go_sem]) (by simp [go_sem]) (by simp [go_sem]) (by simp [go_sem]) (by simp [go_sem])).mono ?_); rintro e w' ⟨rfl, rfl⟩)
      rw [rounds_succ]
      go_wp2_with (go_at_call 66; (with_reducible refine (rule4_any _ (rule2V (rule1V (ba) life be) till) (rule3V (ba) wish renew br) _ (by simp [go_sem]) (by simp [go_sem]) (by simp [go_sem])).mono ?_); rintro e w' ⟨rfl, rfl⟩)
      rw [rounds_succ]
      go_wp2_with fail
      all_goals go_returns
      all_goals refine ⟨_, _, _, _, _, rfl, HX.out.symm.trans ?_, (by repeat (first | exact Ext.refl _ | assumption | refine Ext.drew ?_ | refine Ext.alloc ?_ _ | refine Ext.setCell ?_ (by first | exact Nat.le_refl _ | (simp; done) | (simp; omega)) _ | refine Ext.trans ?_ (by assumption)))⟩
      all_goals
        rw [show (if now + k < f then f else max now ba) = ba from by rw [if_neg (by omega)]; omega]
        first
        | exact fresh_rules_never (by assumption)
        | exact fresh_rules_some h11 h5 h13 (by omega)
  · by_cases hl : now + k < f
    · skip
      go_wp2_with fail
      refine wp_loop_rounds 5 ?_
      rw [rounds_succ]
      go_wp2_with (go_at_call 63; (with_reducible refine (rule1_any _ _ (f) life be (.int .i64 0) _ h9 h10 h3 h4 (by simp [go_sem]) (by simp [go_sem]) (by simp [go_sem]) (by simp [go_sem]) (by simp [go_sem])).mono ?_); rintro e w' ⟨rfl, rfl⟩)
      rw [rounds_succ]
      go_wp2_with (go_at_call 64; (with_reducible refine (rule2_any _ _ (rule1V (f) life be) till _ (by simp [go_sem]) (by simp [go_sem]) (by simp [go_sem])).mono ?_); rintro e w' ⟨rfl, rfl⟩)
      rw [rounds_succ]
      go_wp2_with (go_at_call 65; (with_reducible refine (rule3_any _ _ (f) wish renew br _ h9 h10 h5 h6 (by simp [go_sem]) (by simp [go_sem]) (by simp [go_sem]) (by simp [go_sem]) (by simp [go_sem]) (by simp [go_sem])).mono ?_); rintro e w' ⟨rfl, rfl⟩)
      rw [rounds_succ]
      go_wp2_with (go_at_call 66; (with_reducible refine (rule4_any _ (rule2V (rule1V (f) life be) till) (rule3V (f) wish renew br) _ (by simp [go_sem]) (by simp [go_sem]) (by simp [go_sem])).mono ?_); rintro e w' ⟨rfl, rfl⟩)
      rw [rounds_succ]
      go_wp2_with fail
      all_goals go_returns
      all_goals refine ⟨_, _, _, _, _, rfl, HX.out.symm.trans ?_, (by repeat (first | exact Ext.refl _ | assumption | refine Ext.drew ?_ | refine Ext.alloc ?_ _ | refine Ext.setCell ?_ (by first | exact Nat.le_refl _ | (simp; done) | (simp; omega)) _ | refine Ext.trans ?_ (by assumption)))⟩
      all_goals
        rw [show (if now + k < f then f else max now ba) = f from if_pos (by omega)]
        first
        | exact fresh_rules_never (by assumption)
        | exact fresh_rules_some h9 h5 h13 (by omega)
    · skip
      go_wp2_with fail
      refine wp_loop_rounds 5 ?_
      rw [rounds_succ]
      go_wp2_with (go_at_call 63; (with_reducible refine (rule1_any _ _ (now) life be (.int .i64 0) _ h1 h2 h3 h4 (by simp [go_sem]) (by simp [go_sem]) (by simp [go_sem]) (by simp [go_sem]) (by simp [go_sem])).mono ?_); rintro e w' ⟨rfl, rfl⟩)
      rw [rounds_succ]
      go_wp2_with (go_at_call 64; (with_reducible refine (rule2_any _ _ (rule1V (now) life be) till _ (by simp [go_sem]) (by simp [go_sem]) (by simp [go_sem])).mono ?_); rintro e w' ⟨rfl, rfl⟩)
      rw [rounds_succ]
      go_wp2_with (go_at_call 65; (with_reducible refine (rule3_any _ _ (now) wish renew br _ h1 h2 h5 h6 (by simp [go_sem]) (by simp [go_sem]) (by simp [go_sem]) (by simp [go_sem]) (by simp [go_sem]) (by simp [go_sem])).mono ?_); rintro e w' ⟨rfl, rfl⟩)
      rw [rounds_succ]
      go_wp2_with (go_at_call 66; (with_reducible refine (rule4_any _ (rule2V (rule1V (now) life be) till) (rule3V (now) wish renew br) _ (by simp [go_sem]) (by simp [go_sem]) (by simp [go_sem])).mono ?_); rintro e w' ⟨rfl, rfl⟩)
      rw [rounds_succ]
      go_wp2_with fail
      all_goals go_returns
      all_goals refine ⟨_, _, _, _, _, rfl, HX.out.symm.trans ?_, (by repeat (first | exact Ext.refl _ | assumption | refine Ext.drew ?_ | refine Ext.alloc ?_ _ | refine Ext.setCell ?_ (by first | exact Nat.le_refl _ | (simp; done) | (simp; omega)) _ | refine Ext.trans ?_ (by assumption)))⟩
      all_goals
        rw [show (if now + k < f then f else max now ba) = now from by rw [if_neg (by omega)]; omega]
        first
        | exact fresh_rules_never (by assumption)
        | exact fresh_rules_some h1 h5 h13 (by omega)
end Go.Proofs.YtdpjkocpdomkbaaGreatDoor
