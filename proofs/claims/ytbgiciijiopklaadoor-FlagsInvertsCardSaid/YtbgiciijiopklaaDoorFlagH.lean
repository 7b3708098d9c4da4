/- Contracts of package flags: the rules of Grant. -/
import Derived.Test.YtbgiciijiopklaaDoorFlagC
import Derived.Test.YtbgiciijiopklaaDoorDag
namespace Go.Proofs.YtbgiciijiopklaaDoor
open Go.RowKit Go.Shelf
theorem Ext.drewN' {a b : World} (h : Ext a b) : Ext a b.drew := h.drew
set_option maxHeartbeats 1600000 in
theorem grant2_any (b1 b2 b3 : Nat) (o t a : Nat) (ho : o < 4294967296) (ht : t < 4294967296) (ha : a < 4294967296) (w : World) (h1 : w.cell? ⟨b1, 0, none⟩ = some (.int .u32 (o : Int))) (h2 : w.cell? ⟨b2, 0, none⟩ = some (.int .u32 (t : Int))) (h3 : w.cell? ⟨b3, 0, none⟩ = some (.int .u32 (a : Int))) :
    Calls Tryd.prog 56 #[.pointer (some ⟨b1, 0, none⟩), .pointer (some ⟨b2, 0, none⟩), .pointer (some ⟨b3, 0, none⟩)] w fun e w' => e = .returned (.bool (optB o && ticketB t && ticketB a)) ∧ Ext w w' := by
  cases hb : optB o
  · have HB := Lib.hid hb
    clear hb
    go_enter Tryd.func56, Tryd.ntmps56
    go_wp2_with (go_at_call 13; (with_reducible refine (optionsOk_any o ho _).mono ?_); rintro e w1 ⟨rfl, hx⟩; rw [HB.out])
    go_ret
    exact ⟨rfl, hx⟩
  · cases hc : ticketB t
    all_goals
      have HB := Lib.hid hb
      have HC := Lib.hid hc
      clear hb hc
      go_enter Tryd.func56, Tryd.ntmps56
      go_wp2_with (first | (go_at_call 13; (with_reducible refine (optionsOk_any o ho _).mono ?_); rintro e w1 ⟨rfl, hx⟩; rw [HB.out]; have h4 := hx.cell h2; have h5 := hx.cell h3) | (go_at_call 11; (with_reducible refine (ticket_any t ht _).mono ?_); rintro e w' ⟨rfl, rfl⟩; rw [HC.out]) | (go_at_call 11; (with_reducible refine (ticket_any a ha _).mono ?_); rintro e w' ⟨rfl, rfl⟩))
      go_ret
      exact ⟨by simp, hx⟩
set_option maxHeartbeats 1600000 in
theorem grant3_any (b1 b2 b3 : Nat) (v r : Bool) (s : Nat) (w : World) (h1 : w.cell? ⟨b1, 0, none⟩ = some (.bool v)) (h2 : w.cell? ⟨b2, 0, none⟩ = some (.bool r)) (h3 : w.cell? ⟨b3, 0, none⟩ = some (.int .u32 (s : Int))) :
    Calls Tryd.prog 57 #[.pointer (some ⟨b1, 0, none⟩), .pointer (some ⟨b2, 0, none⟩), .pointer (some ⟨b3, 0, none⟩)] w fun e w' => e = .returned (.bool (!v && !r || decide (s = 131072) || decide (s = 65536))) ∧ w = w' := by
  have e1 : (((s : Int)) == 131072) = decide (s = 131072) := beq_nat s 131072
  have e2 : (((s : Int)) == 65536) = decide (s = 65536) := beq_nat s 65536
  cases v <;> cases r
  all_goals
    cases hd : decide (s = 131072)
    all_goals
      rw [hd] at e1
      have HD := Lib.hid hd
      clear hd
      go_enter Tryd.func57, Tryd.ntmps57
      go_wp2
      go_ret
      exact ⟨by simp, rfl⟩
theorem has_ext (f g : Nat) (hf : f < 4294967296) (hg : g < 4294967296) (z : Int) (hz : z = g) (w : World) : Calls Tryd.prog 15 #[.int .u32 (f : Int), .int .u32 z] w fun e w' => e = .returned (.bool (hasB f g)) ∧ Ext w w' :=
  (has_any f g hf hg z hz w).mono fun _ _ ⟨he, hw⟩ => ⟨he, hw ▸ Ext.refl _⟩
set_option maxRecDepth 8000 in
set_option maxHeartbeats 1600000 in
theorem grant4_any (b1 b2 : Nat) (v : Bool) (t : Nat) (ht : t < 4294967296) (w : World) (h1 : w.cell? ⟨b1, 0, none⟩ = some (.bool v)) (h2 : w.cell? ⟨b2, 0, none⟩ = some (.int .u32 (t : Int))) :
    Calls Tryd.prog 58 #[.pointer (some ⟨b1, 0, none⟩), .pointer (some ⟨b2, 0, none⟩)] w fun e w' => e = .returned (.bool (v == hasB t 64)) ∧ Ext w w' := by
  go_enter Tryd.func58, Tryd.ntmps58
  go_wp2_with fail
  refine Dag.wp_region_facts [.val (.bool v), .val (.int .u32 (t : Int)), .val (.bool (hasB t 64)), .val (.bool (v == hasB t 64)), .val (.bool (v == hasB t 64))] [some 3, some 4, some 5, some 6, some 2] (by kernel_rfl) (by kernel_rfl) (by kernel_rfl) ⟨?_, ?_, ?_, ?_, ?_, trivial⟩ ?_
  · intro a' w' K hext hsees hK
    have y0 : a'.tmps[0]? = some (.pointer (some ⟨b1, 0, none⟩)) := (hsees.old (t := 0) (by kernel_rfl) (by kernel_rfl)).trans rfl
    have e0 := Dag.eval_of y0
    refine Dag.wpOp_lit rfl ?_
    have hcc := ((Ext.refl w).drew.trans hext).cell h1
    go_simp
    exact hK _ _ rfl (Ext.refl _)
  · intro a' w' K hext hsees hK
    have y1 : a'.tmps[1]? = some (.pointer (some ⟨b2, 0, none⟩)) := (hsees.old (t := 1) (by kernel_rfl) (by kernel_rfl)).trans rfl
    have e1 := Dag.eval_of y1
    refine Dag.wpOp_lit rfl ?_
    have hcc := ((Ext.refl w).drew.trans hext).cell h2
    go_simp
    exact hK _ _ rfl (Ext.refl _)
  · intro a' w' K hext hsees hK
    obtain ⟨v4, y4, f4⟩ := hsees.new (t := 4) (j := 1) (by kernel_rfl) (by kernel_rfl)
    obtain rfl : v4 = (.int .u32 (t : Int)) := f4
    have e4 := Dag.eval_of y4
    refine Dag.wpOp_lit rfl ?_
    go_simp
    refine (has_ext t 64 ht (by decide) 64 (by decide) _).mono ?_
    rintro e w_c ⟨rfl, hx_c⟩
    exact hK _ _ rfl hx_c
  · intro a' w' K hext hsees hK
    obtain ⟨v3, y3, f3⟩ := hsees.new (t := 3) (j := 0) (by kernel_rfl) (by kernel_rfl)
    obtain rfl : v3 = (.bool v) := f3
    have e3 := Dag.eval_of y3
    obtain ⟨v5, y5, f5⟩ := hsees.new (t := 5) (j := 2) (by kernel_rfl) (by kernel_rfl)
    obtain rfl : v5 = (.bool (hasB t 64)) := f5
    have e5 := Dag.eval_of y5
    refine Dag.wpOp_lit rfl ?_
    go_simp
    exact hK _ _ rfl (Ext.refl _)
  · intro a' w' K hext hsees hK
    obtain ⟨v6, y6, f6⟩ := hsees.new (t := 6) (j := 3) (by kernel_rfl) (by kernel_rfl)
    obtain rfl : v6 = (.bool (v == hasB t 64)) := f6
    have e6 := Dag.eval_of y6
    refine Dag.wpOp_lit rfl ?_
    go_simp
    exact hK _ _ rfl (Ext.refl _)
  intro vs w' hw' hv
  have h4 : vs 4 = (.bool (v == hasB t 64)) := hv 4 (by decide)
  simp only [Dag.putL, Act.put, List.setIfInBounds_toArray, List.set_cons_zero, List.set_cons_succ, h4]
  go_wp2_with fail
  go_ret
  exact ⟨rfl, (Ext.refl w).drew.trans hw'⟩
set_option maxRecDepth 8000 in
set_option maxHeartbeats 1600000 in
theorem grant6_any (b1 b2 : Nat) (t o : Nat) (ht : t < 4294967296) (ho : o < 4294967296) (w : World) (h1 : w.cell? ⟨b1, 0, none⟩ = some (.int .u32 (t : Int))) (h2 : w.cell? ⟨b2, 0, none⟩ = some (.int .u32 (o : Int))) :
    Calls Tryd.prog 60 #[.pointer (some ⟨b1, 0, none⟩), .pointer (some ⟨b2, 0, none⟩)] w fun e w' => e = .returned (.bool (hasB t (o &&& 149))) ∧ Ext w w' := by
  have hand := andI o 149 ho (by decide) 149 rfl
  go_enter Tryd.func60, Tryd.ntmps60
  go_wp2_with fail
  refine Dag.wp_region_facts [.val (.int .u32 (t : Int)), .val (.int .u32 (o : Int)), .val (.int .u32 149), .val (.int .u32 ((o &&& 149 : Nat) : Int)), .val (.bool (hasB t (o &&& 149))), .val (.bool (hasB t (o &&& 149)))] [some 3, some 4, some 5, some 6, some 7, some 2] (by kernel_rfl) (by kernel_rfl) (by kernel_rfl) ⟨?_, ?_, ?_, ?_, ?_, ?_, trivial⟩ ?_
  · intro a' w' K hext hsees hK
    have y0 : a'.tmps[0]? = some (.pointer (some ⟨b1, 0, none⟩)) := (hsees.old (t := 0) (by kernel_rfl) (by kernel_rfl)).trans rfl
    have e0 := Dag.eval_of y0
    refine Dag.wpOp_lit rfl ?_
    have hcc := ((Ext.refl w).drew.trans hext).cell h1
    go_simp
    exact hK _ _ rfl (Ext.refl _)
  · intro a' w' K hext hsees hK
    have y1 : a'.tmps[1]? = some (.pointer (some ⟨b2, 0, none⟩)) := (hsees.old (t := 1) (by kernel_rfl) (by kernel_rfl)).trans rfl
    have e1 := Dag.eval_of y1
    refine Dag.wpOp_lit rfl ?_
    have hcc := ((Ext.refl w).drew.trans hext).cell h2
    go_simp
    exact hK _ _ rfl (Ext.refl _)
  · intro a' w' K hext hsees hK
    refine Dag.wpOp_lit rfl ?_
    go_simp
    refine (pass_any _).mono ?_
    rintro e w_c ⟨rfl, hx_c⟩
    exact hK _ _ rfl hx_c
  · intro a' w' K hext hsees hK
    obtain ⟨v4, y4, f4⟩ := hsees.new (t := 4) (j := 1) (by kernel_rfl) (by kernel_rfl)
    obtain rfl : v4 = (.int .u32 (o : Int)) := f4
    have e4 := Dag.eval_of y4
    obtain ⟨v5, y5, f5⟩ := hsees.new (t := 5) (j := 2) (by kernel_rfl) (by kernel_rfl)
    obtain rfl : v5 = (.int .u32 149) := f5
    have e5 := Dag.eval_of y5
    refine Dag.wpOp_lit rfl ?_
    go_simp
    exact hK _ _ rfl (Ext.refl _)
  · intro a' w' K hext hsees hK
    obtain ⟨v3, y3, f3⟩ := hsees.new (t := 3) (j := 0) (by kernel_rfl) (by kernel_rfl)
    obtain rfl : v3 = (.int .u32 (t : Int)) := f3
    have e3 := Dag.eval_of y3
    obtain ⟨v6, y6, f6⟩ := hsees.new (t := 6) (j := 3) (by kernel_rfl) (by kernel_rfl)
    obtain rfl : v6 = (.int .u32 ((o &&& 149 : Nat) : Int)) := f6
    have e6 := Dag.eval_of y6
    refine Dag.wpOp_lit rfl ?_
    go_simp
    refine (has_ext t (o &&& 149) ht (and32 ho) _ rfl _).mono ?_
    rintro e w_c ⟨rfl, hx_c⟩
    exact hK _ _ rfl hx_c
  · intro a' w' K hext hsees hK
    obtain ⟨v7, y7, f7⟩ := hsees.new (t := 7) (j := 4) (by kernel_rfl) (by kernel_rfl)
    obtain rfl : v7 = (.bool (hasB t (o &&& 149))) := f7
    have e7 := Dag.eval_of y7
    refine Dag.wpOp_lit rfl ?_
    go_simp
    exact hK _ _ rfl (Ext.refl _)
  intro vs w' hw' hv
  have h5 : vs 5 = (.bool (hasB t (o &&& 149))) := hv 5 (by decide)
  simp only [Dag.putL, Act.put, List.setIfInBounds_toArray, List.set_cons_zero, List.set_cons_succ, h5]
  go_wp2_with fail
  go_ret
  exact ⟨rfl, (Ext.refl w).drew.trans hw'⟩
set_option maxHeartbeats 1600000 in
theorem grant5_any (b1 b2 : Nat) (r : Bool) (t : Nat) (ht : t < 4294967296) (w : World) (h1 : w.cell? ⟨b1, 0, none⟩ = some (.bool r)) (h2 : w.cell? ⟨b2, 0, none⟩ = some (.int .u32 (t : Int))) :
    Calls Tryd.prog 59 #[.pointer (some ⟨b1, 0, none⟩), .pointer (some ⟨b2, 0, none⟩)] w fun e w' => e = .returned (.bool (!r || hasB t 128)) ∧ w = w' := by
  cases r
  all_goals
    go_enter Tryd.func59, Tryd.ntmps59
    go_wp2_with (go_at_call 15; (with_reducible refine (has_any t 128 ht (by decide) 128 (by decide) _).mono ?_); rintro e w' ⟨rfl, rfl⟩)
    go_ret
    exact ⟨by simp, rfl⟩
set_option maxHeartbeats 1600000 in
theorem grant11_any (b0 b1 b2 b3 b4 b5 : Nat) (r : Bool) (o p t a g : Nat) (ho : o < 4294967296) (hp : p < 4294967296) (ht : t < 4294967296) (ha : a < 4294967296) (hg : g < 4294967296) (w : World)
    (h0 : w.cell? ⟨b0, 0, none⟩ = some (.bool r)) (h1 : w.cell? ⟨b1, 0, none⟩ = some (.int .u32 (o : Int))) (h2 : w.cell? ⟨b2, 0, none⟩ = some (.int .u32 (p : Int))) (h3 : w.cell? ⟨b3, 0, none⟩ = some (.int .u32 (t : Int))) (h4 : w.cell? ⟨b4, 0, none⟩ = some (.int .u32 (a : Int))) (h5 : w.cell? ⟨b5, 0, none⟩ = some (.int .u32 (g : Int))) :
    Calls Tryd.prog 55 #[.pointer (some ⟨b0, 0, none⟩), .pointer (some ⟨b1, 0, none⟩), .pointer (some ⟨b2, 0, none⟩), .pointer (some ⟨b3, 0, none⟩), .pointer (some ⟨b4, 0, none⟩), .pointer (some ⟨b5, 0, none⟩)] w fun e w' => e = .returned (.bool (r || !hasB o p || hasB (t &&& a) g)) ∧ w = w' := by
  have hand := u32_and_nat t a ht ha
  have hlt : t &&& a < 4294967296 := and32 ht
  generalize t &&& a = x at *
  cases r <;> cases hb : hasB o p
  all_goals
    have HB := Lib.hid hb
    clear hb
    go_enter Tryd.func55, Tryd.ntmps55
    go_wp2_with (first | (go_at_call 15; (with_reducible refine (has_any o p ho hp _ rfl _).mono ?_); rintro e w' ⟨rfl, rfl⟩; rw [HB.out]) | (go_at_call 15; (with_reducible refine (has_any x g hlt hg _ rfl _).mono ?_); rintro e w' ⟨rfl, rfl⟩))
    go_ret
    exact ⟨by simp, rfl⟩
end Go.Proofs.YtbgiciijiopklaaDoor
