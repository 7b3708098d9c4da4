/- Contracts of package flags: Grant. -/
import Derived.Test.YtbgiciijiopklaaDoorFlagH
import Derived.Test.YtbgiciijiopklaaDoorDagInv
import Derived.Test.YtbgiciijiopklaaDoorIter
import Derived.OpenShut
namespace Go.Proofs.YtbgiciijiopklaaDoor
open Go.RowKit Go.Shelf
set_option maxHeartbeats 1600000 in
theorem grant1_any (b0 b1 b3 b4 : Nat) (p g : Int) (w : World) :
    Calls Tryd.prog 54 #[.int .u32 p, .int .u32 g, .pointer (some ⟨b0, 0, none⟩), .pointer (some ⟨b1, 0, none⟩), .pointer (some ⟨b3, 0, none⟩), .pointer (some ⟨b4, 0, none⟩)] w fun e w' => e = .returned (.agg #[.int .i64 151, .func (.func 55) #[] #[.pointer (some ⟨b0, 0, none⟩), .pointer (some ⟨b1, 0, none⟩), .pointer (some ⟨w.heap.size, 0, none⟩), .pointer (some ⟨b3, 0, none⟩), .pointer (some ⟨b4, 0, none⟩), .pointer (some ⟨w.heap.size + 1, 0, none⟩)]]) ∧
      w'.cell? ⟨w.heap.size, 0, none⟩ = some (.int .u32 p) ∧ w'.cell? ⟨w.heap.size + 1, 0, none⟩ = some (.int .u32 g) ∧ Ext w w' := by
  have hmf : ∀ (fn : Fn) (first cap : Array Value) (w : World), (Instr.makeFunc fn first cap).run Tryd.prog w = .ok (.func fn first cap) w := fun _ _ _ _ => rfl
  go_enter Tryd.func54, Tryd.ntmps54
  go_wp2
  refine bodyPost_ret (results_cell_row (p := 8) rfl _ _ (w.heap.size + 1 + 1) _ _ _ _ rfl (heap_new3 _ _ _ _) Tryd.underlying83 rfl (by kernel_rfl)) rfl ?_
  exact ⟨rfl, by simp [go_sem], by simp [go_sem], ((Ext.refl w).alloc _).alloc _ |>.alloc _⟩
/-- The granted flags and the error. -/
def grantRules (o t a : Nat) : Nat × Int :=
  if optB o && ticketB t && ticketB a then
    if !hasB o 131072 && !hasB o 65536 || decide (offN o 262144 = 131072) || decide (offN o 262144 = 65536) then
      if hasB o 131072 == hasB t 64 then
        if !hasB o 65536 || hasB t 128 then
          if hasB t (o &&& 149) then
            if hasB o 65536 || !hasB o 2 || hasB (t &&& a) 1 then
              if hasB o 65536 || !hasB o 8 || hasB (t &&& a) 4 then
                if hasB o 65536 || !hasB o 32 || hasB (t &&& a) 16 then
                  if hasB o 131072 then (offN t 64, 0) else if hasB o 65536 then (t, 0) else (t &&& 514 ||| wantedN o a ||| (a &&& 2048) ||| (o &&& 10), 0)
                else (0, 151)
              else (0, 151)
            else (0, 151)
          else (0, 151)
        else (0, 151)
      else (0, 152)
    else (0, 150)
  else (0, 2)
/-- The error of the first rule of Grant that does not hold, or 0. -/
def gErr (o t a : Nat) : Int :=
  if optB o && ticketB t && ticketB a then
    if !hasB o 131072 && !hasB o 65536 || decide (offN o 262144 = 131072) || decide (offN o 262144 = 65536) then
      if hasB o 131072 == hasB t 64 then
        if !hasB o 65536 || hasB t 128 then
          if hasB t (o &&& 149) then
            if hasB o 65536 || !hasB o 2 || hasB (t &&& a) 1 then
              if hasB o 65536 || !hasB o 8 || hasB (t &&& a) 4 then
                if hasB o 65536 || !hasB o 32 || hasB (t &&& a) 16 then 0
                else 151
              else 151
            else 151
          else 151
        else 151
      else 152
    else 150
  else 2
theorem ite_pair (c : Bool) (v x : Nat × Int) (z er : Int) (h : er ≠ 0) (hx : x = if z = 0 then v else (0, z)) : (if c then x else (0, er)) = if (if c then z else er) = 0 then v else (0, if c then z else er) := by
  cases c
  · simp [h]
  · simpa using hx
theorem grant_gErr (o t a : Nat) : grantRules o t a = if gErr o t a = 0 then (if hasB o 131072 then (offN t 64, 0) else if hasB o 65536 then (t, 0) else (t &&& 514 ||| wantedN o a ||| (a &&& 2048) ||| (o &&& 10), 0)) else (0, gErr o t a) := by
  unfold grantRules gErr
  exact ite_pair _ _ _ _ _ (by decide) (ite_pair _ _ _ _ _ (by decide) (ite_pair _ _ _ _ _ (by decide) (ite_pair _ _ _ _ _ (by decide) (ite_pair _ _ _ _ _ (by decide) (ite_pair _ _ _ _ _ (by decide) (ite_pair _ _ _ _ _ (by decide) (ite_pair _ _ _ _ _ (by decide) (by simp))))))))
theorem orI4 (a b c d : Nat) : orI [(a : Int), b, c, d] = ((a ||| b ||| c ||| d : Nat) : Int) := by rw [orI_def]; simp [orL]
def rulesG (o t a n b8 b9 m p1 p2 p3 : Nat) : List RuleD :=
  [⟨2, 56, #[.pointer (some ⟨n, 0, none⟩), .pointer (some ⟨n + 1, 0, none⟩), .pointer (some ⟨n + 1 + 1, 0, none⟩)], optB o && ticketB t && ticketB a⟩,
   ⟨150, 57, #[.pointer (some ⟨b8, 0, none⟩), .pointer (some ⟨b9, 0, none⟩), .pointer (some ⟨m, 0, none⟩)], !hasB o 131072 && !hasB o 65536 || decide (offN o 262144 = 131072) || decide (offN o 262144 = 65536)⟩,
   ⟨152, 58, #[.pointer (some ⟨b8, 0, none⟩), .pointer (some ⟨n + 1, 0, none⟩)], hasB o 131072 == hasB t 64⟩,
   ⟨151, 59, #[.pointer (some ⟨b9, 0, none⟩), .pointer (some ⟨n + 1, 0, none⟩)], !hasB o 65536 || hasB t 128⟩,
   ⟨151, 60, #[.pointer (some ⟨n + 1, 0, none⟩), .pointer (some ⟨n, 0, none⟩)], hasB t (o &&& 149)⟩,
   ⟨151, 55, #[.pointer (some ⟨b9, 0, none⟩), .pointer (some ⟨n, 0, none⟩), .pointer (some ⟨p1, 0, none⟩), .pointer (some ⟨n + 1, 0, none⟩), .pointer (some ⟨n + 1 + 1, 0, none⟩), .pointer (some ⟨p1 + 1, 0, none⟩)], hasB o 65536 || !hasB o 2 || hasB (t &&& a) 1⟩,
   ⟨151, 55, #[.pointer (some ⟨b9, 0, none⟩), .pointer (some ⟨n, 0, none⟩), .pointer (some ⟨p2, 0, none⟩), .pointer (some ⟨n + 1, 0, none⟩), .pointer (some ⟨n + 1 + 1, 0, none⟩), .pointer (some ⟨p2 + 1, 0, none⟩)], hasB o 65536 || !hasB o 8 || hasB (t &&& a) 4⟩,
   ⟨151, 55, #[.pointer (some ⟨b9, 0, none⟩), .pointer (some ⟨n, 0, none⟩), .pointer (some ⟨p3, 0, none⟩), .pointer (some ⟨n + 1, 0, none⟩), .pointer (some ⟨n + 1 + 1, 0, none⟩), .pointer (some ⟨p3 + 1, 0, none⟩)], hasB o 65536 || !hasB o 32 || hasB (t &&& a) 16⟩]
theorem rulesG_first (o t a n b8 b9 m p1 p2 p3 : Nat) : firstR (rulesG o t a n b8 b9 m p1 p2 p3) = gErr o t a := by
  unfold rulesG gErr firstR
  generalize (optB o && ticketB t && ticketB a) = c1
  generalize (!hasB o 131072 && !hasB o 65536 || decide (offN o 262144 = 131072) || decide (offN o 262144 = 65536)) = c2
  generalize (hasB o 131072 == hasB t 64) = c3
  generalize (!hasB o 65536 || hasB t 128) = c4
  generalize hasB t (o &&& 149) = c5
  generalize (hasB o 65536 || !hasB o 2 || hasB (t &&& a) 1) = c6
  generalize (hasB o 65536 || !hasB o 8 || hasB (t &&& a) 4) = c7
  generalize (hasB o 65536 || !hasB o 32 || hasB (t &&& a) 16) = c8
  cases c1; rfl
  cases c2; rfl
  cases c3; rfl
  cases c4; rfl
  cases c5; rfl
  cases c6; rfl
  cases c7; rfl
  cases c8; rfl
  rfl
theorem rules8 {w : World} {b : Nat} {r0 r1 r2 r3 r4 r5 r6 r7 : RuleD} {T : TypeId} {fr : Nat × Nat} (h : w.heap[b]? = some (.cells #[.int .i64 r0.err, .func (.func r0.fn) #[] r0.caps, .int .i64 r1.err, .func (.func r1.fn) #[] r1.caps, .int .i64 r2.err, .func (.func r2.fn) #[] r2.caps, .int .i64 r3.err, .func (.func r3.fn) #[] r3.caps, .int .i64 r4.err, .func (.func r4.fn) #[] r4.caps, .int .i64 r5.err, .func (.func r5.fn) #[] r5.caps, .int .i64 r6.err, .func (.func r6.fn) #[] r6.caps, .int .i64 r7.err, .func (.func r7.fn) #[] r7.caps] T fr)) : RuleCells w b [r0, r1, r2, r3, r4, r5, r6, r7] := by
  intro j hj
  match j, hj with
  | 0, _ => simp [World.cell?, h]
  | 1, _ => simp [World.cell?, h]
  | 2, _ => simp [World.cell?, h]
  | 3, _ => simp [World.cell?, h]
  | 4, _ => simp [World.cell?, h]
  | 5, _ => simp [World.cell?, h]
  | 6, _ => simp [World.cell?, h]
  | 7, _ => simp [World.cell?, h]
def GrantPost (o t a : Nat) (w : World) (e : Ending) (w' : World) : Prop := e = .returned (.tuple #[.int .u32 ((grantRules o t a).1 : Nat), .int .i64 (grantRules o t a).2]) ∧ Ext w w'
def gframe (w : World) (o t a : Nat) (x8 x9 x14 x15 x16 x17 : Value) : Array Value := #[.int .u32 (o : Int), .int .u32 (t : Int), .int .u32 (a : Int), .pointer (some ⟨w.heap.size, 0, none⟩), .pointer (some ⟨w.heap.size + 1, 0, none⟩), .pointer (some ⟨w.heap.size + 1 + 1, 0, none⟩), .int .u32 0, .int .i64 0, x8, x9, undef, undef, undef, undef, x14, x15, x16, x17, undef, undef, undef, undef, undef, undef, undef, undef, undef, undef, undef, undef, undef, undef, undef, undef, undef, undef, undef, undef, undef, undef, undef, undef, undef, undef, undef, undef, undef, undef, undef, undef, undef, undef, undef, undef, undef, undef, undef, undef, undef, undef, undef, undef, undef, undef, undef, undef]
structure GInv (w : World) (o t a : Nat) (L : Nat → Bool) (x8 x9 x14 x15 x16 x17 : Value) (W : World) : Prop where
  ext : Ext (((w.alloc (.cells #[.int .u32 (o : Int)] 24)).alloc (.cells #[.int .u32 (t : Int)] 24)).alloc (.cells #[.int .u32 (a : Int)] 24)) W
  f0 : L 0 = true → x14 = .int .u32 (o : Int)
  f1 : L 1 = true → x15 = .bool (hasB o 131072)
  f2 : L 2 = true → x16 = .int .u32 (o : Int)
  f3 : L 3 = true → x17 = .bool (hasB o 65536)
  f4 : L 4 = true → ∃ b, w.heap.size + 3 ≤ b ∧ x8 = .pointer (some ⟨b, 0, none⟩) ∧ Boxed W b 4 (.bool (if L 6 then hasB o 131072 else false))
  f5 : L 5 = true → ∃ b, w.heap.size + 3 ≤ b ∧ x9 = .pointer (some ⟨b, 0, none⟩) ∧ Boxed W b 4 (.bool (if L 7 then hasB o 65536 else false))
  ne : L 4 = true → L 5 = true → x8 ≠ x9
  h6 : L 6 = true → L 4 = true
  h7 : L 7 = true → L 5 = true

set_option maxRecDepth 8000 in
set_option maxHeartbeats 3200000 in
theorem grant_any (o t a : Nat) (ho : o < 4294967296) (ht : t < 4294967296) (ha : a < 4294967296) (w : World) : Calls Tryd.prog 27 #[.int .u32 (o : Int), .int .u32 (t : Int), .int .u32 (a : Int)] w (GrantPost o t a w) := by
  have hmf : ∀ (fn : Fn) (first cap : Array Value) (w : World), (Instr.makeFunc fn first cap).run Tryd.prog w = .ok (.func fn first cap) w := fun _ _ _ _ => rfl
  go_enter Tryd.func27, Tryd.ntmps27
  go_wp2_with fail
  have hx0 : Ext w (((w.alloc (.cells #[.int .u32 (o : Int)] 24)).alloc (.cells #[.int .u32 (t : Int)] 24)).alloc (.cells #[.int .u32 (a : Int)] 24)) := (((Ext.refl w).alloc _).alloc _).alloc _
  have q3 : (((w.alloc (.cells #[.int .u32 (o : Int)] 24)).alloc (.cells #[.int .u32 (t : Int)] 24)).alloc (.cells #[.int .u32 (a : Int)] 24)).cell? ⟨w.heap.size, 0, none⟩ = some (.int .u32 (o : Int)) := by simp [go_sem]
  have q4 : (((w.alloc (.cells #[.int .u32 (o : Int)] 24)).alloc (.cells #[.int .u32 (t : Int)] 24)).alloc (.cells #[.int .u32 (a : Int)] 24)).cell? ⟨w.heap.size + 1, 0, none⟩ = some (.int .u32 (t : Int)) := by simp [go_sem]
  have q5 : (((w.alloc (.cells #[.int .u32 (o : Int)] 24)).alloc (.cells #[.int .u32 (t : Int)] 24)).alloc (.cells #[.int .u32 (a : Int)] 24)).cell? ⟨w.heap.size + 1 + 1, 0, none⟩ = some (.int .u32 (a : Int)) := by simp [go_sem]
  have Q := Lib.hid (And.intro q3 (And.intro q4 q5))
  clear q4 q5
  have hsz : (((w.alloc (.cells #[.int .u32 (o : Int)] 24)).alloc (.cells #[.int .u32 (t : Int)] 24)).alloc (.cells #[.int .u32 (a : Int)] 24)).heap.size = w.heap.size + 3 := by simp
  refine Dag.wp_region_inv (fun L A W => ∃ x8 x9 x14 x15 x16 x17, A = { tmps := gframe w o t a x8 x9 x14 x15 x16 x17, defers := [] } ∧ GInv w o t a L x8 x9 x14 x15 x16 x17 W) (by kernel_rfl) (by kernel_rfl) ⟨undef, undef, undef, undef, undef, undef, rfl, (Ext.refl _).drew, by simp, by simp, by simp, by simp, by simp, by simp, by simp, by simp, by simp⟩ ?steps ?fin
  case steps =>
    rintro i hi L A W K hL hk ⟨x8, x9, x14, x15, x16, x17, rfl, g⟩ hK
    have hi' : i < 8 := hi
    have q3' := g.ext.cell q3
    obtain ⟨ge, g0, g1, g2, g3, g4, g5, gn, h6, h7⟩ := g
    rcases (by omega : i = 0 ∨ i = 1 ∨ i = 2 ∨ i = 3 ∨ i = 4 ∨ i = 5 ∨ i = 6 ∨ i = 7) with rfl | rfl | rfl | rfl | rfl | rfl | rfl | rfl
    · refine Dag.wpOp_lit rfl ?_
      unfold gframe
      go_simp
      exact hK _ _ ⟨x8, x9, .int .u32 (o : Int), x15, x16, x17, rfl, ge, fun _ => rfl, g1, g2, g3, g4, g5, gn, h6, h7⟩
    · obtain rfl := g0 (hk 0 (List.contains_iff_mem.1 (by kernel_rfl)))
      refine Dag.wpOp_lit rfl ?_
      unfold gframe
      go_simp
      refine (has_any o 131072 ho (by decide) 131072 (by decide) _).mono ?_
      rintro e w_c ⟨rfl, rfl⟩
      exact hK _ _ ⟨x8, x9, _, .bool (hasB o 131072), x16, x17, rfl, ge, fun _ => rfl, fun _ => rfl, g2, g3, g4, g5, gn, h6, h7⟩
    · refine Dag.wpOp_lit rfl ?_
      unfold gframe
      go_simp
      exact hK _ _ ⟨x8, x9, x14, x15, .int .u32 (o : Int), x17, rfl, ge, g0, g1, fun _ => rfl, g3, g4, g5, gn, h6, h7⟩
    · obtain rfl := g2 (hk 2 (List.contains_iff_mem.1 (by kernel_rfl)))
      refine Dag.wpOp_lit rfl ?_
      unfold gframe
      go_simp
      refine (has_any o 65536 ho (by decide) 65536 (by decide) _).mono ?_
      rintro e w_c ⟨rfl, rfl⟩
      exact hK _ _ ⟨x8, x9, x14, x15, _, .bool (hasB o 65536), rfl, ge, g0, g1, fun _ => rfl, fun _ => rfl, g4, g5, gn, h6, h7⟩
    · have h60 : L 6 = false := by cases h : L 6; rfl; rw [h6 h] at hL; cases hL
      have hsW := ge.sz
      refine Dag.wpOp_lit rfl ?_
      unfold gframe
      go_simp
      refine hK _ _ ⟨.pointer (some ⟨W.heap.size, 0, none⟩), x9, x14, x15, x16, x17, rfl, ge.alloc _, g0, g1, g2, g3, fun _ => ⟨W.heap.size, by omega, rfl, ?_⟩, fun h => ?_, fun _ h => ?_, fun _ => rfl, h7⟩
      · show Boxed _ _ _ (.bool (if L 6 then hasB o 131072 else false))
        rw [h60]; exact Boxed.new _ _ _
      · obtain ⟨b, e1, e2, e3⟩ := g5 h; exact ⟨b, e1, e2, e3.alloc _⟩
      · obtain ⟨b, e1, e2, e3⟩ := g5 h; subst e2; intro e; simp at e; have := e3.lt; omega
    · have h70 : L 7 = false := by cases h : L 7; rfl; rw [h7 h] at hL; cases hL
      have hsW := ge.sz
      refine Dag.wpOp_lit rfl ?_
      unfold gframe
      go_simp
      refine hK _ _ ⟨x8, .pointer (some ⟨W.heap.size, 0, none⟩), x14, x15, x16, x17, rfl, ge.alloc _, g0, g1, g2, g3, fun h => ?_, fun _ => ⟨W.heap.size, by omega, rfl, ?_⟩, fun h _ => ?_, h6, fun _ => rfl⟩
      · obtain ⟨b, e1, e2, e3⟩ := g4 h; exact ⟨b, e1, e2, e3.alloc _⟩
      · show Boxed _ _ _ (.bool (if L 7 then hasB o 65536 else false))
        rw [h70]; exact Boxed.new _ _ _
      · obtain ⟨b, e1, e2, e3⟩ := g4 h; subst e2; intro e; simp at e; have := e3.lt; omega
    · have hk4 := hk 4 (List.contains_iff_mem.1 (by kernel_rfl))
      obtain rfl := g1 (hk 1 (List.contains_iff_mem.1 (by kernel_rfl)))
      obtain ⟨b, e1, rfl, e3⟩ := g4 hk4
      have c := e3.cell
      have f := e3.frozen
      refine Dag.wpOp_lit rfl ?_
      unfold gframe
      go_simp
      refine hK _ _ ⟨.pointer (some ⟨b, 0, none⟩), x9, x14, _, x16, x17, rfl, ge.setCell (by simp; omega) _, g0, fun _ => rfl, g2, g3, fun _ => ⟨b, e1, rfl, e3.set _⟩, fun h => ?_, gn, fun _ => hk4, h7⟩
      obtain ⟨b', d1, d2, d3⟩ := g5 h
      exact ⟨b', d1, d2, d3.other (fun e => gn hk4 h (by rw [d2, e])) _⟩
    · have hk5 := hk 5 (List.contains_iff_mem.1 (by kernel_rfl))
      obtain rfl := g3 (hk 3 (List.contains_iff_mem.1 (by kernel_rfl)))
      obtain ⟨b, e1, rfl, e3⟩ := g5 hk5
      have c := e3.cell
      have f := e3.frozen
      refine Dag.wpOp_lit rfl ?_
      unfold gframe
      go_simp
      refine hK _ _ ⟨x8, .pointer (some ⟨b, 0, none⟩), x14, x15, x16, _, rfl, ge.setCell (by simp; omega) _, g0, g1, g2, fun _ => rfl, fun h => ?_, fun _ => ⟨b, e1, rfl, e3.set _⟩, gn, h6, fun _ => hk5⟩
      obtain ⟨b', d1, d2, d3⟩ := g4 h
      exact ⟨b', d1, d2, d3.other (fun e => gn h hk5 (by rw [d2, e])) _⟩
  case fin =>
    rintro L A W ⟨x8, x9, x14, x15, x16, x17, rfl, g⟩ hall
    have hl := fun i (hi : i < 8) => hall i hi
    obtain rfl := g.f0 (hl 0 (by decide))
    obtain rfl := g.f1 (hl 1 (by decide))
    obtain rfl := g.f2 (hl 2 (by decide))
    obtain rfl := g.f3 (hl 3 (by decide))
    obtain ⟨b8, u1, rfl, u2⟩ := g.f4 (hl 4 (by decide))
    obtain ⟨b9, v1, rfl, v2⟩ := g.f5 (hl 5 (by decide))
    rw [hl 6 (by decide), if_pos rfl] at u2
    rw [hl 7 (by decide), if_pos rfl] at v2
    unfold gframe
    rename_i K hK
    refine hK _ _ ?_
    have hge := g.ext
    have hxW := Ext.trans hx0 hge
    have hcells := hge.cell q3
    have HC := Lib.hid (And.intro (hge.cell Q.out.2.1) (And.intro (hge.cell Q.out.2.2) (And.intro u2.cell v2.cell)))
    clear hl g hall
    have hb1 : b8 < W.heap.size := u2.lt
    have hb2 : b9 < W.heap.size := v2.lt
    have hWs := hge.sz
    rw [hsz] at hWs
    have HE := Lib.hid hge
    clear hge hx0 q3 hsz
    go_wp2_with (first | (go_at_call 54; (with_reducible refine (grant1_any _ _ _ _ _ _ _).mono ?_); rintro e w9 ⟨rfl, k1, k2, k3⟩))
    rename_i wa ka1 ka2 ka3 wb kb1 kb2 kb3 K2 hK2
    rw [World.size_alloc] at ka1 ka2
    have hoff := offI o 262144 ho (by decide) 262144 rfl
    rw [hoff] at ka3
    have hm : (W.alloc (.cells #[.int .u32 ((offN o 262144 : Nat) : Int)] 24)).cell? ⟨W.heap.size, 0, none⟩ = some (.int .u32 ((offN o 262144 : Nat) : Int)) := (Boxed.new W 24 _).cell
    have X1 := (Ext.trans ka3 (Ext.trans kb3 k3))
    have X0 := Ext.trans ((Ext.refl W).alloc (.cells #[.int .u32 ((offN o 262144 : Nat) : Int)] 24)) X1
    have c0 := X0.cell hcells
    have c1 := X0.cell HC.out.1
    have c2 := X0.cell HC.out.2.1
    have cv := X0.cell HC.out.2.2.1
    have cr := X0.cell HC.out.2.2.2
    have cm := X1.cell hm
    have cp1 := (Ext.trans kb3 k3).cell ka1
    have cg1 := (Ext.trans kb3 k3).cell ka2
    have cp2 := k3.cell kb1
    have cg2 := k3.cell kb2
    go_at_call 46
    refine (first_any w9.heap.size 8 8 (rulesG o t a w.heap.size b8 b9 W.heap.size (W.heap.size + 1) wa.heap.size wb.heap.size) _ rfl (by decide) (rules8 (heap_new w9 _)) ?_).mono ?_
    · intro r hr
      simp only [rulesG, List.mem_cons, List.not_mem_nil, or_false] at hr
      rcases hr with rfl | rfl | rfl | rfl | rfl | rfl | rfl | rfl
      · exact ⟨enters_of Tryd.func56 (by kernel_rfl) rfl, fun Wx hx => have hy := ((Ext.refl w9).alloc _).trans hx; grant2_any _ _ _ o t a ho ht ha Wx (hy.cell c0) (hy.cell c1) (hy.cell c2)⟩
      · exact ⟨enters_of Tryd.func57 (by kernel_rfl) rfl, fun Wx hx => have hy := ((Ext.refl w9).alloc _).trans hx; (grant3_any _ _ _ _ _ _ Wx (hy.cell cv) (hy.cell cr) (hy.cell cm)).mono fun e w' ⟨he, hw⟩ => ⟨he, hw ▸ Ext.refl _⟩⟩
      · exact ⟨enters_of Tryd.func58 (by kernel_rfl) rfl, fun Wx hx => have hy := ((Ext.refl w9).alloc _).trans hx; grant4_any _ _ _ t ht Wx (hy.cell cv) (hy.cell c1)⟩
      · exact ⟨enters_of Tryd.func59 (by kernel_rfl) rfl, fun Wx hx => have hy := ((Ext.refl w9).alloc _).trans hx; (grant5_any _ _ _ t ht Wx (hy.cell cr) (hy.cell c1)).mono fun e w' ⟨he, hw⟩ => ⟨he, hw ▸ Ext.refl _⟩⟩
      · exact ⟨enters_of Tryd.func60 (by kernel_rfl) rfl, fun Wx hx => have hy := ((Ext.refl w9).alloc _).trans hx; grant6_any _ _ t o ht ho Wx (hy.cell c1) (hy.cell c0)⟩
      · exact ⟨enters_of Tryd.func55 (by kernel_rfl) rfl, fun Wx hx => have hy := ((Ext.refl w9).alloc _).trans hx; (grant11_any _ _ _ _ _ _ _ o 2 t a 1 ho (by decide) ht ha (by decide) Wx (hy.cell cr) (hy.cell c0) (hy.cell cp1) (hy.cell c1) (hy.cell c2) (hy.cell cg1)).mono fun e w' ⟨he, hw⟩ => ⟨he, hw ▸ Ext.refl _⟩⟩
      · exact ⟨enters_of Tryd.func55 (by kernel_rfl) rfl, fun Wx hx => have hy := ((Ext.refl w9).alloc _).trans hx; (grant11_any _ _ _ _ _ _ _ o 8 t a 4 ho (by decide) ht ha (by decide) Wx (hy.cell cr) (hy.cell c0) (hy.cell cp2) (hy.cell c1) (hy.cell c2) (hy.cell cg2)).mono fun e w' ⟨he, hw⟩ => ⟨he, hw ▸ Ext.refl _⟩⟩
      · exact ⟨enters_of Tryd.func55 (by kernel_rfl) rfl, fun Wx hx => have hy := ((Ext.refl w9).alloc _).trans hx; (grant11_any _ _ _ _ _ _ _ o 32 t a 16 ho (by decide) ht ha (by decide) Wx (hy.cell cr) (hy.cell c0) (hy.cell k1) (hy.cell c1) (hy.cell c2) (hy.cell k2)).mono fun e w' ⟨he, hw⟩ => ⟨he, hw ▸ Ext.refl _⟩⟩
    rintro e wf ⟨rfl, hxf⟩
    have XF : Ext W wf := Ext.trans X0 (((Ext.refl w9).alloc _).trans hxf)
    have d0 := XF.cell hcells
    have d1 := XF.cell HC.out.1
    have d2 := XF.cell HC.out.2.1
    have dv := XF.cell HC.out.2.2.1
    have dr := XF.cell HC.out.2.2.2
    have XW := Lib.hid (Ext.trans hxW XF)
    rw [rulesG_first]
    have HG := Lib.hid (grant_gErr o t a)
    clear hxf XF X0 X1 c0 c1 c2 cv cr cm cp1 cg1 cp2 cg2 hm hoff ka1 ka2 ka3 kb1 kb2 kb3 k1 k2 k3 hxW hcells HC HE u2 v2
    refine hK2 _ _ ?_
    clear hK hK2
    generalize gErr o t a = er at *
    by_cases he : er = 0
    · subst he
      rw [if_pos rfl] at HG
      have hand1 := andI t 514 ht (by decide) 514 rfl
      have hand2 := andI a 2048 ha (by decide) 2048 rfl
      have hand3 := andI o 10 ho (by decide) 10 rfl
      have hoff := offI t 64 ht (by decide) 64 rfl
      have hu1 : orI [2, 512] = 514 := by rw [orI_def]; decide
      have hu2 : orI [2, 8] = 10 := by rw [orI_def]; decide
      have hu3 := orI4 (t &&& 514) (wantedN o a) (a &&& 2048) (o &&& 10)
      have l1 : t &&& 514 < 4294967296 := and32 ht
      have l2 := wantedN_lt o a ho
      have l3 : a &&& 2048 < 4294967296 := and32 ha
      have l4 : o &&& 10 < 4294967296 := and32 ho
      cases hv0 : hasB o 131072
      all_goals
        rw [hv0] at HG dv
        clear hv0
      · cases hr0 : hasB o 65536
        all_goals
          rw [hr0] at HG dr
          clear hr0
        case true =>
          rw [if_neg (by decide), if_pos rfl] at HG
          go_wp2
          go_ret2
          unfold GrantPost
          rw [HG.out]
          exact ⟨rfl, XW.out⟩
        rw [if_neg (by decide), if_neg (by decide)] at HG
        go_wp2_with fail
        refine Dag.wp_region_facts [.val (.int .u32 ((t : Nat) : Int)), .box 2 #[.int .u32 2, .int .u32 512] 24, .val (.int .u32 514), .val (.int .u32 ((t &&& 514 : Nat) : Int)), .val (.int .u32 ((t &&& 514 : Nat) : Int))] [some 50, some 51, some 52, some 53, some 13] (by kernel_rfl) (by kernel_rfl) (by kernel_rfl) ⟨?_, ?_, ?_, ?_, ?_, trivial⟩ ?_
        · intro a' w' K hext hsees hK
          have y4 : a'.tmps[4]? = some (.pointer (some ⟨w.heap.size + 1, 0, none⟩)) := (hsees.old (t := 4) (by kernel_rfl) (by kernel_rfl)).trans rfl
          have e4 := Dag.eval_of y4
          refine Dag.wpOp_lit rfl ?_
          have hcc := ((Ext.refl _).drew.trans hext).cell d1
          go_simp
          exact hK _ _ rfl (Ext.refl _)
        · intro a' w' K hext hsees hK
          refine Dag.wpOp_lit rfl ?_
          go_simp
          exact hK _ _ ⟨_, rfl, heap_new _ _⟩ ((Ext.refl _).alloc _)
        · intro a' w' K hext hsees hK
          obtain ⟨v51, y51, f51⟩ := hsees.new (t := 51) (j := 1) (by kernel_rfl) (by kernel_rfl)
          obtain ⟨b51, rfl, hb51⟩ := f51
          have hc51 := Dag.cell_of_heap hb51
          have e51 := Dag.eval_of y51
          refine Dag.wpOp_lit rfl ?_
          go_simp
          refine (union_blk2 2 512 (by omega) hb51).mono ?_
          rintro e w_c ⟨rfl, rfl⟩
          rw [hu1]
          exact hK _ _ rfl (Ext.refl _)
        · intro a' w' K hext hsees hK
          obtain ⟨v50, y50, f50⟩ := hsees.new (t := 50) (j := 0) (by kernel_rfl) (by kernel_rfl)
          obtain rfl : v50 = (.int .u32 ((t : Nat) : Int)) := f50
          have e50 := Dag.eval_of y50
          obtain ⟨v52, y52, f52⟩ := hsees.new (t := 52) (j := 2) (by kernel_rfl) (by kernel_rfl)
          obtain rfl : v52 = (.int .u32 514) := f52
          have e52 := Dag.eval_of y52
          refine Dag.wpOp_lit rfl ?_
          go_simp
          exact hK _ _ rfl (Ext.refl _)
        · intro a' w' K hext hsees hK
          obtain ⟨v53, y53, f53⟩ := hsees.new (t := 53) (j := 3) (by kernel_rfl) (by kernel_rfl)
          obtain rfl : v53 = (.int .u32 ((t &&& 514 : Nat) : Int)) := f53
          have e53 := Dag.eval_of y53
          refine Dag.wpOp_lit rfl ?_
          go_simp
          exact hK _ _ rfl (Ext.refl _)
        intro vs w1 hw1 hv
        have h4 : vs 4 = (.int .u32 ((t &&& 514 : Nat) : Int)) := hv 4 (by decide)
        simp only [Dag.putL, Act.put, List.setIfInBounds_toArray, List.set_cons_zero, List.set_cons_succ, h4]
        go_wp2_with fail
        have d0' := ((Ext.refl _).drew.trans hw1).cell d0
        have d2' := ((Ext.refl _).drew.trans hw1).cell d2
        clear hv h4
        refine Dag.wp_region_facts [.val (.int .u32 ((t &&& 514 : Nat) : Int)), .val (.int .u32 ((o : Nat) : Int)), .val (.int .u32 ((a : Nat) : Int)), .val (.int .u32 ((wantedN o a : Nat) : Int)), .val (.int .u32 ((a : Nat) : Int)), .val (.int .u32 ((a &&& 2048 : Nat) : Int)), .val (.int .u32 ((o : Nat) : Int)), .box 2 #[.int .u32 2, .int .u32 8] 24, .val (.int .u32 10), .val (.int .u32 ((o &&& 10 : Nat) : Int)), .box 4 #[.int .u32 ((t &&& 514 : Nat) : Int), .int .u32 ((wantedN o a : Nat) : Int), .int .u32 ((a &&& 2048 : Nat) : Int), .int .u32 ((o &&& 10 : Nat) : Int)] 24, .val (.int .u32 ((t &&& 514 ||| wantedN o a ||| (a &&& 2048) ||| (o &&& 10) : Nat) : Int)), .val (.int .u32 ((t &&& 514 ||| wantedN o a ||| (a &&& 2048) ||| (o &&& 10) : Nat) : Int)), .val (.int .i64 0)] [some 54, some 55, some 56, some 57, some 58, some 59, some 60, some 61, some 62, some 63, some 64, some 65, some 6, some 7] (by kernel_rfl) (by kernel_rfl) (by kernel_rfl) ⟨?_, ?_, ?_, ?_, ?_, ?_, ?_, ?_, ?_, ?_, ?_, ?_, ?_, ?_, trivial⟩ ?_
        · intro a' w' K hext hsees hK
          have y13 : a'.tmps[13]? = some (.int .u32 ((t &&& 514 : Nat) : Int)) := (hsees.old (t := 13) (by kernel_rfl) (by kernel_rfl)).trans rfl
          have e13 := Dag.eval_of y13
          refine Dag.wpOp_lit rfl ?_
          go_simp
          exact hK _ _ rfl (Ext.refl _)
        · intro a' w' K hext hsees hK
          have y3 : a'.tmps[3]? = some (.pointer (some ⟨w.heap.size, 0, none⟩)) := (hsees.old (t := 3) (by kernel_rfl) (by kernel_rfl)).trans rfl
          have e3 := Dag.eval_of y3
          refine Dag.wpOp_lit rfl ?_
          have hcc := ((Ext.refl _).drew.trans hext).cell d0'
          go_simp
          exact hK _ _ rfl (Ext.refl _)
        · intro a' w' K hext hsees hK
          have y5 : a'.tmps[5]? = some (.pointer (some ⟨w.heap.size + 1 + 1, 0, none⟩)) := (hsees.old (t := 5) (by kernel_rfl) (by kernel_rfl)).trans rfl
          have e5 := Dag.eval_of y5
          refine Dag.wpOp_lit rfl ?_
          have hcc := ((Ext.refl _).drew.trans hext).cell d2'
          go_simp
          exact hK _ _ rfl (Ext.refl _)
        · intro a' w' K hext hsees hK
          obtain ⟨v55, y55, f55⟩ := hsees.new (t := 55) (j := 1) (by kernel_rfl) (by kernel_rfl)
          obtain rfl : v55 = (.int .u32 ((o : Nat) : Int)) := f55
          have e55 := Dag.eval_of y55
          obtain ⟨v56, y56, f56⟩ := hsees.new (t := 56) (j := 2) (by kernel_rfl) (by kernel_rfl)
          obtain rfl : v56 = (.int .u32 ((a : Nat) : Int)) := f56
          have e56 := Dag.eval_of y56
          refine Dag.wpOp_lit rfl ?_
          go_simp
          refine (wanted_any o a ho ha _).mono ?_
          rintro e w_c ⟨rfl, hx_c⟩
          exact hK _ _ rfl hx_c
        · intro a' w' K hext hsees hK
          have y5 : a'.tmps[5]? = some (.pointer (some ⟨w.heap.size + 1 + 1, 0, none⟩)) := (hsees.old (t := 5) (by kernel_rfl) (by kernel_rfl)).trans rfl
          have e5 := Dag.eval_of y5
          refine Dag.wpOp_lit rfl ?_
          have hcc := ((Ext.refl _).drew.trans hext).cell d2'
          go_simp
          exact hK _ _ rfl (Ext.refl _)
        · intro a' w' K hext hsees hK
          obtain ⟨v58, y58, f58⟩ := hsees.new (t := 58) (j := 4) (by kernel_rfl) (by kernel_rfl)
          obtain rfl : v58 = (.int .u32 ((a : Nat) : Int)) := f58
          have e58 := Dag.eval_of y58
          refine Dag.wpOp_lit rfl ?_
          go_simp
          exact hK _ _ rfl (Ext.refl _)
        · intro a' w' K hext hsees hK
          have y3 : a'.tmps[3]? = some (.pointer (some ⟨w.heap.size, 0, none⟩)) := (hsees.old (t := 3) (by kernel_rfl) (by kernel_rfl)).trans rfl
          have e3 := Dag.eval_of y3
          refine Dag.wpOp_lit rfl ?_
          have hcc := ((Ext.refl _).drew.trans hext).cell d0'
          go_simp
          exact hK _ _ rfl (Ext.refl _)
        · intro a' w' K hext hsees hK
          refine Dag.wpOp_lit rfl ?_
          go_simp
          exact hK _ _ ⟨_, rfl, heap_new _ _⟩ ((Ext.refl _).alloc _)
        · intro a' w' K hext hsees hK
          obtain ⟨v61, y61, f61⟩ := hsees.new (t := 61) (j := 7) (by kernel_rfl) (by kernel_rfl)
          obtain ⟨b61, rfl, hb61⟩ := f61
          have hc61 := Dag.cell_of_heap hb61
          have e61 := Dag.eval_of y61
          refine Dag.wpOp_lit rfl ?_
          go_simp
          refine (union_blk2 2 8 (by omega) hb61).mono ?_
          rintro e w_c ⟨rfl, rfl⟩
          rw [hu2]
          exact hK _ _ rfl (Ext.refl _)
        · intro a' w' K hext hsees hK
          obtain ⟨v60, y60, f60⟩ := hsees.new (t := 60) (j := 6) (by kernel_rfl) (by kernel_rfl)
          obtain rfl : v60 = (.int .u32 ((o : Nat) : Int)) := f60
          have e60 := Dag.eval_of y60
          obtain ⟨v62, y62, f62⟩ := hsees.new (t := 62) (j := 8) (by kernel_rfl) (by kernel_rfl)
          obtain rfl : v62 = (.int .u32 10) := f62
          have e62 := Dag.eval_of y62
          refine Dag.wpOp_lit rfl ?_
          go_simp
          exact hK _ _ rfl (Ext.refl _)
        · intro a' w' K hext hsees hK
          obtain ⟨v54, y54, f54⟩ := hsees.new (t := 54) (j := 0) (by kernel_rfl) (by kernel_rfl)
          obtain rfl : v54 = (.int .u32 ((t &&& 514 : Nat) : Int)) := f54
          have e54 := Dag.eval_of y54
          obtain ⟨v57, y57, f57⟩ := hsees.new (t := 57) (j := 3) (by kernel_rfl) (by kernel_rfl)
          obtain rfl : v57 = (.int .u32 ((wantedN o a : Nat) : Int)) := f57
          have e57 := Dag.eval_of y57
          obtain ⟨v59, y59, f59⟩ := hsees.new (t := 59) (j := 5) (by kernel_rfl) (by kernel_rfl)
          obtain rfl : v59 = (.int .u32 ((a &&& 2048 : Nat) : Int)) := f59
          have e59 := Dag.eval_of y59
          obtain ⟨v63, y63, f63⟩ := hsees.new (t := 63) (j := 9) (by kernel_rfl) (by kernel_rfl)
          obtain rfl : v63 = (.int .u32 ((o &&& 10 : Nat) : Int)) := f63
          have e63 := Dag.eval_of y63
          refine Dag.wpOp_lit rfl ?_
          go_simp
          exact hK _ _ ⟨_, rfl, heap_new _ _⟩ ((Ext.refl _).alloc _)
        · intro a' w' K hext hsees hK
          obtain ⟨v64, y64, f64⟩ := hsees.new (t := 64) (j := 10) (by kernel_rfl) (by kernel_rfl)
          obtain ⟨b64, rfl, hb64⟩ := f64
          have hc64 := Dag.cell_of_heap hb64
          have e64 := Dag.eval_of y64
          refine Dag.wpOp_lit rfl ?_
          go_simp
          refine (union_blk4 _ _ _ _ (by omega) hb64).mono ?_
          rintro e w_c ⟨rfl, rfl⟩
          rw [hu3]
          exact hK _ _ rfl (Ext.refl _)
        · intro a' w' K hext hsees hK
          obtain ⟨v65, y65, f65⟩ := hsees.new (t := 65) (j := 11) (by kernel_rfl) (by kernel_rfl)
          obtain rfl : v65 = (.int .u32 ((t &&& 514 ||| wantedN o a ||| (a &&& 2048) ||| (o &&& 10) : Nat) : Int)) := f65
          have e65 := Dag.eval_of y65
          refine Dag.wpOp_lit rfl ?_
          go_simp
          exact hK _ _ rfl (Ext.refl _)
        · intro a' w' K hext hsees hK
          refine Dag.wpOp_lit rfl ?_
          go_simp
          exact hK _ _ rfl (Ext.refl _)
        intro vs w' hw' hv
        have h12 : vs 12 = (.int .u32 ((t &&& 514 ||| wantedN o a ||| (a &&& 2048) ||| (o &&& 10) : Nat) : Int)) := hv 12 (by decide)
        have h13 : vs 13 = (.int .i64 0) := hv 13 (by decide)
        simp only [Dag.putL, Act.put, List.setIfInBounds_toArray, List.set_cons_zero, List.set_cons_succ, h12, h13]
        go_wp2_with fail
        go_ret2
        unfold GrantPost
        rw [HG.out]
        exact ⟨rfl, (XW.out.trans ((Ext.refl _).drew.trans hw1)).trans ((Ext.refl _).drew.trans hw')⟩
      · rw [if_pos rfl] at HG
        go_wp2
        go_ret2
        unfold GrantPost
        rw [HG.out]
        exact ⟨rfl, XW.out⟩
    · have d : ((er : Int) != 0) = true := by simpa using he
      have HE := Lib.hid he
      clear he
      go_wp2
      go_ret2
      unfold GrantPost
      rw [HG.out, if_neg HE.out]
      exact ⟨rfl, XW.out⟩
end Go.Proofs.YtbgiciijiopklaaDoor
