/- Contracts of package flags: first at rules whose functions are known, Initial. Numbers of 32 bits. -/
import Derived.Test.YtbgiciijiopklaaDoorFlagB
import Derived.Laws.EntriesVeiled
import Derived.Shelf.Abstract
namespace Go.Proofs.YtbgiciijiopklaaDoor
open Go.RowKit Go.Shelf
theorem cell_at0 {w : World} {b : Nat} {a c : Value} {T : TypeId} (h : w.heap[b]? = some (.cells #[a, c] T (0, 0))) : w.cell? ⟨b, 0, none⟩ = some a := by simp [World.cell?, h]
/-- A rule: the error, the function, what it has captured, whether it holds. -/
structure RuleD where
  err : Int
  fn : Nat
  caps : Array Value
  holds : Bool
def RuleOk (w : World) (r : RuleD) : Prop :=
  (∀ (args : Array Value) (W : World), (callFunc r.fn args).run Tryd.prog W = .ok (.enter r.fn args) W) ∧ ∀ W, Ext w W → Calls Tryd.prog r.fn r.caps W fun e W' => e = .returned (.bool r.holds) ∧ Ext W W'
/-- The cells of rules. -/
def RuleCells (w : World) (b : Nat) (rs : List RuleD) : Prop :=
  ∀ j (h : j < rs.length), w.cell? ⟨b, j * 2, none⟩ = some (.int .i64 rs[j].err) ∧ w.cell? ⟨b, j * 2 + 1, none⟩ = some (.func (.func rs[j].fn) #[] rs[j].caps)
theorem RuleCells.ext {w w' : World} {b : Nat} {rs : List RuleD} (h : RuleCells w b rs) (e : Ext w w') : RuleCells w' b rs :=
  fun j hj => ⟨e.cell (h j hj).1, e.cell (h j hj).2⟩
/-- The error of the first rule that does not hold, or 0. -/
def firstR (rs : List RuleD) : Int := match rs.find? (fun r => !r.holds) with | some r => r.err | none => 0
theorem firstR_none (rs : List RuleD) (h : ∀ r ∈ rs, r.holds = true) : firstR rs = 0 := by
  unfold firstR
  rw [List.find?_eq_none.2 (fun r hr => by simp [h r hr])]
theorem firstR_at (rs : List RuleD) (k : Nat) (hk : k < rs.length) (h0 : rs[k].holds = false) (h : ∀ r ∈ rs.take k, r.holds = true) : firstR rs = rs[k].err := by
  unfold firstR
  have : rs.find? (fun r => !r.holds) = some rs[k] := by
    rw [List.find?_eq_some_iff_append]
    refine ⟨by simp [h0], rs.take k, rs.drop (k + 1), by simp, fun a ha => by simp [h a ha]⟩
  rw [this]
set_option maxHeartbeats 1600000 in
theorem first_any (b cap len : Nat) (rs : List RuleD) (w : World) (hlen : len = rs.length) (hbig : len ≤ 1000) (hc : RuleCells w b rs) (hr : ∀ r ∈ rs, RuleOk w r) :
    Calls Tryd.prog 46 #[.slice (some ⟨b, 0, none⟩) len cap] w fun e w' => e = .returned (.int .i64 (firstR rs)) ∧ Ext w w' := by
  subst hlen
  have HR := Lib.hid hr
  have HC := Lib.hid hc
  clear hr hc
  go_enter Tryd.func46, Tryd.ntmps46
  go_wp2
  go_loopw [7] (fun i wr => ∃ k : Nat, k ≤ rs.length ∧ i = .int .i64 k ∧ (∀ r ∈ rs.take k, r.holds = true) ∧ Ext w wr) (fun i _ => rs.length - (intOf i).toNat)
  case atStart => exact ⟨0, Nat.zero_le _, rfl, by simp, Ext.refl _⟩
  case round =>
    obtain ⟨k, hk, rfl, hn, hx⟩ := hrel
    have Hn := Lib.hid hn
    clear hn
    by_cases hlt : k < rs.length
    · have hcell := ((HC.out.ext hx) k hlt).1
      have hcell2 := ((HC.out.ext hx) k hlt).2
      obtain ⟨heg, hcall⟩ := HR.out rs[k] (List.getElem_mem hlt)
      have HF : Hid (rs[k].holds = false → firstR rs = rs[k].err) := fun h0 => firstR_at rs k hlt h0 Hn.out
      have HT : Hid (rs[k].holds = true → ∀ r ∈ rs.take (k + 1), r.holds = true) := fun h0 => by
        intro r hr
        rw [List.take_succ_eq_append_getElem hlt, List.mem_append] at hr
        rcases hr with hr | hr
        · exact Hn.out r hr
        · rw [List.mem_singleton] at hr; subst hr; exact h0
      generalize hrk : rs[k] = rk at *
      obtain ⟨err, fn, caps, holds⟩ := rk
      simp only at hcell hcell2 heg hcall
      have HCall := Lib.hid hcall
      clear hrk hcall
      go_wp2
      refine (HCall.out _ (hx.alloc _)).mono ?_
      rintro e w2 ⟨rfl, hx2⟩
      have h0 : w2.cell? ⟨wr.heap.size, 0, none⟩ = some (.int .i64 err) := hx2.cell (cell_at0 (heap_new wr _))
      have HX := Lib.hid ((hx.alloc (.cells #[.int .i64 err, .func (.func fn) #[] caps] 83)).trans hx2)
      clear hx2 hcell hcell2 heg
      cases holds
      · go_wp2
        go_ret
        exact ⟨ret_int (HF.out (by first | rfl | trivial)).symm, HX.out⟩
      · go_wp2
        go_roundw
        case rel => exact ⟨k + 1, by omega, by go_num, HT.out (by first | rfl | trivial), HX.out⟩
        case measure => simp [intOf]; omega
    · have hk' : k = rs.length := by omega
      have HK := Lib.hid hk'
      clear hk'
      go_wp2
      go_ret
      refine ⟨ret_int (firstR_none rs ?_).symm, hx⟩
      have := Hn.out; rw [HK.out, List.take_length] at this; exact this
/-- The initial flags and the error. -/
def initR (o a : Nat) (pre : Bool) : Nat × Int :=
  if optB o && ticketB a then if noneB o 720906 then if !hasB o 32 || hasB a 16 then (if pre then wantedN o a ||| 256 ||| 512 else wantedN o a ||| 256, 0) else (0, 151) else (0, 150) else (0, 2)
theorem initR_def (o a : Nat) (pre : Bool) : initR o a pre = if optB o && ticketB a then if noneB o 720906 then if !hasB o 32 || hasB a 16 then (if pre then wantedN o a ||| 256 ||| 512 else wantedN o a ||| 256, 0) else (0, 151) else (0, 150) else (0, 2) := rfl
theorem rules3 {w : World} {b : Nat} {r0 r1 r2 : RuleD} {T : TypeId} {fr : Nat × Nat} (h : w.heap[b]? = some (.cells #[.int .i64 r0.err, .func (.func r0.fn) #[] r0.caps, .int .i64 r1.err, .func (.func r1.fn) #[] r1.caps, .int .i64 r2.err, .func (.func r2.fn) #[] r2.caps] T fr)) : RuleCells w b [r0, r1, r2] := by
  intro j hj
  match j, hj with
  | 0, _ => simp [World.cell?, h]
  | 1, _ => simp [World.cell?, h]
  | 2, _ => simp [World.cell?, h]
def InitPost (o a : Nat) (pre : Bool) (w : World) (e : Ending) (w' : World) : Prop := e = .returned (.tuple #[.int .u32 ((initR o a pre).1 : Nat), .int .i64 (initR o a pre).2]) ∧ Ext w w'
theorem init_of {o a v : Nat} {pre : Bool} {er : Int} {w w' : World} (h : initR o a pre = (v, er)) (hx : Ext w w') : InitPost o a pre w (.returned (.tuple #[.int .u32 (v : Int), .int .i64 er])) w' := by unfold InitPost; rw [h]; exact ⟨rfl, hx⟩
def initRules (w : World) (o a : Nat) : List RuleD := [⟨2, 47, #[.pointer (some ⟨w.heap.size, 0, none⟩), .pointer (some ⟨w.heap.size + 1, 0, none⟩)], optB o && ticketB a⟩, ⟨150, 48, #[.pointer (some ⟨w.heap.size, 0, none⟩)], noneB o 720906⟩, ⟨151, 50, #[.pointer (some ⟨w.heap.size, 0, none⟩), .pointer (some ⟨w.heap.size + 1, 0, none⟩)], !hasB o 32 || hasB a 16⟩]
theorem init_first (w : World) (o a : Nat) : firstR (initRules w o a) = if optB o && ticketB a then if noneB o 720906 then if !hasB o 32 || hasB a 16 then 0 else 151 else 150 else 2 := by
  unfold initRules firstR
  generalize (optB o && ticketB a) = b1
  generalize noneB o 720906 = b2
  generalize (!hasB o 32 || hasB a 16) = b3
  cases b1 <;> cases b2 <;> cases b3 <;> rfl
set_option maxRecDepth 8000 in
set_option maxHeartbeats 3200000 in
theorem initial_any (o a : Nat) (pre : Bool) (ho : o < 4294967296) (ha : a < 4294967296) (w : World) :
    Calls Tryd.prog 25 #[.int .u32 (o : Int), .int .u32 (a : Int), .bool pre] w (InitPost o a pre w) := by
  have hmf : ∀ (fn : Fn) (first cap : Array Value) (w : World), (Instr.makeFunc fn first cap).run Tryd.prog w = .ok (.func fn first cap) w := fun _ _ _ _ => rfl
  have HI := Lib.hid (init_first w o a)
  have HD := Lib.hid (initR_def o a pre)
  go_enter Tryd.func25, Tryd.ntmps25
  go_wp2_with fail
  have k1 := ((((Ext.refl w).alloc (.cells #[.int .u32 (o : Int)] 24)).alloc (.cells #[.int .u32 (a : Int)] 24)))
  have c1 : ∀ o3, (((w.alloc (.cells #[.int .u32 (o : Int)] 24)).alloc (.cells #[.int .u32 (a : Int)] 24)).alloc o3).cell? ⟨w.heap.size, 0, none⟩ = some (.int .u32 (o : Int)) := fun o3 => by simp [go_sem]
  have c2 : ∀ o3, (((w.alloc (.cells #[.int .u32 (o : Int)] 24)).alloc (.cells #[.int .u32 (a : Int)] 24)).alloc o3).cell? ⟨w.heap.size + 1, 0, none⟩ = some (.int .u32 (a : Int)) := fun o3 => by simp [go_sem]
  have C := Lib.hid (And.intro c1 c2)
  clear c1 c2 k1
  (go_at_call 46; refine (first_any (w.heap.size + 1 + 1) 3 3 (initRules w o a) _ rfl (by decide) (rules3 (heap_new3 w _ _ _)) ?_).mono ?_)
  · intro r hr
    simp only [initRules, List.mem_cons, List.not_mem_nil, or_false] at hr
    rcases hr with rfl | rfl | rfl
    · exact ⟨enters_of Tryd.func47 (by kernel_rfl) rfl, fun W hx => initial1_any _ _ o a ho ha W (hx.cell (C.out.1 _)) (hx.cell (C.out.2 _))⟩
    · exact ⟨enters_of Tryd.func48 (by kernel_rfl) rfl, fun W hx => initial2_any _ o ho W (hx.cell (C.out.1 _))⟩
    · exact ⟨enters_of Tryd.func50 (by kernel_rfl) rfl, fun W hx => (initial3_any _ _ o a ho ha W (hx.cell (C.out.1 _)) (hx.cell (C.out.2 _))).mono fun e w' ⟨he, hw⟩ => ⟨he, hw ▸ Ext.refl _⟩⟩
  rintro e w1 ⟨rfl, hx1⟩
  have X1 := Lib.hid (hx1.cell (C.out.1 _))
  have X2 := Lib.hid (hx1.cell (C.out.2 _))
  have X3 := Lib.hid ((((Ext.refl w).alloc _).alloc _ |>.alloc _).trans hx1)
  clear hx1
  by_cases h0 : (optB o && ticketB a) = true ∧ noneB o 720906 = true ∧ (!hasB o 32 || hasB a 16) = true
  · have hF : firstR (initRules w o a) = 0 := by rw [HI.out, if_pos h0.1, if_pos h0.2.1, if_pos h0.2.2]
    have hD : initR o a pre = (if pre then wantedN o a ||| 256 ||| 512 else wantedN o a ||| 256, 0) := by rw [HD.out, if_pos h0.1, if_pos h0.2.1, if_pos h0.2.2]
    have HD2 := Lib.hid hD
    rw [hF]
    have hw := wantedN_lt o a ho
    have o1 := orI2 (wantedN o a) 256 256 rfl
    have o2 := orI2 (wantedN o a ||| 256) 512 512 rfl
    have l1 : wantedN o a ||| 256 < 4294967296 := or32 hw (by decide)
    generalize hwn : wantedN o a = wn at *
    have HWN := Lib.hid hwn
    clear hwn
    generalize wn ||| 256 = x at *
    generalize x ||| 512 = y at *
    have x1 := X1.out
    have x2 := X2.out
    clear hD hF h0
    cases pre
    all_goals
      go_wp2_with (first | (go_at_call 51; (with_reducible refine (wanted_any o a ho ha _).mono ?_); rintro e w2 ⟨rfl, hx2⟩; rw [HWN.out]) | (go_at_call 42; (with_reducible refine (union_blk2 _ _ (by omega) (heap_new _ _)).mono ?_); rintro e w' ⟨rfl, rfl⟩; rw [o1]) | (go_at_call 42; refine (union_blk2 _ _ (by omega) (heap_new2 _ _ _)).mono ?_; rintro e w' ⟨rfl, rfl⟩; rw [o2]))
    · go_ret2
      exact init_of (v := x) (HD2.out.trans (by simp)) ((X3.out.trans hx2).alloc _)
    · go_ret2
      exact init_of (v := y) (HD2.out.trans (by simp)) (((X3.out.trans hx2).alloc _).alloc _)
  · have hD : initR o a pre = (0, firstR (initRules w o a)) := by
      rw [HD.out, HI.out]
      by_cases h1 : (optB o && ticketB a) = true
      · by_cases h2 : noneB o 720906 = true
        · by_cases h3 : (!hasB o 32 || hasB a 16) = true
          · exact absurd ⟨h1, h2, h3⟩ h0
          · rw [if_pos h1, if_pos h2, if_neg h3, if_pos h1, if_pos h2, if_neg h3]
        · rw [if_pos h1, if_neg h2, if_pos h1, if_neg h2]
      · rw [if_neg h1, if_neg h1]
    have hne : firstR (initRules w o a) ≠ 0 := by
      rw [HI.out]
      by_cases h1 : (optB o && ticketB a) = true
      · by_cases h2 : noneB o 720906 = true
        · by_cases h3 : (!hasB o 32 || hasB a 16) = true
          · exact absurd ⟨h1, h2, h3⟩ h0
          · rw [if_pos h1, if_pos h2, if_neg h3]; decide
        · rw [if_pos h1, if_neg h2]; decide
      · rw [if_neg h1]; decide
    have HD2 := Lib.hid hD
    clear hD h0
    generalize firstR (initRules w o a) = er at *
    have d1 : ((er : Int) != 0) = true := by simpa using hne
    clear hne
    go_wp2
    go_ret2
    exact init_of (v := 0) HD2.out X3.out
end Go.Proofs.YtbgiciijiopklaaDoor
