/- Contracts of the reference of flags: wanted, denied, First, Grant. -/
import Derived.Test.YtbgiciijiopklaaDoorRefB
namespace Go.Proofs.YtbgiciijiopklaaDoor
open Go.RowKit Go.Shelf
theorem orN {a b : Nat} (ha : a < 4294967296) (hb : b < 4294967296) (z : Int) (hz : z = b) : bits .or .u32 (a : Int) z = ((a ||| b : Nat) : Int) := by subst hz; exact u32_or_nat a b ha hb
theorem of149 : ofI [0, 2, 4, 7] = 149 := by rw [ofI_def]; decide
theorem of96 : ofI [5, 6] = 96 := by rw [ofI_def]; decide
theorem of256 : ofI [8] = 256 := by rw [ofI_def]; decide
theorem of512 : ofI [9] = 512 := by rw [ofI_def]; decide
theorem of720906 : ofI [1, 3, 16, 17, 19] = 720906 := by rw [ofI_def]; decide
theorem of262144 : ofI [18] = 262144 := by rw [ofI_def]; decide
theorem of131072 : ofI [17] = 131072 := by rw [ofI_def]; decide
theorem of65536 : ofI [16] = 65536 := by rw [ofI_def]; decide
theorem of64 : ofI [6] = 64 := by rw [ofI_def]; decide
theorem of514 : ofI [1, 9] = 514 := by rw [ofI_def]; decide
theorem of2048 : ofI [11] = 2048 := by rw [ofI_def]; decide
theorem of10 : ofI [1, 3] = 10 := by rw [ofI_def]; decide
set_option maxHeartbeats 800000 in
theorem rWanted_any (o a : Nat) (ho : o < 4294967296) (ha : a < 4294967296) (w : World) : Calls Tryd.prog 53 #[.int .u32 (o : Int), .int .u32 (a : Int)] w fun e w' => e = .returned (.int .u32 (wantedN o a : Nat)) ∧ Ext w w' := by
  have h1 := u32_and_nat o a ho ha
  have h2 := andI (o &&& a) 149 (and32 ho) (by decide) 149 rfl
  have hlt : o &&& a &&& 149 < 4294967296 := and32 (and32 ho)
  have hd := wantedN_def o a
  have hor := orN (b := 96) hlt (by decide) 96 rfl
  have hass : o &&& a &&& 149 ||| 32 ||| 64 = o &&& a &&& 149 ||| 96 := by rw [Nat.or_assoc]; rfl
  generalize o &&& a = x at *
  generalize x &&& 149 = y at *
  cases hb : hasB o 32
  · have HD : Hid (wantedN o a = y) := by rw [hd, hb]; exact rfl
    have HB := Lib.hid hb
    clear hd hb hass
    go_enter Tryd.func53, Tryd.ntmps53
    go_wp2_with (first | (go_at_call 52; (with_reducible refine (rOf4 _ _ _ _ (by omega) (heap_new _ _)).mono ?_); rintro e w' ⟨rfl, rfl⟩; rw [of149]) | (go_at_call 23; (with_reducible refine (rHas_has o 5 32 (by decide) (by decide) 5 (by decide) _).mono ?_); rintro e w' ⟨rfl, rfl⟩; rw [HB.out]))
    go_ret
    exact ⟨ret_int (by rw [HD.out]), (Ext.refl w).alloc _⟩
  · have HD : Hid (wantedN o a = y ||| 96) := by rw [hd, hb]; exact hass
    have HB := Lib.hid hb
    clear hd hb hass
    go_enter Tryd.func53, Tryd.ntmps53
    go_wp2_with (first | (go_at_call 52; (with_reducible refine (rOf4 _ _ _ _ (by omega) (heap_new _ _)).mono ?_); rintro e w' ⟨rfl, rfl⟩; rw [of149]) | (go_at_call 52; (with_reducible refine (rOf2 _ _ (by omega) (heap_new2 _ _ _)).mono ?_); rintro e w' ⟨rfl, rfl⟩; rw [of96]) | (go_at_call 23; (with_reducible refine (rHas_has o 5 32 (by decide) (by decide) 5 (by decide) _).mono ?_); rintro e w' ⟨rfl, rfl⟩; rw [HB.out]))
    go_ret
    exact ⟨ret_int (by rw [HD.out]), ((Ext.refl w).alloc _).alloc _⟩
def denB (o p t a g : Nat) : Bool := hasB o p && (!hasB t g || !hasB a g)
theorem denB_def (o p t a g : Nat) : denB o p t a g = (hasB o p && (!hasB t g || !hasB a g)) := rfl
attribute [irreducible] denB
set_option maxHeartbeats 800000 in
theorem rDenied_any (o t a i j p g : Nat) (hi : i < 32) (hj : j < 32) (hp : p = 2 ^ i) (hg : g = 2 ^ j) (zi zj : Int) (hzi : zi = i) (hzj : zj = j) (w : World) :
    Calls Tryd.prog 62 #[.int .u32 (o : Int), .int .i64 zi, .int .u32 (t : Int), .int .u32 (a : Int), .int .i64 zj] w fun e w' => e = .returned (.bool (denB o p t a g)) ∧ w = w' := by
  subst hzi hzj
  have HP := Lib.hid hp
  have HG := Lib.hid hg
  have HD := Lib.hid (denB_def o p t a g)
  clear hp hg
  cases h1 : hasB o p <;> cases h2 : hasB t g <;> cases h3 : hasB a g
  all_goals
    have H1 := Lib.hid h1
    have H2 := Lib.hid h2
    have H3 := Lib.hid h3
    clear h1 h2 h3
    go_enter Tryd.func62, Tryd.ntmps62
    go_wp2_with (first | (go_at_call 23; (with_reducible refine (rHas_has o i p hi HP.out _ rfl _).mono ?_); rintro e w' ⟨rfl, rfl⟩; rw [H1.out]) | (go_at_call 23; (with_reducible refine (rHas_has t j g hj HG.out _ rfl _).mono ?_); rintro e w' ⟨rfl, rfl⟩; rw [H2.out]) | (go_at_call 23; (with_reducible refine (rHas_has a j g hj HG.out _ rfl _).mono ?_); rintro e w' ⟨rfl, rfl⟩; rw [H3.out]))
    go_ret
    exact ⟨ret_bool (by rw [HD.out, H1.out, H2.out, H3.out]; rfl), rfl⟩
theorem ne_zero (n : Nat) : (((n : Nat) : Int) != 0) = !decide (n = 0) := by rw [bne, beq_zero]
theorem ne_nat (n m : Nat) (z : Int) (hz : z = m) : (((n : Nat) : Int) != z) = !decide (n = m) := by subst hz; rw [bne, beq_nat]
set_option maxHeartbeats 3200000 in
theorem rFirst_any (o a : Nat) (pre : Bool) (ho : o < 4294967296) (ha : a < 4294967296) (w : World) : Calls Tryd.prog 26 #[.int .u32 (o : Int), .int .u32 (a : Int), .bool pre] w (InitPost o a pre w) := by
  have HD := Lib.hid (initR_def o a pre)
  have h1 := andI o 720906 ho (by decide) 720906 rfl
  have h2 := ne_zero (o &&& 720906)
  have HN := Lib.hid (noneB_def o 720906)
  have hw := wantedN_lt o a ho
  have o1 := orN (b := 256) hw (by decide) 256 rfl
  have l1 : wantedN o a ||| 256 < 4294967296 := or32 hw (by decide)
  have o2 := orN (b := 512) l1 (by decide) 512 rfl
  generalize o &&& 720906 = x at *
  cases b1 : optB o
  · have B1 := Lib.hid b1
    clear b1
    go_enter Tryd.func26, Tryd.ntmps26
    go_wp2_with (first | (go_at_call 14; (with_reducible refine (rOptions_any o ho _).mono ?_); rintro e w' ⟨rfl, rfl⟩; rw [B1.out]))
    go_ret2
    exact init_of (v := 0) (by rw [HD.out, B1.out]; rfl) (Ext.refl _)
  have B1 := Lib.hid b1
  clear b1
  cases b2 : ticketB a
  · have B2 := Lib.hid b2
    clear b2
    go_enter Tryd.func26, Tryd.ntmps26
    go_wp2_with (first | (go_at_call 14; (with_reducible refine (rOptions_any o ho _).mono ?_); rintro e w' ⟨rfl, rfl⟩; rw [B1.out]) | (go_at_call 12; (with_reducible refine (rTicket_any a _).mono ?_); rintro e w' ⟨rfl, rfl⟩; rw [B2.out]))
    go_ret2
    exact init_of (v := 0) (by rw [HD.out, B1.out, B2.out]; rfl) (Ext.refl _)
  have B2 := Lib.hid b2
  clear b2
  by_cases b3 : x = 0
  · have HN2 : Hid (noneB o 720906 = true) := by rw [HN.out, decide_eq_true b3]; exact rfl
    have h3 : (((x : Nat) : Int) != 0) = false := by rw [h2, decide_eq_true b3]; rfl
    clear h2 b3 HN
    cases b4 : hasB o 32
    · have HI : Hid (initR o a pre = (if pre then wantedN o a ||| 256 ||| 512 else wantedN o a ||| 256, 0)) := by rw [HD.out, B1.out, B2.out, HN2.out, b4]; exact rfl
      have B4 := Lib.hid b4
      clear b4 HD
      generalize hwn : wantedN o a = wn at *
      have HW := Lib.hid hwn
      clear hwn
      generalize wn ||| 256 = y at *
      generalize y ||| 512 = z at *
      cases pre
      all_goals
        go_enter Tryd.func26, Tryd.ntmps26
        go_wp2_with (first | (go_at_call 14; (with_reducible refine (rOptions_any o ho _).mono ?_); rintro e w' ⟨rfl, rfl⟩; rw [B1.out]) | (go_at_call 12; (with_reducible refine (rTicket_any a _).mono ?_); rintro e w' ⟨rfl, rfl⟩; rw [B2.out]) | (go_at_call 52; (with_reducible refine (rOf5 _ _ _ _ _ (by omega) (heap_new _ _)).mono ?_); rintro e w' ⟨rfl, rfl⟩; rw [of720906]) | (go_at_call 23; (with_reducible refine (rHas_has o 5 32 (by decide) (by decide) 5 (by decide) _).mono ?_); rintro e w' ⟨rfl, rfl⟩; rw [B4.out]) | ((go_at_call 53; (with_reducible refine (rWanted_any o a ho ha _).mono ?_); rintro e w2 ⟨rfl, hx2⟩); rw [HW.out]) | (go_at_call 52; (with_reducible refine (rOf1 _ (by omega) (heap_new _ _)).mono ?_); rintro e w' ⟨rfl, rfl⟩; rw [of256]) | (go_at_call 52; (with_reducible refine (rOf1 _ (by omega) (heap_new2 _ _ _)).mono ?_); rintro e w' ⟨rfl, rfl⟩; rw [of512]))
        go_ret2
      · exact init_of (v := y) (by rw [HI.out]; rfl) (((((Ext.refl w).alloc _).trans hx2).alloc _))
      · exact init_of (v := z) (by rw [HI.out]; rfl) ((((((Ext.refl w).alloc _).trans hx2).alloc _)).alloc _)
    · cases b5 : hasB a 16
      · have HI : Hid (initR o a pre = (0, 151)) := by rw [HD.out, B1.out, B2.out, HN2.out, b4, b5]; exact rfl
        have B4 := Lib.hid b4
        have B5 := Lib.hid b5
        clear b4 b5 HD
        go_enter Tryd.func26, Tryd.ntmps26
        go_wp2_with (first | (go_at_call 14; (with_reducible refine (rOptions_any o ho _).mono ?_); rintro e w' ⟨rfl, rfl⟩; rw [B1.out]) | (go_at_call 12; (with_reducible refine (rTicket_any a _).mono ?_); rintro e w' ⟨rfl, rfl⟩; rw [B2.out]) | (go_at_call 52; (with_reducible refine (rOf5 _ _ _ _ _ (by omega) (heap_new _ _)).mono ?_); rintro e w' ⟨rfl, rfl⟩; rw [of720906]) | (go_at_call 23; (with_reducible refine (rHas_has o 5 32 (by decide) (by decide) 5 (by decide) _).mono ?_); rintro e w' ⟨rfl, rfl⟩; rw [B4.out]) | (go_at_call 23; (with_reducible refine (rHas_has a 4 16 (by decide) (by decide) 4 (by decide) _).mono ?_); rintro e w' ⟨rfl, rfl⟩; rw [B5.out]))
        go_ret2
        exact init_of (v := 0) HI.out ((Ext.refl w).alloc _)
      · have HI : Hid (initR o a pre = (if pre then wantedN o a ||| 256 ||| 512 else wantedN o a ||| 256, 0)) := by rw [HD.out, B1.out, B2.out, HN2.out, b4, b5]; exact rfl
        have B4 := Lib.hid b4
        have B5 := Lib.hid b5
        clear b4 b5 HD
        generalize hwn : wantedN o a = wn at *
        have HW := Lib.hid hwn
        clear hwn
        generalize wn ||| 256 = y at *
        generalize y ||| 512 = z at *
        cases pre
        all_goals
          go_enter Tryd.func26, Tryd.ntmps26
          go_wp2_with (first | (go_at_call 14; (with_reducible refine (rOptions_any o ho _).mono ?_); rintro e w' ⟨rfl, rfl⟩; rw [B1.out]) | (go_at_call 12; (with_reducible refine (rTicket_any a _).mono ?_); rintro e w' ⟨rfl, rfl⟩; rw [B2.out]) | (go_at_call 52; (with_reducible refine (rOf5 _ _ _ _ _ (by omega) (heap_new _ _)).mono ?_); rintro e w' ⟨rfl, rfl⟩; rw [of720906]) | (go_at_call 23; (with_reducible refine (rHas_has o 5 32 (by decide) (by decide) 5 (by decide) _).mono ?_); rintro e w' ⟨rfl, rfl⟩; rw [B4.out]) | (go_at_call 23; (with_reducible refine (rHas_has a 4 16 (by decide) (by decide) 4 (by decide) _).mono ?_); rintro e w' ⟨rfl, rfl⟩; rw [B5.out]) | ((go_at_call 53; (with_reducible refine (rWanted_any o a ho ha _).mono ?_); rintro e w2 ⟨rfl, hx2⟩); rw [HW.out]) | (go_at_call 52; (with_reducible refine (rOf1 _ (by omega) (heap_new _ _)).mono ?_); rintro e w' ⟨rfl, rfl⟩; rw [of256]) | (go_at_call 52; (with_reducible refine (rOf1 _ (by omega) (heap_new2 _ _ _)).mono ?_); rintro e w' ⟨rfl, rfl⟩; rw [of512]))
          go_ret2
        · exact init_of (v := y) (by rw [HI.out]; rfl) (((((Ext.refl w).alloc _).trans hx2).alloc _))
        · exact init_of (v := z) (by rw [HI.out]; rfl) ((((((Ext.refl w).alloc _).trans hx2).alloc _)).alloc _)
  · have HI : Hid (initR o a pre = (0, 150)) := by rw [HD.out, B1.out, B2.out, HN.out, decide_eq_false b3]; exact rfl
    have h3 : (((x : Nat) : Int) != 0) = true := by rw [h2, decide_eq_false b3]; rfl
    clear h2 b3 HN HD
    go_enter Tryd.func26, Tryd.ntmps26
    go_wp2_with (first | (go_at_call 14; (with_reducible refine (rOptions_any o ho _).mono ?_); rintro e w' ⟨rfl, rfl⟩; rw [B1.out]) | (go_at_call 12; (with_reducible refine (rTicket_any a _).mono ?_); rintro e w' ⟨rfl, rfl⟩; rw [B2.out]) | (go_at_call 52; (with_reducible refine (rOf5 _ _ _ _ _ (by omega) (heap_new _ _)).mono ?_); rintro e w' ⟨rfl, rfl⟩; rw [of720906]))
    go_ret2
    exact init_of (v := 0) HI.out ((Ext.refl w).alloc _)
theorem rOf1' (x0 : Int) {b cap : Nat} {T : TypeId} {fr : Nat × Nat} {w : World} (h : w.heap[b]? = some (.cells #[.int .i64 x0] T fr)) (h0 : 0 ≤ x0 ∧ x0 < 32) :
    Calls Tryd.prog 52 #[.slice (some ⟨b, 0, none⟩) 1 cap] w fun e w' => e = .returned (.int .u32 (ofI [x0])) ∧ w = w' := rOf1 x0 h0 h
theorem rOf2' (x0 x1 : Int) {b cap : Nat} {T : TypeId} {fr : Nat × Nat} {w : World} (h : w.heap[b]? = some (.cells #[.int .i64 x0, .int .i64 x1] T fr)) (h0 : 0 ≤ x0 ∧ x0 < 32 ∧ 0 ≤ x1 ∧ x1 < 32) :
    Calls Tryd.prog 52 #[.slice (some ⟨b, 0, none⟩) 2 cap] w fun e w' => e = .returned (.int .u32 (ofI [x0, x1])) ∧ w = w' := rOf2 x0 x1 h0 h
theorem rOf4' (x0 x1 x2 x3 : Int) {b cap : Nat} {T : TypeId} {fr : Nat × Nat} {w : World} (h : w.heap[b]? = some (.cells #[.int .i64 x0, .int .i64 x1, .int .i64 x2, .int .i64 x3] T fr)) (h0 : 0 ≤ x0 ∧ x0 < 32 ∧ 0 ≤ x1 ∧ x1 < 32 ∧ 0 ≤ x2 ∧ x2 < 32 ∧ 0 ≤ x3 ∧ x3 < 32) :
    Calls Tryd.prog 52 #[.slice (some ⟨b, 0, none⟩) 4 cap] w fun e w' => e = .returned (.int .u32 (ofI [x0, x1, x2, x3])) ∧ w = w' := rOf4 x0 x1 x2 x3 h0 h
/-- The granted flags and the error, as the document says. -/
def grantRef (o t a : Nat) : Nat × Int :=
  if !optB o || !ticketB t || !ticketB a then (0, 2)
  else if (hasB o 131072 || hasB o 65536) && (!decide (offN o 262144 = 131072) && !decide (offN o 262144 = 65536)) then (0, 150)
  else if hasB o 131072 != hasB t 64 then (0, 152)
  else if hasB o 131072 then (offN t 64, 0)
  else if hasB o 65536 then (if hasB t 128 then (t, 0) else (0, 151))
  else if !decide (offN (o &&& 149) t = 0) then (0, 151)
  else if denB o 2 t a 1 || denB o 8 t a 4 || denB o 32 t a 16 then (0, 151)
  else (t &&& 514 ||| wantedN o a ||| (a &&& 2048) ||| (o &&& 10), 0)
theorem grantRef_def (o t a : Nat) : grantRef o t a = if !optB o || !ticketB t || !ticketB a then (0, 2)
  else if (hasB o 131072 || hasB o 65536) && (!decide (offN o 262144 = 131072) && !decide (offN o 262144 = 65536)) then (0, 150)
  else if hasB o 131072 != hasB t 64 then (0, 152)
  else if hasB o 131072 then (offN t 64, 0)
  else if hasB o 65536 then (if hasB t 128 then (t, 0) else (0, 151))
  else if !decide (offN (o &&& 149) t = 0) then (0, 151)
  else if denB o 2 t a 1 || denB o 8 t a 4 || denB o 32 t a 16 then (0, 151)
  else (t &&& 514 ||| wantedN o a ||| (a &&& 2048) ||| (o &&& 10), 0) := rfl
def GRefPost (o t a : Nat) (w : World) (e : Ending) (w' : World) : Prop := e = .returned (.tuple #[.int .u32 ((grantRef o t a).1 : Nat), .int .i64 (grantRef o t a).2]) ∧ Ext w w'
theorem gref_of {o t a v : Nat} {er : Int} {w w' : World} (h : grantRef o t a = (v, er)) (hx : Ext w w') : GRefPost o t a w (.returned (.tuple #[.int .u32 (v : Int), .int .i64 er])) w' := by unfold GRefPost; rw [h]; exact ⟨rfl, hx⟩
attribute [irreducible] grantRef
theorem offI' (f m : Nat) (hf : f < 4294967296) (hm : m < 4294967296) : bits .andNot .u32 (f : Int) (m : Int) = ((offN f m : Nat) : Int) := u32_andNot_nat f m hf hm
theorem offN_lt {f m : Nat} (hf : f < 4294967296) : offN f m < 4294967296 := and32 hf
set_option maxRecDepth 8000 in
set_option maxHeartbeats 12800000 in
theorem rGrant_any (o t a : Nat) (ho : o < 4294967296) (ht : t < 4294967296) (ha : a < 4294967296) (w : World) : Calls Tryd.prog 28 #[.int .u32 (o : Int), .int .u32 (t : Int), .int .u32 (a : Int)] w (GRefPost o t a w) := by
  have HD := Lib.hid (grantRef_def o t a)
  cases hB1 : optB o
  · have B1 := Lib.hid hB1
    clear hB1
    go_enter Tryd.func28, Tryd.ntmps28
    go_wp2_with (first | (go_at_call 14; (with_reducible refine (rOptions_any o ho _).mono ?_); rintro e w' ⟨rfl, rfl⟩; rw [B1.out]) | (go_at_call 52; (with_reducible refine (rOf1' _ (by first | with_reducible exact heap_new _ _ | with_reducible exact heap_new2 _ _ _ | with_reducible exact heap_new3 _ _ _ _ | with_reducible exact heap_new4 _ _ _ _ _ | with_reducible exact heap_new5 _ _ _ _ _ _) (by omega)).mono ?_); rintro e w' ⟨rfl, rfl⟩; (first | rw [of262144] | rw [of131072] | rw [of65536] | rw [of149] | rw [of64] | rw [of514] | rw [of2048] | rw [of10])) | (go_at_call 52; (with_reducible refine (rOf2' _ _ (by first | with_reducible exact heap_new _ _ | with_reducible exact heap_new2 _ _ _ | with_reducible exact heap_new3 _ _ _ _ | with_reducible exact heap_new4 _ _ _ _ _ | with_reducible exact heap_new5 _ _ _ _ _ _) (by omega)).mono ?_); rintro e w' ⟨rfl, rfl⟩; (first | rw [of262144] | rw [of131072] | rw [of65536] | rw [of149] | rw [of64] | rw [of514] | rw [of2048] | rw [of10])) | (go_at_call 52; (with_reducible refine (rOf4' _ _ _ _ (by first | with_reducible exact heap_new _ _ | with_reducible exact heap_new2 _ _ _ | with_reducible exact heap_new3 _ _ _ _ | with_reducible exact heap_new4 _ _ _ _ _ | with_reducible exact heap_new5 _ _ _ _ _ _) (by omega)).mono ?_); rintro e w' ⟨rfl, rfl⟩; (first | rw [of262144] | rw [of131072] | rw [of65536] | rw [of149] | rw [of64] | rw [of514] | rw [of2048] | rw [of10])) | (go_at_call 53; (with_reducible refine (rWanted_any o a ho ha _).mono ?_); rintro e w2 ⟨rfl, hx2⟩))
    go_ret2
    exact gref_of (v := 0) (by rw [HD.out, B1.out]; rfl) (by repeat (first | exact Ext.refl _ | assumption | refine Ext.drew ?_ | refine Ext.alloc ?_ _ | refine Ext.setCell ?_ (by first | exact Nat.le_refl _ | (simp; done) | (simp; omega)) _ | refine Ext.trans ?_ (by assumption)))
  have B1 := Lib.hid hB1
  clear hB1
  cases hB2 : ticketB t
  · have B2 := Lib.hid hB2
    clear hB2
    go_enter Tryd.func28, Tryd.ntmps28
    go_wp2_with (first | (go_at_call 14; (with_reducible refine (rOptions_any o ho _).mono ?_); rintro e w' ⟨rfl, rfl⟩; rw [B1.out]) | (go_at_call 12; (with_reducible refine (rTicket_any t _).mono ?_); rintro e w' ⟨rfl, rfl⟩; rw [B2.out]) | (go_at_call 52; (with_reducible refine (rOf1' _ (by first | with_reducible exact heap_new _ _ | with_reducible exact heap_new2 _ _ _ | with_reducible exact heap_new3 _ _ _ _ | with_reducible exact heap_new4 _ _ _ _ _ | with_reducible exact heap_new5 _ _ _ _ _ _) (by omega)).mono ?_); rintro e w' ⟨rfl, rfl⟩; (first | rw [of262144] | rw [of131072] | rw [of65536] | rw [of149] | rw [of64] | rw [of514] | rw [of2048] | rw [of10])) | (go_at_call 52; (with_reducible refine (rOf2' _ _ (by first | with_reducible exact heap_new _ _ | with_reducible exact heap_new2 _ _ _ | with_reducible exact heap_new3 _ _ _ _ | with_reducible exact heap_new4 _ _ _ _ _ | with_reducible exact heap_new5 _ _ _ _ _ _) (by omega)).mono ?_); rintro e w' ⟨rfl, rfl⟩; (first | rw [of262144] | rw [of131072] | rw [of65536] | rw [of149] | rw [of64] | rw [of514] | rw [of2048] | rw [of10])) | (go_at_call 52; (with_reducible refine (rOf4' _ _ _ _ (by first | with_reducible exact heap_new _ _ | with_reducible exact heap_new2 _ _ _ | with_reducible exact heap_new3 _ _ _ _ | with_reducible exact heap_new4 _ _ _ _ _ | with_reducible exact heap_new5 _ _ _ _ _ _) (by omega)).mono ?_); rintro e w' ⟨rfl, rfl⟩; (first | rw [of262144] | rw [of131072] | rw [of65536] | rw [of149] | rw [of64] | rw [of514] | rw [of2048] | rw [of10])) | (go_at_call 53; (with_reducible refine (rWanted_any o a ho ha _).mono ?_); rintro e w2 ⟨rfl, hx2⟩))
    go_ret2
    exact gref_of (v := 0) (by rw [HD.out, B1.out, B2.out]; rfl) (by repeat (first | exact Ext.refl _ | assumption | refine Ext.drew ?_ | refine Ext.alloc ?_ _ | refine Ext.setCell ?_ (by first | exact Nat.le_refl _ | (simp; done) | (simp; omega)) _ | refine Ext.trans ?_ (by assumption)))
  have B2 := Lib.hid hB2
  clear hB2
  cases hB3 : ticketB a
  · have B3 := Lib.hid hB3
    clear hB3
    go_enter Tryd.func28, Tryd.ntmps28
    go_wp2_with (first | (go_at_call 14; (with_reducible refine (rOptions_any o ho _).mono ?_); rintro e w' ⟨rfl, rfl⟩; rw [B1.out]) | (go_at_call 12; (with_reducible refine (rTicket_any t _).mono ?_); rintro e w' ⟨rfl, rfl⟩; rw [B2.out]) | (go_at_call 12; (with_reducible refine (rTicket_any a _).mono ?_); rintro e w' ⟨rfl, rfl⟩; rw [B3.out]) | (go_at_call 52; (with_reducible refine (rOf1' _ (by first | with_reducible exact heap_new _ _ | with_reducible exact heap_new2 _ _ _ | with_reducible exact heap_new3 _ _ _ _ | with_reducible exact heap_new4 _ _ _ _ _ | with_reducible exact heap_new5 _ _ _ _ _ _) (by omega)).mono ?_); rintro e w' ⟨rfl, rfl⟩; (first | rw [of262144] | rw [of131072] | rw [of65536] | rw [of149] | rw [of64] | rw [of514] | rw [of2048] | rw [of10])) | (go_at_call 52; (with_reducible refine (rOf2' _ _ (by first | with_reducible exact heap_new _ _ | with_reducible exact heap_new2 _ _ _ | with_reducible exact heap_new3 _ _ _ _ | with_reducible exact heap_new4 _ _ _ _ _ | with_reducible exact heap_new5 _ _ _ _ _ _) (by omega)).mono ?_); rintro e w' ⟨rfl, rfl⟩; (first | rw [of262144] | rw [of131072] | rw [of65536] | rw [of149] | rw [of64] | rw [of514] | rw [of2048] | rw [of10])) | (go_at_call 52; (with_reducible refine (rOf4' _ _ _ _ (by first | with_reducible exact heap_new _ _ | with_reducible exact heap_new2 _ _ _ | with_reducible exact heap_new3 _ _ _ _ | with_reducible exact heap_new4 _ _ _ _ _ | with_reducible exact heap_new5 _ _ _ _ _ _) (by omega)).mono ?_); rintro e w' ⟨rfl, rfl⟩; (first | rw [of262144] | rw [of131072] | rw [of65536] | rw [of149] | rw [of64] | rw [of514] | rw [of2048] | rw [of10])) | (go_at_call 53; (with_reducible refine (rWanted_any o a ho ha _).mono ?_); rintro e w2 ⟨rfl, hx2⟩))
    go_ret2
    exact gref_of (v := 0) (by rw [HD.out, B1.out, B2.out, B3.out]; rfl) (by repeat (first | exact Ext.refl _ | assumption | refine Ext.drew ?_ | refine Ext.alloc ?_ _ | refine Ext.setCell ?_ (by first | exact Nat.le_refl _ | (simp; done) | (simp; omega)) _ | refine Ext.trans ?_ (by assumption)))
  have B3 := Lib.hid hB3
  clear hB3
  have hoff := offI o 262144 ho (by decide) 262144 rfl
  have m1 := ne_nat (offN o 262144) 131072 131072 rfl
  have m2 := ne_nat (offN o 262144) 65536 65536 rfl
  have hoff2 := offI t 64 ht (by decide) 64 rfl
  have hand := andI o 149 ho (by decide) 149 rfl
  have hoff3 := offI' (o &&& 149) t (and32 ho) ht
  have m3 := ne_zero (offN (o &&& 149) t)
  have hand1 := andI t 514 ht (by decide) 514 rfl
  have hand2 := andI a 2048 ha (by decide) 2048 rfl
  have hand3 := andI o 10 ho (by decide) 10 rfl
  have l1 : t &&& 514 < 4294967296 := and32 ht
  have l2 := wantedN_lt o a ho
  have l3 : a &&& 2048 < 4294967296 := and32 ha
  have l4 : o &&& 10 < 4294967296 := and32 ho
  have l5 : t &&& 514 ||| wantedN o a < 4294967296 := or32 l1 l2
  have l6 : t &&& 514 ||| wantedN o a ||| (a &&& 2048) < 4294967296 := or32 l5 l3
  have o1 := orN l1 l2 _ rfl
  have o2 := orN l5 l3 _ rfl
  have o3 := orN l6 l4 _ rfl
  cases hBV : hasB o 131072 <;> cases hBR : hasB o 65536
  all_goals
    have BV := Lib.hid hBV
    have BR := Lib.hid hBR
    clear hBV hBR
  · cases hBI : hasB t 64
    · have BI := Lib.hid hBI
      clear hBI m1 m2
      cases hM3 : decide (offN (o &&& 149) t = 0)
      · rw [hM3] at m3
        have M3 := Lib.hid hM3
        clear hM3
        go_enter Tryd.func28, Tryd.ntmps28
        go_wp2_with (first | (go_at_call 14; (with_reducible refine (rOptions_any o ho _).mono ?_); rintro e w' ⟨rfl, rfl⟩; rw [B1.out]) | (go_at_call 12; (with_reducible refine (rTicket_any t _).mono ?_); rintro e w' ⟨rfl, rfl⟩; rw [B2.out]) | (go_at_call 12; (with_reducible refine (rTicket_any a _).mono ?_); rintro e w' ⟨rfl, rfl⟩; rw [B3.out]) | (go_at_call 23; (with_reducible refine (rHas_has o 17 131072 (by decide) (by decide) 17 (by decide) _).mono ?_); rintro e w' ⟨rfl, rfl⟩; rw [BV.out]) | (go_at_call 23; (with_reducible refine (rHas_has o 16 65536 (by decide) (by decide) 16 (by decide) _).mono ?_); rintro e w' ⟨rfl, rfl⟩; rw [BR.out]) | (go_at_call 23; (with_reducible refine (rHas_has t 6 64 (by decide) (by decide) 6 (by decide) _).mono ?_); rintro e w' ⟨rfl, rfl⟩; rw [BI.out]) | (go_at_call 52; (with_reducible refine (rOf1' _ (by first | with_reducible exact heap_new _ _ | with_reducible exact heap_new2 _ _ _ | with_reducible exact heap_new3 _ _ _ _ | with_reducible exact heap_new4 _ _ _ _ _ | with_reducible exact heap_new5 _ _ _ _ _ _) (by omega)).mono ?_); rintro e w' ⟨rfl, rfl⟩; (first | rw [of262144] | rw [of131072] | rw [of65536] | rw [of149] | rw [of64] | rw [of514] | rw [of2048] | rw [of10])) | (go_at_call 52; (with_reducible refine (rOf2' _ _ (by first | with_reducible exact heap_new _ _ | with_reducible exact heap_new2 _ _ _ | with_reducible exact heap_new3 _ _ _ _ | with_reducible exact heap_new4 _ _ _ _ _ | with_reducible exact heap_new5 _ _ _ _ _ _) (by omega)).mono ?_); rintro e w' ⟨rfl, rfl⟩; (first | rw [of262144] | rw [of131072] | rw [of65536] | rw [of149] | rw [of64] | rw [of514] | rw [of2048] | rw [of10])) | (go_at_call 52; (with_reducible refine (rOf4' _ _ _ _ (by first | with_reducible exact heap_new _ _ | with_reducible exact heap_new2 _ _ _ | with_reducible exact heap_new3 _ _ _ _ | with_reducible exact heap_new4 _ _ _ _ _ | with_reducible exact heap_new5 _ _ _ _ _ _) (by omega)).mono ?_); rintro e w' ⟨rfl, rfl⟩; (first | rw [of262144] | rw [of131072] | rw [of65536] | rw [of149] | rw [of64] | rw [of514] | rw [of2048] | rw [of10])) | (go_at_call 53; (with_reducible refine (rWanted_any o a ho ha _).mono ?_); rintro e w2 ⟨rfl, hx2⟩))
        go_ret2
        exact gref_of (v := 0) (by rw [HD.out, B1.out, B2.out, B3.out, BV.out, BR.out, BI.out, M3.out]; rfl) (by repeat (first | exact Ext.refl _ | assumption | refine Ext.drew ?_ | refine Ext.alloc ?_ _ | refine Ext.setCell ?_ (by first | exact Nat.le_refl _ | (simp; done) | (simp; omega)) _ | refine Ext.trans ?_ (by assumption)))
      · rw [hM3] at m3
        have M3 := Lib.hid hM3
        clear hM3
        cases hD1 : denB o 2 t a 1
        case true =>
          have D1 := Lib.hid hD1
          clear hD1
          go_enter Tryd.func28, Tryd.ntmps28
          go_wp2_with (first | (go_at_call 14; (with_reducible refine (rOptions_any o ho _).mono ?_); rintro e w' ⟨rfl, rfl⟩; rw [B1.out]) | (go_at_call 12; (with_reducible refine (rTicket_any t _).mono ?_); rintro e w' ⟨rfl, rfl⟩; rw [B2.out]) | (go_at_call 12; (with_reducible refine (rTicket_any a _).mono ?_); rintro e w' ⟨rfl, rfl⟩; rw [B3.out]) | (go_at_call 23; (with_reducible refine (rHas_has o 17 131072 (by decide) (by decide) 17 (by decide) _).mono ?_); rintro e w' ⟨rfl, rfl⟩; rw [BV.out]) | (go_at_call 23; (with_reducible refine (rHas_has o 16 65536 (by decide) (by decide) 16 (by decide) _).mono ?_); rintro e w' ⟨rfl, rfl⟩; rw [BR.out]) | (go_at_call 23; (with_reducible refine (rHas_has t 6 64 (by decide) (by decide) 6 (by decide) _).mono ?_); rintro e w' ⟨rfl, rfl⟩; rw [BI.out]) | (go_at_call 52; (with_reducible refine (rOf1' _ (by first | with_reducible exact heap_new _ _ | with_reducible exact heap_new2 _ _ _ | with_reducible exact heap_new3 _ _ _ _ | with_reducible exact heap_new4 _ _ _ _ _ | with_reducible exact heap_new5 _ _ _ _ _ _) (by omega)).mono ?_); rintro e w' ⟨rfl, rfl⟩; (first | rw [of262144] | rw [of131072] | rw [of65536] | rw [of149] | rw [of64] | rw [of514] | rw [of2048] | rw [of10])) | (go_at_call 52; (with_reducible refine (rOf2' _ _ (by first | with_reducible exact heap_new _ _ | with_reducible exact heap_new2 _ _ _ | with_reducible exact heap_new3 _ _ _ _ | with_reducible exact heap_new4 _ _ _ _ _ | with_reducible exact heap_new5 _ _ _ _ _ _) (by omega)).mono ?_); rintro e w' ⟨rfl, rfl⟩; (first | rw [of262144] | rw [of131072] | rw [of65536] | rw [of149] | rw [of64] | rw [of514] | rw [of2048] | rw [of10])) | (go_at_call 52; (with_reducible refine (rOf4' _ _ _ _ (by first | with_reducible exact heap_new _ _ | with_reducible exact heap_new2 _ _ _ | with_reducible exact heap_new3 _ _ _ _ | with_reducible exact heap_new4 _ _ _ _ _ | with_reducible exact heap_new5 _ _ _ _ _ _) (by omega)).mono ?_); rintro e w' ⟨rfl, rfl⟩; (first | rw [of262144] | rw [of131072] | rw [of65536] | rw [of149] | rw [of64] | rw [of514] | rw [of2048] | rw [of10])) | (go_at_call 62; (with_reducible refine (rDenied_any o t a 1 0 2 1 (by decide) (by decide) (by decide) (by decide) 1 0 (by decide) (by decide) _).mono ?_); rintro e w' ⟨rfl, rfl⟩; rw [D1.out]) | (go_at_call 53; (with_reducible refine (rWanted_any o a ho ha _).mono ?_); rintro e w2 ⟨rfl, hx2⟩))
          go_ret2
          exact gref_of (v := 0) (by rw [HD.out, B1.out, B2.out, B3.out, BV.out, BR.out, BI.out, M3.out, D1.out]; rfl) (by repeat (first | exact Ext.refl _ | assumption | refine Ext.drew ?_ | refine Ext.alloc ?_ _ | refine Ext.setCell ?_ (by first | exact Nat.le_refl _ | (simp; done) | (simp; omega)) _ | refine Ext.trans ?_ (by assumption)))
        have D1 := Lib.hid hD1
        clear hD1
        cases hD2 : denB o 8 t a 4
        case true =>
          have D2 := Lib.hid hD2
          clear hD2
          go_enter Tryd.func28, Tryd.ntmps28
          go_wp2_with (first | (go_at_call 14; (with_reducible refine (rOptions_any o ho _).mono ?_); rintro e w' ⟨rfl, rfl⟩; rw [B1.out]) | (go_at_call 12; (with_reducible refine (rTicket_any t _).mono ?_); rintro e w' ⟨rfl, rfl⟩; rw [B2.out]) | (go_at_call 12; (with_reducible refine (rTicket_any a _).mono ?_); rintro e w' ⟨rfl, rfl⟩; rw [B3.out]) | (go_at_call 23; (with_reducible refine (rHas_has o 17 131072 (by decide) (by decide) 17 (by decide) _).mono ?_); rintro e w' ⟨rfl, rfl⟩; rw [BV.out]) | (go_at_call 23; (with_reducible refine (rHas_has o 16 65536 (by decide) (by decide) 16 (by decide) _).mono ?_); rintro e w' ⟨rfl, rfl⟩; rw [BR.out]) | (go_at_call 23; (with_reducible refine (rHas_has t 6 64 (by decide) (by decide) 6 (by decide) _).mono ?_); rintro e w' ⟨rfl, rfl⟩; rw [BI.out]) | (go_at_call 52; (with_reducible refine (rOf1' _ (by first | with_reducible exact heap_new _ _ | with_reducible exact heap_new2 _ _ _ | with_reducible exact heap_new3 _ _ _ _ | with_reducible exact heap_new4 _ _ _ _ _ | with_reducible exact heap_new5 _ _ _ _ _ _) (by omega)).mono ?_); rintro e w' ⟨rfl, rfl⟩; (first | rw [of262144] | rw [of131072] | rw [of65536] | rw [of149] | rw [of64] | rw [of514] | rw [of2048] | rw [of10])) | (go_at_call 52; (with_reducible refine (rOf2' _ _ (by first | with_reducible exact heap_new _ _ | with_reducible exact heap_new2 _ _ _ | with_reducible exact heap_new3 _ _ _ _ | with_reducible exact heap_new4 _ _ _ _ _ | with_reducible exact heap_new5 _ _ _ _ _ _) (by omega)).mono ?_); rintro e w' ⟨rfl, rfl⟩; (first | rw [of262144] | rw [of131072] | rw [of65536] | rw [of149] | rw [of64] | rw [of514] | rw [of2048] | rw [of10])) | (go_at_call 52; (with_reducible refine (rOf4' _ _ _ _ (by first | with_reducible exact heap_new _ _ | with_reducible exact heap_new2 _ _ _ | with_reducible exact heap_new3 _ _ _ _ | with_reducible exact heap_new4 _ _ _ _ _ | with_reducible exact heap_new5 _ _ _ _ _ _) (by omega)).mono ?_); rintro e w' ⟨rfl, rfl⟩; (first | rw [of262144] | rw [of131072] | rw [of65536] | rw [of149] | rw [of64] | rw [of514] | rw [of2048] | rw [of10])) | (go_at_call 62; (with_reducible refine (rDenied_any o t a 1 0 2 1 (by decide) (by decide) (by decide) (by decide) 1 0 (by decide) (by decide) _).mono ?_); rintro e w' ⟨rfl, rfl⟩; rw [D1.out]) | (go_at_call 62; (with_reducible refine (rDenied_any o t a 3 2 8 4 (by decide) (by decide) (by decide) (by decide) 3 2 (by decide) (by decide) _).mono ?_); rintro e w' ⟨rfl, rfl⟩; rw [D2.out]) | (go_at_call 53; (with_reducible refine (rWanted_any o a ho ha _).mono ?_); rintro e w2 ⟨rfl, hx2⟩))
          go_ret2
          exact gref_of (v := 0) (by rw [HD.out, B1.out, B2.out, B3.out, BV.out, BR.out, BI.out, M3.out, D1.out, D2.out]; rfl) (by repeat (first | exact Ext.refl _ | assumption | refine Ext.drew ?_ | refine Ext.alloc ?_ _ | refine Ext.setCell ?_ (by first | exact Nat.le_refl _ | (simp; done) | (simp; omega)) _ | refine Ext.trans ?_ (by assumption)))
        have D2 := Lib.hid hD2
        clear hD2
        cases hD3 : denB o 32 t a 16
        case true =>
          have D3 := Lib.hid hD3
          clear hD3
          go_enter Tryd.func28, Tryd.ntmps28
          go_wp2_with (first | (go_at_call 14; (with_reducible refine (rOptions_any o ho _).mono ?_); rintro e w' ⟨rfl, rfl⟩; rw [B1.out]) | (go_at_call 12; (with_reducible refine (rTicket_any t _).mono ?_); rintro e w' ⟨rfl, rfl⟩; rw [B2.out]) | (go_at_call 12; (with_reducible refine (rTicket_any a _).mono ?_); rintro e w' ⟨rfl, rfl⟩; rw [B3.out]) | (go_at_call 23; (with_reducible refine (rHas_has o 17 131072 (by decide) (by decide) 17 (by decide) _).mono ?_); rintro e w' ⟨rfl, rfl⟩; rw [BV.out]) | (go_at_call 23; (with_reducible refine (rHas_has o 16 65536 (by decide) (by decide) 16 (by decide) _).mono ?_); rintro e w' ⟨rfl, rfl⟩; rw [BR.out]) | (go_at_call 23; (with_reducible refine (rHas_has t 6 64 (by decide) (by decide) 6 (by decide) _).mono ?_); rintro e w' ⟨rfl, rfl⟩; rw [BI.out]) | (go_at_call 52; (with_reducible refine (rOf1' _ (by first | with_reducible exact heap_new _ _ | with_reducible exact heap_new2 _ _ _ | with_reducible exact heap_new3 _ _ _ _ | with_reducible exact heap_new4 _ _ _ _ _ | with_reducible exact heap_new5 _ _ _ _ _ _) (by omega)).mono ?_); rintro e w' ⟨rfl, rfl⟩; (first | rw [of262144] | rw [of131072] | rw [of65536] | rw [of149] | rw [of64] | rw [of514] | rw [of2048] | rw [of10])) | (go_at_call 52; (with_reducible refine (rOf2' _ _ (by first | with_reducible exact heap_new _ _ | with_reducible exact heap_new2 _ _ _ | with_reducible exact heap_new3 _ _ _ _ | with_reducible exact heap_new4 _ _ _ _ _ | with_reducible exact heap_new5 _ _ _ _ _ _) (by omega)).mono ?_); rintro e w' ⟨rfl, rfl⟩; (first | rw [of262144] | rw [of131072] | rw [of65536] | rw [of149] | rw [of64] | rw [of514] | rw [of2048] | rw [of10])) | (go_at_call 52; (with_reducible refine (rOf4' _ _ _ _ (by first | with_reducible exact heap_new _ _ | with_reducible exact heap_new2 _ _ _ | with_reducible exact heap_new3 _ _ _ _ | with_reducible exact heap_new4 _ _ _ _ _ | with_reducible exact heap_new5 _ _ _ _ _ _) (by omega)).mono ?_); rintro e w' ⟨rfl, rfl⟩; (first | rw [of262144] | rw [of131072] | rw [of65536] | rw [of149] | rw [of64] | rw [of514] | rw [of2048] | rw [of10])) | (go_at_call 62; (with_reducible refine (rDenied_any o t a 1 0 2 1 (by decide) (by decide) (by decide) (by decide) 1 0 (by decide) (by decide) _).mono ?_); rintro e w' ⟨rfl, rfl⟩; rw [D1.out]) | (go_at_call 62; (with_reducible refine (rDenied_any o t a 3 2 8 4 (by decide) (by decide) (by decide) (by decide) 3 2 (by decide) (by decide) _).mono ?_); rintro e w' ⟨rfl, rfl⟩; rw [D2.out]) | (go_at_call 62; (with_reducible refine (rDenied_any o t a 5 4 32 16 (by decide) (by decide) (by decide) (by decide) 5 4 (by decide) (by decide) _).mono ?_); rintro e w' ⟨rfl, rfl⟩; rw [D3.out]) | (go_at_call 53; (with_reducible refine (rWanted_any o a ho ha _).mono ?_); rintro e w2 ⟨rfl, hx2⟩))
          go_ret2
          exact gref_of (v := 0) (by rw [HD.out, B1.out, B2.out, B3.out, BV.out, BR.out, BI.out, M3.out, D1.out, D2.out, D3.out]; rfl) (by repeat (first | exact Ext.refl _ | assumption | refine Ext.drew ?_ | refine Ext.alloc ?_ _ | refine Ext.setCell ?_ (by first | exact Nat.le_refl _ | (simp; done) | (simp; omega)) _ | refine Ext.trans ?_ (by assumption)))
        have D3 := Lib.hid hD3
        clear hD3
        go_enter Tryd.func28, Tryd.ntmps28
        go_wp2_with (first | (go_at_call 14; (with_reducible refine (rOptions_any o ho _).mono ?_); rintro e w' ⟨rfl, rfl⟩; rw [B1.out]) | (go_at_call 12; (with_reducible refine (rTicket_any t _).mono ?_); rintro e w' ⟨rfl, rfl⟩; rw [B2.out]) | (go_at_call 12; (with_reducible refine (rTicket_any a _).mono ?_); rintro e w' ⟨rfl, rfl⟩; rw [B3.out]) | (go_at_call 23; (with_reducible refine (rHas_has o 17 131072 (by decide) (by decide) 17 (by decide) _).mono ?_); rintro e w' ⟨rfl, rfl⟩; rw [BV.out]) | (go_at_call 23; (with_reducible refine (rHas_has o 16 65536 (by decide) (by decide) 16 (by decide) _).mono ?_); rintro e w' ⟨rfl, rfl⟩; rw [BR.out]) | (go_at_call 23; (with_reducible refine (rHas_has t 6 64 (by decide) (by decide) 6 (by decide) _).mono ?_); rintro e w' ⟨rfl, rfl⟩; rw [BI.out]) | (go_at_call 52; (with_reducible refine (rOf1' _ (by first | with_reducible exact heap_new _ _ | with_reducible exact heap_new2 _ _ _ | with_reducible exact heap_new3 _ _ _ _ | with_reducible exact heap_new4 _ _ _ _ _ | with_reducible exact heap_new5 _ _ _ _ _ _) (by omega)).mono ?_); rintro e w' ⟨rfl, rfl⟩; (first | rw [of262144] | rw [of131072] | rw [of65536] | rw [of149] | rw [of64] | rw [of514] | rw [of2048] | rw [of10])) | (go_at_call 52; (with_reducible refine (rOf2' _ _ (by first | with_reducible exact heap_new _ _ | with_reducible exact heap_new2 _ _ _ | with_reducible exact heap_new3 _ _ _ _ | with_reducible exact heap_new4 _ _ _ _ _ | with_reducible exact heap_new5 _ _ _ _ _ _) (by omega)).mono ?_); rintro e w' ⟨rfl, rfl⟩; (first | rw [of262144] | rw [of131072] | rw [of65536] | rw [of149] | rw [of64] | rw [of514] | rw [of2048] | rw [of10])) | (go_at_call 52; (with_reducible refine (rOf4' _ _ _ _ (by first | with_reducible exact heap_new _ _ | with_reducible exact heap_new2 _ _ _ | with_reducible exact heap_new3 _ _ _ _ | with_reducible exact heap_new4 _ _ _ _ _ | with_reducible exact heap_new5 _ _ _ _ _ _) (by omega)).mono ?_); rintro e w' ⟨rfl, rfl⟩; (first | rw [of262144] | rw [of131072] | rw [of65536] | rw [of149] | rw [of64] | rw [of514] | rw [of2048] | rw [of10])) | (go_at_call 62; (with_reducible refine (rDenied_any o t a 1 0 2 1 (by decide) (by decide) (by decide) (by decide) 1 0 (by decide) (by decide) _).mono ?_); rintro e w' ⟨rfl, rfl⟩; rw [D1.out]) | (go_at_call 62; (with_reducible refine (rDenied_any o t a 3 2 8 4 (by decide) (by decide) (by decide) (by decide) 3 2 (by decide) (by decide) _).mono ?_); rintro e w' ⟨rfl, rfl⟩; rw [D2.out]) | (go_at_call 62; (with_reducible refine (rDenied_any o t a 5 4 32 16 (by decide) (by decide) (by decide) (by decide) 5 4 (by decide) (by decide) _).mono ?_); rintro e w' ⟨rfl, rfl⟩; rw [D3.out]) | (go_at_call 53; (with_reducible refine (rWanted_any o a ho ha _).mono ?_); rintro e w2 ⟨rfl, hx2⟩))
        go_ret2
        exact gref_of (v := t &&& 514 ||| wantedN o a ||| (a &&& 2048) ||| (o &&& 10)) (by rw [HD.out, B1.out, B2.out, B3.out, BV.out, BR.out, BI.out, M3.out, D1.out, D2.out, D3.out]; rfl) (by repeat (first | exact Ext.refl _ | assumption | refine Ext.drew ?_ | refine Ext.alloc ?_ _ | refine Ext.setCell ?_ (by first | exact Nat.le_refl _ | (simp; done) | (simp; omega)) _ | refine Ext.trans ?_ (by assumption)))
    · have BI := Lib.hid hBI
      clear hBI m1 m2
      go_enter Tryd.func28, Tryd.ntmps28
      go_wp2_with (first | (go_at_call 14; (with_reducible refine (rOptions_any o ho _).mono ?_); rintro e w' ⟨rfl, rfl⟩; rw [B1.out]) | (go_at_call 12; (with_reducible refine (rTicket_any t _).mono ?_); rintro e w' ⟨rfl, rfl⟩; rw [B2.out]) | (go_at_call 12; (with_reducible refine (rTicket_any a _).mono ?_); rintro e w' ⟨rfl, rfl⟩; rw [B3.out]) | (go_at_call 23; (with_reducible refine (rHas_has o 17 131072 (by decide) (by decide) 17 (by decide) _).mono ?_); rintro e w' ⟨rfl, rfl⟩; rw [BV.out]) | (go_at_call 23; (with_reducible refine (rHas_has o 16 65536 (by decide) (by decide) 16 (by decide) _).mono ?_); rintro e w' ⟨rfl, rfl⟩; rw [BR.out]) | (go_at_call 23; (with_reducible refine (rHas_has t 6 64 (by decide) (by decide) 6 (by decide) _).mono ?_); rintro e w' ⟨rfl, rfl⟩; rw [BI.out]) | (go_at_call 52; (with_reducible refine (rOf1' _ (by first | with_reducible exact heap_new _ _ | with_reducible exact heap_new2 _ _ _ | with_reducible exact heap_new3 _ _ _ _ | with_reducible exact heap_new4 _ _ _ _ _ | with_reducible exact heap_new5 _ _ _ _ _ _) (by omega)).mono ?_); rintro e w' ⟨rfl, rfl⟩; (first | rw [of262144] | rw [of131072] | rw [of65536] | rw [of149] | rw [of64] | rw [of514] | rw [of2048] | rw [of10])) | (go_at_call 52; (with_reducible refine (rOf2' _ _ (by first | with_reducible exact heap_new _ _ | with_reducible exact heap_new2 _ _ _ | with_reducible exact heap_new3 _ _ _ _ | with_reducible exact heap_new4 _ _ _ _ _ | with_reducible exact heap_new5 _ _ _ _ _ _) (by omega)).mono ?_); rintro e w' ⟨rfl, rfl⟩; (first | rw [of262144] | rw [of131072] | rw [of65536] | rw [of149] | rw [of64] | rw [of514] | rw [of2048] | rw [of10])) | (go_at_call 52; (with_reducible refine (rOf4' _ _ _ _ (by first | with_reducible exact heap_new _ _ | with_reducible exact heap_new2 _ _ _ | with_reducible exact heap_new3 _ _ _ _ | with_reducible exact heap_new4 _ _ _ _ _ | with_reducible exact heap_new5 _ _ _ _ _ _) (by omega)).mono ?_); rintro e w' ⟨rfl, rfl⟩; (first | rw [of262144] | rw [of131072] | rw [of65536] | rw [of149] | rw [of64] | rw [of514] | rw [of2048] | rw [of10])) | (go_at_call 53; (with_reducible refine (rWanted_any o a ho ha _).mono ?_); rintro e w2 ⟨rfl, hx2⟩))
      go_ret2
      exact gref_of (v := 0) (by rw [HD.out, B1.out, B2.out, B3.out, BV.out, BR.out, BI.out]; rfl) (by repeat (first | exact Ext.refl _ | assumption | refine Ext.drew ?_ | refine Ext.alloc ?_ _ | refine Ext.setCell ?_ (by first | exact Nat.le_refl _ | (simp; done) | (simp; omega)) _ | refine Ext.trans ?_ (by assumption)))
  · cases hM1 : decide (offN o 262144 = 131072) <;> cases hM2 : decide (offN o 262144 = 65536)
    all_goals
      rw [hM1] at m1
      rw [hM2] at m2
      have M1 := Lib.hid hM1
      have M2 := Lib.hid hM2
      clear hM1 hM2
    case false.false =>
      go_enter Tryd.func28, Tryd.ntmps28
      go_wp2_with (first | (go_at_call 14; (with_reducible refine (rOptions_any o ho _).mono ?_); rintro e w' ⟨rfl, rfl⟩; rw [B1.out]) | (go_at_call 12; (with_reducible refine (rTicket_any t _).mono ?_); rintro e w' ⟨rfl, rfl⟩; rw [B2.out]) | (go_at_call 12; (with_reducible refine (rTicket_any a _).mono ?_); rintro e w' ⟨rfl, rfl⟩; rw [B3.out]) | (go_at_call 23; (with_reducible refine (rHas_has o 17 131072 (by decide) (by decide) 17 (by decide) _).mono ?_); rintro e w' ⟨rfl, rfl⟩; rw [BV.out]) | (go_at_call 23; (with_reducible refine (rHas_has o 16 65536 (by decide) (by decide) 16 (by decide) _).mono ?_); rintro e w' ⟨rfl, rfl⟩; rw [BR.out]) | (go_at_call 52; (with_reducible refine (rOf1' _ (by first | with_reducible exact heap_new _ _ | with_reducible exact heap_new2 _ _ _ | with_reducible exact heap_new3 _ _ _ _ | with_reducible exact heap_new4 _ _ _ _ _ | with_reducible exact heap_new5 _ _ _ _ _ _) (by omega)).mono ?_); rintro e w' ⟨rfl, rfl⟩; (first | rw [of262144] | rw [of131072] | rw [of65536] | rw [of149] | rw [of64] | rw [of514] | rw [of2048] | rw [of10])) | (go_at_call 52; (with_reducible refine (rOf2' _ _ (by first | with_reducible exact heap_new _ _ | with_reducible exact heap_new2 _ _ _ | with_reducible exact heap_new3 _ _ _ _ | with_reducible exact heap_new4 _ _ _ _ _ | with_reducible exact heap_new5 _ _ _ _ _ _) (by omega)).mono ?_); rintro e w' ⟨rfl, rfl⟩; (first | rw [of262144] | rw [of131072] | rw [of65536] | rw [of149] | rw [of64] | rw [of514] | rw [of2048] | rw [of10])) | (go_at_call 52; (with_reducible refine (rOf4' _ _ _ _ (by first | with_reducible exact heap_new _ _ | with_reducible exact heap_new2 _ _ _ | with_reducible exact heap_new3 _ _ _ _ | with_reducible exact heap_new4 _ _ _ _ _ | with_reducible exact heap_new5 _ _ _ _ _ _) (by omega)).mono ?_); rintro e w' ⟨rfl, rfl⟩; (first | rw [of262144] | rw [of131072] | rw [of65536] | rw [of149] | rw [of64] | rw [of514] | rw [of2048] | rw [of10])) | (go_at_call 53; (with_reducible refine (rWanted_any o a ho ha _).mono ?_); rintro e w2 ⟨rfl, hx2⟩))
      go_ret2
      exact gref_of (v := 0) (by rw [HD.out, B1.out, B2.out, B3.out, BV.out, BR.out, M1.out, M2.out]; rfl) (by repeat (first | exact Ext.refl _ | assumption | refine Ext.drew ?_ | refine Ext.alloc ?_ _ | refine Ext.setCell ?_ (by first | exact Nat.le_refl _ | (simp; done) | (simp; omega)) _ | refine Ext.trans ?_ (by assumption)))
    all_goals
      cases hBI : hasB t 64
      · have BI := Lib.hid hBI
        clear hBI
        cases hBW : hasB t 128
        · have BW := Lib.hid hBW
          clear hBW
          go_enter Tryd.func28, Tryd.ntmps28
          go_wp2_with (first | (go_at_call 14; (with_reducible refine (rOptions_any o ho _).mono ?_); rintro e w' ⟨rfl, rfl⟩; rw [B1.out]) | (go_at_call 12; (with_reducible refine (rTicket_any t _).mono ?_); rintro e w' ⟨rfl, rfl⟩; rw [B2.out]) | (go_at_call 12; (with_reducible refine (rTicket_any a _).mono ?_); rintro e w' ⟨rfl, rfl⟩; rw [B3.out]) | (go_at_call 23; (with_reducible refine (rHas_has o 17 131072 (by decide) (by decide) 17 (by decide) _).mono ?_); rintro e w' ⟨rfl, rfl⟩; rw [BV.out]) | (go_at_call 23; (with_reducible refine (rHas_has o 16 65536 (by decide) (by decide) 16 (by decide) _).mono ?_); rintro e w' ⟨rfl, rfl⟩; rw [BR.out]) | (go_at_call 23; (with_reducible refine (rHas_has t 6 64 (by decide) (by decide) 6 (by decide) _).mono ?_); rintro e w' ⟨rfl, rfl⟩; rw [BI.out]) | (go_at_call 23; (with_reducible refine (rHas_has t 7 128 (by decide) (by decide) 7 (by decide) _).mono ?_); rintro e w' ⟨rfl, rfl⟩; rw [BW.out]) | (go_at_call 52; (with_reducible refine (rOf1' _ (by first | with_reducible exact heap_new _ _ | with_reducible exact heap_new2 _ _ _ | with_reducible exact heap_new3 _ _ _ _ | with_reducible exact heap_new4 _ _ _ _ _ | with_reducible exact heap_new5 _ _ _ _ _ _) (by omega)).mono ?_); rintro e w' ⟨rfl, rfl⟩; (first | rw [of262144] | rw [of131072] | rw [of65536] | rw [of149] | rw [of64] | rw [of514] | rw [of2048] | rw [of10])) | (go_at_call 52; (with_reducible refine (rOf2' _ _ (by first | with_reducible exact heap_new _ _ | with_reducible exact heap_new2 _ _ _ | with_reducible exact heap_new3 _ _ _ _ | with_reducible exact heap_new4 _ _ _ _ _ | with_reducible exact heap_new5 _ _ _ _ _ _) (by omega)).mono ?_); rintro e w' ⟨rfl, rfl⟩; (first | rw [of262144] | rw [of131072] | rw [of65536] | rw [of149] | rw [of64] | rw [of514] | rw [of2048] | rw [of10])) | (go_at_call 52; (with_reducible refine (rOf4' _ _ _ _ (by first | with_reducible exact heap_new _ _ | with_reducible exact heap_new2 _ _ _ | with_reducible exact heap_new3 _ _ _ _ | with_reducible exact heap_new4 _ _ _ _ _ | with_reducible exact heap_new5 _ _ _ _ _ _) (by omega)).mono ?_); rintro e w' ⟨rfl, rfl⟩; (first | rw [of262144] | rw [of131072] | rw [of65536] | rw [of149] | rw [of64] | rw [of514] | rw [of2048] | rw [of10])) | (go_at_call 53; (with_reducible refine (rWanted_any o a ho ha _).mono ?_); rintro e w2 ⟨rfl, hx2⟩))
          go_ret2
          exact gref_of (v := 0) (by rw [HD.out, B1.out, B2.out, B3.out, BV.out, BR.out, BI.out, BW.out, M1.out, M2.out]; rfl) (by repeat (first | exact Ext.refl _ | assumption | refine Ext.drew ?_ | refine Ext.alloc ?_ _ | refine Ext.setCell ?_ (by first | exact Nat.le_refl _ | (simp; done) | (simp; omega)) _ | refine Ext.trans ?_ (by assumption)))
        · have BW := Lib.hid hBW
          clear hBW
          go_enter Tryd.func28, Tryd.ntmps28
          go_wp2_with (first | (go_at_call 14; (with_reducible refine (rOptions_any o ho _).mono ?_); rintro e w' ⟨rfl, rfl⟩; rw [B1.out]) | (go_at_call 12; (with_reducible refine (rTicket_any t _).mono ?_); rintro e w' ⟨rfl, rfl⟩; rw [B2.out]) | (go_at_call 12; (with_reducible refine (rTicket_any a _).mono ?_); rintro e w' ⟨rfl, rfl⟩; rw [B3.out]) | (go_at_call 23; (with_reducible refine (rHas_has o 17 131072 (by decide) (by decide) 17 (by decide) _).mono ?_); rintro e w' ⟨rfl, rfl⟩; rw [BV.out]) | (go_at_call 23; (with_reducible refine (rHas_has o 16 65536 (by decide) (by decide) 16 (by decide) _).mono ?_); rintro e w' ⟨rfl, rfl⟩; rw [BR.out]) | (go_at_call 23; (with_reducible refine (rHas_has t 6 64 (by decide) (by decide) 6 (by decide) _).mono ?_); rintro e w' ⟨rfl, rfl⟩; rw [BI.out]) | (go_at_call 23; (with_reducible refine (rHas_has t 7 128 (by decide) (by decide) 7 (by decide) _).mono ?_); rintro e w' ⟨rfl, rfl⟩; rw [BW.out]) | (go_at_call 52; (with_reducible refine (rOf1' _ (by first | with_reducible exact heap_new _ _ | with_reducible exact heap_new2 _ _ _ | with_reducible exact heap_new3 _ _ _ _ | with_reducible exact heap_new4 _ _ _ _ _ | with_reducible exact heap_new5 _ _ _ _ _ _) (by omega)).mono ?_); rintro e w' ⟨rfl, rfl⟩; (first | rw [of262144] | rw [of131072] | rw [of65536] | rw [of149] | rw [of64] | rw [of514] | rw [of2048] | rw [of10])) | (go_at_call 52; (with_reducible refine (rOf2' _ _ (by first | with_reducible exact heap_new _ _ | with_reducible exact heap_new2 _ _ _ | with_reducible exact heap_new3 _ _ _ _ | with_reducible exact heap_new4 _ _ _ _ _ | with_reducible exact heap_new5 _ _ _ _ _ _) (by omega)).mono ?_); rintro e w' ⟨rfl, rfl⟩; (first | rw [of262144] | rw [of131072] | rw [of65536] | rw [of149] | rw [of64] | rw [of514] | rw [of2048] | rw [of10])) | (go_at_call 52; (with_reducible refine (rOf4' _ _ _ _ (by first | with_reducible exact heap_new _ _ | with_reducible exact heap_new2 _ _ _ | with_reducible exact heap_new3 _ _ _ _ | with_reducible exact heap_new4 _ _ _ _ _ | with_reducible exact heap_new5 _ _ _ _ _ _) (by omega)).mono ?_); rintro e w' ⟨rfl, rfl⟩; (first | rw [of262144] | rw [of131072] | rw [of65536] | rw [of149] | rw [of64] | rw [of514] | rw [of2048] | rw [of10])) | (go_at_call 53; (with_reducible refine (rWanted_any o a ho ha _).mono ?_); rintro e w2 ⟨rfl, hx2⟩))
          go_ret2
          exact gref_of (v := t) (by rw [HD.out, B1.out, B2.out, B3.out, BV.out, BR.out, BI.out, BW.out, M1.out, M2.out]; rfl) (by repeat (first | exact Ext.refl _ | assumption | refine Ext.drew ?_ | refine Ext.alloc ?_ _ | refine Ext.setCell ?_ (by first | exact Nat.le_refl _ | (simp; done) | (simp; omega)) _ | refine Ext.trans ?_ (by assumption)))
      · have BI := Lib.hid hBI
        clear hBI
        go_enter Tryd.func28, Tryd.ntmps28
        go_wp2_with (first | (go_at_call 14; (with_reducible refine (rOptions_any o ho _).mono ?_); rintro e w' ⟨rfl, rfl⟩; rw [B1.out]) | (go_at_call 12; (with_reducible refine (rTicket_any t _).mono ?_); rintro e w' ⟨rfl, rfl⟩; rw [B2.out]) | (go_at_call 12; (with_reducible refine (rTicket_any a _).mono ?_); rintro e w' ⟨rfl, rfl⟩; rw [B3.out]) | (go_at_call 23; (with_reducible refine (rHas_has o 17 131072 (by decide) (by decide) 17 (by decide) _).mono ?_); rintro e w' ⟨rfl, rfl⟩; rw [BV.out]) | (go_at_call 23; (with_reducible refine (rHas_has o 16 65536 (by decide) (by decide) 16 (by decide) _).mono ?_); rintro e w' ⟨rfl, rfl⟩; rw [BR.out]) | (go_at_call 23; (with_reducible refine (rHas_has t 6 64 (by decide) (by decide) 6 (by decide) _).mono ?_); rintro e w' ⟨rfl, rfl⟩; rw [BI.out]) | (go_at_call 52; (with_reducible refine (rOf1' _ (by first | with_reducible exact heap_new _ _ | with_reducible exact heap_new2 _ _ _ | with_reducible exact heap_new3 _ _ _ _ | with_reducible exact heap_new4 _ _ _ _ _ | with_reducible exact heap_new5 _ _ _ _ _ _) (by omega)).mono ?_); rintro e w' ⟨rfl, rfl⟩; (first | rw [of262144] | rw [of131072] | rw [of65536] | rw [of149] | rw [of64] | rw [of514] | rw [of2048] | rw [of10])) | (go_at_call 52; (with_reducible refine (rOf2' _ _ (by first | with_reducible exact heap_new _ _ | with_reducible exact heap_new2 _ _ _ | with_reducible exact heap_new3 _ _ _ _ | with_reducible exact heap_new4 _ _ _ _ _ | with_reducible exact heap_new5 _ _ _ _ _ _) (by omega)).mono ?_); rintro e w' ⟨rfl, rfl⟩; (first | rw [of262144] | rw [of131072] | rw [of65536] | rw [of149] | rw [of64] | rw [of514] | rw [of2048] | rw [of10])) | (go_at_call 52; (with_reducible refine (rOf4' _ _ _ _ (by first | with_reducible exact heap_new _ _ | with_reducible exact heap_new2 _ _ _ | with_reducible exact heap_new3 _ _ _ _ | with_reducible exact heap_new4 _ _ _ _ _ | with_reducible exact heap_new5 _ _ _ _ _ _) (by omega)).mono ?_); rintro e w' ⟨rfl, rfl⟩; (first | rw [of262144] | rw [of131072] | rw [of65536] | rw [of149] | rw [of64] | rw [of514] | rw [of2048] | rw [of10])) | (go_at_call 53; (with_reducible refine (rWanted_any o a ho ha _).mono ?_); rintro e w2 ⟨rfl, hx2⟩))
        go_ret2
        exact gref_of (v := 0) (by rw [HD.out, B1.out, B2.out, B3.out, BV.out, BR.out, BI.out, M1.out, M2.out]; rfl) (by repeat (first | exact Ext.refl _ | assumption | refine Ext.drew ?_ | refine Ext.alloc ?_ _ | refine Ext.setCell ?_ (by first | exact Nat.le_refl _ | (simp; done) | (simp; omega)) _ | refine Ext.trans ?_ (by assumption)))
  · cases hM1 : decide (offN o 262144 = 131072) <;> cases hM2 : decide (offN o 262144 = 65536)
    all_goals
      rw [hM1] at m1
      rw [hM2] at m2
      have M1 := Lib.hid hM1
      have M2 := Lib.hid hM2
      clear hM1 hM2
    case false.false =>
      go_enter Tryd.func28, Tryd.ntmps28
      go_wp2_with (first | (go_at_call 14; (with_reducible refine (rOptions_any o ho _).mono ?_); rintro e w' ⟨rfl, rfl⟩; rw [B1.out]) | (go_at_call 12; (with_reducible refine (rTicket_any t _).mono ?_); rintro e w' ⟨rfl, rfl⟩; rw [B2.out]) | (go_at_call 12; (with_reducible refine (rTicket_any a _).mono ?_); rintro e w' ⟨rfl, rfl⟩; rw [B3.out]) | (go_at_call 23; (with_reducible refine (rHas_has o 17 131072 (by decide) (by decide) 17 (by decide) _).mono ?_); rintro e w' ⟨rfl, rfl⟩; rw [BV.out]) | (go_at_call 23; (with_reducible refine (rHas_has o 16 65536 (by decide) (by decide) 16 (by decide) _).mono ?_); rintro e w' ⟨rfl, rfl⟩; rw [BR.out]) | (go_at_call 52; (with_reducible refine (rOf1' _ (by first | with_reducible exact heap_new _ _ | with_reducible exact heap_new2 _ _ _ | with_reducible exact heap_new3 _ _ _ _ | with_reducible exact heap_new4 _ _ _ _ _ | with_reducible exact heap_new5 _ _ _ _ _ _) (by omega)).mono ?_); rintro e w' ⟨rfl, rfl⟩; (first | rw [of262144] | rw [of131072] | rw [of65536] | rw [of149] | rw [of64] | rw [of514] | rw [of2048] | rw [of10])) | (go_at_call 52; (with_reducible refine (rOf2' _ _ (by first | with_reducible exact heap_new _ _ | with_reducible exact heap_new2 _ _ _ | with_reducible exact heap_new3 _ _ _ _ | with_reducible exact heap_new4 _ _ _ _ _ | with_reducible exact heap_new5 _ _ _ _ _ _) (by omega)).mono ?_); rintro e w' ⟨rfl, rfl⟩; (first | rw [of262144] | rw [of131072] | rw [of65536] | rw [of149] | rw [of64] | rw [of514] | rw [of2048] | rw [of10])) | (go_at_call 52; (with_reducible refine (rOf4' _ _ _ _ (by first | with_reducible exact heap_new _ _ | with_reducible exact heap_new2 _ _ _ | with_reducible exact heap_new3 _ _ _ _ | with_reducible exact heap_new4 _ _ _ _ _ | with_reducible exact heap_new5 _ _ _ _ _ _) (by omega)).mono ?_); rintro e w' ⟨rfl, rfl⟩; (first | rw [of262144] | rw [of131072] | rw [of65536] | rw [of149] | rw [of64] | rw [of514] | rw [of2048] | rw [of10])) | (go_at_call 53; (with_reducible refine (rWanted_any o a ho ha _).mono ?_); rintro e w2 ⟨rfl, hx2⟩))
      go_ret2
      exact gref_of (v := 0) (by rw [HD.out, B1.out, B2.out, B3.out, BV.out, BR.out, M1.out, M2.out]; rfl) (by repeat (first | exact Ext.refl _ | assumption | refine Ext.drew ?_ | refine Ext.alloc ?_ _ | refine Ext.setCell ?_ (by first | exact Nat.le_refl _ | (simp; done) | (simp; omega)) _ | refine Ext.trans ?_ (by assumption)))
    all_goals
      cases hBI : hasB t 64
      · have BI := Lib.hid hBI
        clear hBI
        go_enter Tryd.func28, Tryd.ntmps28
        go_wp2_with (first | (go_at_call 14; (with_reducible refine (rOptions_any o ho _).mono ?_); rintro e w' ⟨rfl, rfl⟩; rw [B1.out]) | (go_at_call 12; (with_reducible refine (rTicket_any t _).mono ?_); rintro e w' ⟨rfl, rfl⟩; rw [B2.out]) | (go_at_call 12; (with_reducible refine (rTicket_any a _).mono ?_); rintro e w' ⟨rfl, rfl⟩; rw [B3.out]) | (go_at_call 23; (with_reducible refine (rHas_has o 17 131072 (by decide) (by decide) 17 (by decide) _).mono ?_); rintro e w' ⟨rfl, rfl⟩; rw [BV.out]) | (go_at_call 23; (with_reducible refine (rHas_has o 16 65536 (by decide) (by decide) 16 (by decide) _).mono ?_); rintro e w' ⟨rfl, rfl⟩; rw [BR.out]) | (go_at_call 23; (with_reducible refine (rHas_has t 6 64 (by decide) (by decide) 6 (by decide) _).mono ?_); rintro e w' ⟨rfl, rfl⟩; rw [BI.out]) | (go_at_call 52; (with_reducible refine (rOf1' _ (by first | with_reducible exact heap_new _ _ | with_reducible exact heap_new2 _ _ _ | with_reducible exact heap_new3 _ _ _ _ | with_reducible exact heap_new4 _ _ _ _ _ | with_reducible exact heap_new5 _ _ _ _ _ _) (by omega)).mono ?_); rintro e w' ⟨rfl, rfl⟩; (first | rw [of262144] | rw [of131072] | rw [of65536] | rw [of149] | rw [of64] | rw [of514] | rw [of2048] | rw [of10])) | (go_at_call 52; (with_reducible refine (rOf2' _ _ (by first | with_reducible exact heap_new _ _ | with_reducible exact heap_new2 _ _ _ | with_reducible exact heap_new3 _ _ _ _ | with_reducible exact heap_new4 _ _ _ _ _ | with_reducible exact heap_new5 _ _ _ _ _ _) (by omega)).mono ?_); rintro e w' ⟨rfl, rfl⟩; (first | rw [of262144] | rw [of131072] | rw [of65536] | rw [of149] | rw [of64] | rw [of514] | rw [of2048] | rw [of10])) | (go_at_call 52; (with_reducible refine (rOf4' _ _ _ _ (by first | with_reducible exact heap_new _ _ | with_reducible exact heap_new2 _ _ _ | with_reducible exact heap_new3 _ _ _ _ | with_reducible exact heap_new4 _ _ _ _ _ | with_reducible exact heap_new5 _ _ _ _ _ _) (by omega)).mono ?_); rintro e w' ⟨rfl, rfl⟩; (first | rw [of262144] | rw [of131072] | rw [of65536] | rw [of149] | rw [of64] | rw [of514] | rw [of2048] | rw [of10])) | (go_at_call 53; (with_reducible refine (rWanted_any o a ho ha _).mono ?_); rintro e w2 ⟨rfl, hx2⟩))
        go_ret2
        exact gref_of (v := 0) (by rw [HD.out, B1.out, B2.out, B3.out, BV.out, BR.out, BI.out, M1.out, M2.out]; rfl) (by repeat (first | exact Ext.refl _ | assumption | refine Ext.drew ?_ | refine Ext.alloc ?_ _ | refine Ext.setCell ?_ (by first | exact Nat.le_refl _ | (simp; done) | (simp; omega)) _ | refine Ext.trans ?_ (by assumption)))
      · have BI := Lib.hid hBI
        clear hBI
        go_enter Tryd.func28, Tryd.ntmps28
        go_wp2_with (first | (go_at_call 14; (with_reducible refine (rOptions_any o ho _).mono ?_); rintro e w' ⟨rfl, rfl⟩; rw [B1.out]) | (go_at_call 12; (with_reducible refine (rTicket_any t _).mono ?_); rintro e w' ⟨rfl, rfl⟩; rw [B2.out]) | (go_at_call 12; (with_reducible refine (rTicket_any a _).mono ?_); rintro e w' ⟨rfl, rfl⟩; rw [B3.out]) | (go_at_call 23; (with_reducible refine (rHas_has o 17 131072 (by decide) (by decide) 17 (by decide) _).mono ?_); rintro e w' ⟨rfl, rfl⟩; rw [BV.out]) | (go_at_call 23; (with_reducible refine (rHas_has o 16 65536 (by decide) (by decide) 16 (by decide) _).mono ?_); rintro e w' ⟨rfl, rfl⟩; rw [BR.out]) | (go_at_call 23; (with_reducible refine (rHas_has t 6 64 (by decide) (by decide) 6 (by decide) _).mono ?_); rintro e w' ⟨rfl, rfl⟩; rw [BI.out]) | (go_at_call 52; (with_reducible refine (rOf1' _ (by first | with_reducible exact heap_new _ _ | with_reducible exact heap_new2 _ _ _ | with_reducible exact heap_new3 _ _ _ _ | with_reducible exact heap_new4 _ _ _ _ _ | with_reducible exact heap_new5 _ _ _ _ _ _) (by omega)).mono ?_); rintro e w' ⟨rfl, rfl⟩; (first | rw [of262144] | rw [of131072] | rw [of65536] | rw [of149] | rw [of64] | rw [of514] | rw [of2048] | rw [of10])) | (go_at_call 52; (with_reducible refine (rOf2' _ _ (by first | with_reducible exact heap_new _ _ | with_reducible exact heap_new2 _ _ _ | with_reducible exact heap_new3 _ _ _ _ | with_reducible exact heap_new4 _ _ _ _ _ | with_reducible exact heap_new5 _ _ _ _ _ _) (by omega)).mono ?_); rintro e w' ⟨rfl, rfl⟩; (first | rw [of262144] | rw [of131072] | rw [of65536] | rw [of149] | rw [of64] | rw [of514] | rw [of2048] | rw [of10])) | (go_at_call 52; (with_reducible refine (rOf4' _ _ _ _ (by first | with_reducible exact heap_new _ _ | with_reducible exact heap_new2 _ _ _ | with_reducible exact heap_new3 _ _ _ _ | with_reducible exact heap_new4 _ _ _ _ _ | with_reducible exact heap_new5 _ _ _ _ _ _) (by omega)).mono ?_); rintro e w' ⟨rfl, rfl⟩; (first | rw [of262144] | rw [of131072] | rw [of65536] | rw [of149] | rw [of64] | rw [of514] | rw [of2048] | rw [of10])) | (go_at_call 53; (with_reducible refine (rWanted_any o a ho ha _).mono ?_); rintro e w2 ⟨rfl, hx2⟩))
        go_ret2
        exact gref_of (v := offN t 64) (by rw [HD.out, B1.out, B2.out, B3.out, BV.out, BR.out, BI.out, M1.out, M2.out]; rfl) (by repeat (first | exact Ext.refl _ | assumption | refine Ext.drew ?_ | refine Ext.alloc ?_ _ | refine Ext.setCell ?_ (by first | exact Nat.le_refl _ | (simp; done) | (simp; omega)) _ | refine Ext.trans ?_ (by assumption)))
  · cases hM1 : decide (offN o 262144 = 131072) <;> cases hM2 : decide (offN o 262144 = 65536)
    all_goals
      rw [hM1] at m1
      rw [hM2] at m2
      have M1 := Lib.hid hM1
      have M2 := Lib.hid hM2
      clear hM1 hM2
    case false.false =>
      go_enter Tryd.func28, Tryd.ntmps28
      go_wp2_with (first | (go_at_call 14; (with_reducible refine (rOptions_any o ho _).mono ?_); rintro e w' ⟨rfl, rfl⟩; rw [B1.out]) | (go_at_call 12; (with_reducible refine (rTicket_any t _).mono ?_); rintro e w' ⟨rfl, rfl⟩; rw [B2.out]) | (go_at_call 12; (with_reducible refine (rTicket_any a _).mono ?_); rintro e w' ⟨rfl, rfl⟩; rw [B3.out]) | (go_at_call 23; (with_reducible refine (rHas_has o 17 131072 (by decide) (by decide) 17 (by decide) _).mono ?_); rintro e w' ⟨rfl, rfl⟩; rw [BV.out]) | (go_at_call 23; (with_reducible refine (rHas_has o 16 65536 (by decide) (by decide) 16 (by decide) _).mono ?_); rintro e w' ⟨rfl, rfl⟩; rw [BR.out]) | (go_at_call 52; (with_reducible refine (rOf1' _ (by first | with_reducible exact heap_new _ _ | with_reducible exact heap_new2 _ _ _ | with_reducible exact heap_new3 _ _ _ _ | with_reducible exact heap_new4 _ _ _ _ _ | with_reducible exact heap_new5 _ _ _ _ _ _) (by omega)).mono ?_); rintro e w' ⟨rfl, rfl⟩; (first | rw [of262144] | rw [of131072] | rw [of65536] | rw [of149] | rw [of64] | rw [of514] | rw [of2048] | rw [of10])) | (go_at_call 52; (with_reducible refine (rOf2' _ _ (by first | with_reducible exact heap_new _ _ | with_reducible exact heap_new2 _ _ _ | with_reducible exact heap_new3 _ _ _ _ | with_reducible exact heap_new4 _ _ _ _ _ | with_reducible exact heap_new5 _ _ _ _ _ _) (by omega)).mono ?_); rintro e w' ⟨rfl, rfl⟩; (first | rw [of262144] | rw [of131072] | rw [of65536] | rw [of149] | rw [of64] | rw [of514] | rw [of2048] | rw [of10])) | (go_at_call 52; (with_reducible refine (rOf4' _ _ _ _ (by first | with_reducible exact heap_new _ _ | with_reducible exact heap_new2 _ _ _ | with_reducible exact heap_new3 _ _ _ _ | with_reducible exact heap_new4 _ _ _ _ _ | with_reducible exact heap_new5 _ _ _ _ _ _) (by omega)).mono ?_); rintro e w' ⟨rfl, rfl⟩; (first | rw [of262144] | rw [of131072] | rw [of65536] | rw [of149] | rw [of64] | rw [of514] | rw [of2048] | rw [of10])) | (go_at_call 53; (with_reducible refine (rWanted_any o a ho ha _).mono ?_); rintro e w2 ⟨rfl, hx2⟩))
      go_ret2
      exact gref_of (v := 0) (by rw [HD.out, B1.out, B2.out, B3.out, BV.out, BR.out, M1.out, M2.out]; rfl) (by repeat (first | exact Ext.refl _ | assumption | refine Ext.drew ?_ | refine Ext.alloc ?_ _ | refine Ext.setCell ?_ (by first | exact Nat.le_refl _ | (simp; done) | (simp; omega)) _ | refine Ext.trans ?_ (by assumption)))
    all_goals
      cases hBI : hasB t 64
      · have BI := Lib.hid hBI
        clear hBI
        go_enter Tryd.func28, Tryd.ntmps28
        go_wp2_with (first | (go_at_call 14; (with_reducible refine (rOptions_any o ho _).mono ?_); rintro e w' ⟨rfl, rfl⟩; rw [B1.out]) | (go_at_call 12; (with_reducible refine (rTicket_any t _).mono ?_); rintro e w' ⟨rfl, rfl⟩; rw [B2.out]) | (go_at_call 12; (with_reducible refine (rTicket_any a _).mono ?_); rintro e w' ⟨rfl, rfl⟩; rw [B3.out]) | (go_at_call 23; (with_reducible refine (rHas_has o 17 131072 (by decide) (by decide) 17 (by decide) _).mono ?_); rintro e w' ⟨rfl, rfl⟩; rw [BV.out]) | (go_at_call 23; (with_reducible refine (rHas_has o 16 65536 (by decide) (by decide) 16 (by decide) _).mono ?_); rintro e w' ⟨rfl, rfl⟩; rw [BR.out]) | (go_at_call 23; (with_reducible refine (rHas_has t 6 64 (by decide) (by decide) 6 (by decide) _).mono ?_); rintro e w' ⟨rfl, rfl⟩; rw [BI.out]) | (go_at_call 52; (with_reducible refine (rOf1' _ (by first | with_reducible exact heap_new _ _ | with_reducible exact heap_new2 _ _ _ | with_reducible exact heap_new3 _ _ _ _ | with_reducible exact heap_new4 _ _ _ _ _ | with_reducible exact heap_new5 _ _ _ _ _ _) (by omega)).mono ?_); rintro e w' ⟨rfl, rfl⟩; (first | rw [of262144] | rw [of131072] | rw [of65536] | rw [of149] | rw [of64] | rw [of514] | rw [of2048] | rw [of10])) | (go_at_call 52; (with_reducible refine (rOf2' _ _ (by first | with_reducible exact heap_new _ _ | with_reducible exact heap_new2 _ _ _ | with_reducible exact heap_new3 _ _ _ _ | with_reducible exact heap_new4 _ _ _ _ _ | with_reducible exact heap_new5 _ _ _ _ _ _) (by omega)).mono ?_); rintro e w' ⟨rfl, rfl⟩; (first | rw [of262144] | rw [of131072] | rw [of65536] | rw [of149] | rw [of64] | rw [of514] | rw [of2048] | rw [of10])) | (go_at_call 52; (with_reducible refine (rOf4' _ _ _ _ (by first | with_reducible exact heap_new _ _ | with_reducible exact heap_new2 _ _ _ | with_reducible exact heap_new3 _ _ _ _ | with_reducible exact heap_new4 _ _ _ _ _ | with_reducible exact heap_new5 _ _ _ _ _ _) (by omega)).mono ?_); rintro e w' ⟨rfl, rfl⟩; (first | rw [of262144] | rw [of131072] | rw [of65536] | rw [of149] | rw [of64] | rw [of514] | rw [of2048] | rw [of10])) | (go_at_call 53; (with_reducible refine (rWanted_any o a ho ha _).mono ?_); rintro e w2 ⟨rfl, hx2⟩))
        go_ret2
        exact gref_of (v := 0) (by rw [HD.out, B1.out, B2.out, B3.out, BV.out, BR.out, BI.out, M1.out, M2.out]; rfl) (by repeat (first | exact Ext.refl _ | assumption | refine Ext.drew ?_ | refine Ext.alloc ?_ _ | refine Ext.setCell ?_ (by first | exact Nat.le_refl _ | (simp; done) | (simp; omega)) _ | refine Ext.trans ?_ (by assumption)))
      · have BI := Lib.hid hBI
        clear hBI
        go_enter Tryd.func28, Tryd.ntmps28
        go_wp2_with (first | (go_at_call 14; (with_reducible refine (rOptions_any o ho _).mono ?_); rintro e w' ⟨rfl, rfl⟩; rw [B1.out]) | (go_at_call 12; (with_reducible refine (rTicket_any t _).mono ?_); rintro e w' ⟨rfl, rfl⟩; rw [B2.out]) | (go_at_call 12; (with_reducible refine (rTicket_any a _).mono ?_); rintro e w' ⟨rfl, rfl⟩; rw [B3.out]) | (go_at_call 23; (with_reducible refine (rHas_has o 17 131072 (by decide) (by decide) 17 (by decide) _).mono ?_); rintro e w' ⟨rfl, rfl⟩; rw [BV.out]) | (go_at_call 23; (with_reducible refine (rHas_has o 16 65536 (by decide) (by decide) 16 (by decide) _).mono ?_); rintro e w' ⟨rfl, rfl⟩; rw [BR.out]) | (go_at_call 23; (with_reducible refine (rHas_has t 6 64 (by decide) (by decide) 6 (by decide) _).mono ?_); rintro e w' ⟨rfl, rfl⟩; rw [BI.out]) | (go_at_call 52; (with_reducible refine (rOf1' _ (by first | with_reducible exact heap_new _ _ | with_reducible exact heap_new2 _ _ _ | with_reducible exact heap_new3 _ _ _ _ | with_reducible exact heap_new4 _ _ _ _ _ | with_reducible exact heap_new5 _ _ _ _ _ _) (by omega)).mono ?_); rintro e w' ⟨rfl, rfl⟩; (first | rw [of262144] | rw [of131072] | rw [of65536] | rw [of149] | rw [of64] | rw [of514] | rw [of2048] | rw [of10])) | (go_at_call 52; (with_reducible refine (rOf2' _ _ (by first | with_reducible exact heap_new _ _ | with_reducible exact heap_new2 _ _ _ | with_reducible exact heap_new3 _ _ _ _ | with_reducible exact heap_new4 _ _ _ _ _ | with_reducible exact heap_new5 _ _ _ _ _ _) (by omega)).mono ?_); rintro e w' ⟨rfl, rfl⟩; (first | rw [of262144] | rw [of131072] | rw [of65536] | rw [of149] | rw [of64] | rw [of514] | rw [of2048] | rw [of10])) | (go_at_call 52; (with_reducible refine (rOf4' _ _ _ _ (by first | with_reducible exact heap_new _ _ | with_reducible exact heap_new2 _ _ _ | with_reducible exact heap_new3 _ _ _ _ | with_reducible exact heap_new4 _ _ _ _ _ | with_reducible exact heap_new5 _ _ _ _ _ _) (by omega)).mono ?_); rintro e w' ⟨rfl, rfl⟩; (first | rw [of262144] | rw [of131072] | rw [of65536] | rw [of149] | rw [of64] | rw [of514] | rw [of2048] | rw [of10])) | (go_at_call 53; (with_reducible refine (rWanted_any o a ho ha _).mono ?_); rintro e w2 ⟨rfl, hx2⟩))
        go_ret2
        exact gref_of (v := offN t 64) (by rw [HD.out, B1.out, B2.out, B3.out, BV.out, BR.out, BI.out, M1.out, M2.out]; rfl) (by repeat (first | exact Ext.refl _ | assumption | refine Ext.drew ?_ | refine Ext.alloc ?_ _ | refine Ext.setCell ?_ (by first | exact Nat.le_refl _ | (simp; done) | (simp; omega)) _ | refine Ext.trans ?_ (by assumption)))
end Go.Proofs.YtbgiciijiopklaaDoor
