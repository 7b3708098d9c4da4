/- Contracts of package flags: none, wanted, the rules of Initial, first at three rules, Initial. Numbers of 32 bits. -/
import Derived.Test.YtbgiciijiopklaaDoorFlagA
namespace Go.Proofs.YtbgiciijiopklaaDoor
open Go.RowKit
theorem and32 {a b : Nat} (ha : a < 4294967296) : a &&& b < 4294967296 := Nat.lt_of_le_of_lt Nat.and_le_left ha
theorem orI2 (a b : Nat) (z : Int) (hz : z = b) : orI [(a : Int), z] = ((a ||| b : Nat) : Int) := by subst hz; rw [orI_def]; simp [orL]
theorem orI3 (a b c : Nat) (y z : Int) (hy : y = b) (hz : z = c) : orI [(a : Int), y, z] = ((a ||| b ||| c : Nat) : Int) := by subst hy hz; rw [orI_def]; simp [orL]
/-- The flags that options ask for, as far as they are allowed. -/
def wantedN (o a : Nat) : Nat := if hasB o 32 = true then (o &&& a &&& 149) ||| 32 ||| 64 else o &&& a &&& 149
theorem wantedN_def (o a : Nat) : wantedN o a = if hasB o 32 = true then (o &&& a &&& 149) ||| 32 ||| 64 else o &&& a &&& 149 := rfl
theorem wantedN_lt (o a : Nat) (ho : o < 4294967296) : wantedN o a < 4294967296 := by
  unfold wantedN
  split
  · exact or32 (or32 (and32 (and32 ho)) (by decide)) (by decide)
  · exact and32 (and32 ho)
attribute [irreducible] wantedN
set_option maxHeartbeats 800000 in
theorem wanted_any (o a : Nat) (ho : o < 4294967296) (ha : a < 4294967296) (w : World) : Calls Tryd.prog 51 #[.int .u32 (o : Int), .int .u32 (a : Int)] w fun e w' => e = .returned (.int .u32 (wantedN o a : Nat)) ∧ Ext w w' := by
  have h1 := u32_and_nat o a ho ha
  have h2 := andI (o &&& a) 149 (and32 ho) (by decide) 149 rfl
  have hlt : o &&& a &&& 149 < 4294967296 := and32 (and32 ho)
  have hd := wantedN_def o a
  have hor := orI3 (o &&& a &&& 149) 32 64 32 64 rfl rfl
  generalize o &&& a = x at *
  generalize x &&& 149 = y at *
  cases hb : hasB o 32
  · have HD : Hid (wantedN o a = y) := by rw [hd, hb]; exact rfl
    have HB := Lib.hid hb
    clear hd hb
    go_enter Tryd.func51, Tryd.ntmps51
    go_wp2_with (first | (go_at_call 61; (with_reducible refine (pass_any _).mono ?_); rintro e w1 ⟨rfl, hx⟩) | (go_at_call 15; (with_reducible refine (has_any o 32 ho (by decide) 32 (by decide) _).mono ?_); rintro e w' ⟨rfl, rfl⟩; rw [HB.out]))
    go_ret
    exact ⟨ret_int (by rw [HD.out]), hx⟩
  · have HD : Hid (wantedN o a = y ||| 32 ||| 64) := by rw [hd, hb]; exact rfl
    have HB := Lib.hid hb
    clear hd hb
    go_enter Tryd.func51, Tryd.ntmps51
    go_wp2_with (first | (go_at_call 61; (with_reducible refine (pass_any _).mono ?_); rintro e w1 ⟨rfl, hx⟩) | (go_at_call 15; (with_reducible refine (has_any o 32 ho (by decide) 32 (by decide) _).mono ?_); rintro e w' ⟨rfl, rfl⟩; rw [HB.out]) | (go_at_call 42; (with_reducible refine (union_blk3 _ _ _ (by omega) (heap_new _ _)).mono ?_); rintro e w' ⟨rfl, rfl⟩; rw [hor]))
    go_ret
    exact ⟨ret_int (by rw [HD.out]), hx.alloc _⟩
/-- Are none of the flags m among f? -/
def noneB (f m : Nat) : Bool := decide (f &&& m = 0)
theorem noneB_def (f m : Nat) : noneB f m = decide (f &&& m = 0) := rfl
attribute [irreducible] noneB
set_option maxHeartbeats 800000 in
theorem none_blk5 (f : Nat) (hf : f < 4294967296) (x0 x1 x2 x3 x4 : Int) (m : Nat) (hm : m < 4294967296) (h0 : 0 ≤ x0 ∧ x0 < 4294967296 ∧ 0 ≤ x1 ∧ x1 < 4294967296 ∧ 0 ≤ x2 ∧ x2 < 4294967296 ∧ 0 ≤ x3 ∧ x3 < 4294967296 ∧ 0 ≤ x4 ∧ x4 < 4294967296) (ho : orI [x0, x1, x2, x3, x4] = m) {b cap : Nat} {T : TypeId} {fr : Nat × Nat} {w : World} (h : w.heap[b]? = some (.cells #[.int .u32 x0, .int .u32 x1, .int .u32 x2, .int .u32 x3, .int .u32 x4] T fr)) :
    Calls Tryd.prog 49 #[.int .u32 (f : Int), .slice (some ⟨b, 0, none⟩) 5 cap] w fun e w' => e = .returned (.bool (noneB f m)) ∧ w = w' := by
  have HN := Lib.hid (noneB_def f m)
  have h1 := u32_and_nat f m hf hm
  have h2 := beq_zero (f &&& m)
  have HO := Lib.hid ho
  have HH := Lib.hid h
  generalize f &&& m = x at *
  clear ho h
  go_enter Tryd.func49, Tryd.ntmps49
  go_wp2_with (go_at_call 42; (with_reducible refine (union_blk5 _ _ _ _ _ (by omega) HH.out).mono ?_); rintro e w' ⟨rfl, rfl⟩; rw [HO.out])
  go_ret
  exact ⟨ret_bool (by rw [HN.out]), rfl⟩
set_option maxHeartbeats 800000 in
theorem initial1_any (b1 b2 : Nat) (o a : Nat) (ho : o < 4294967296) (ha : a < 4294967296) (w : World) (h1 : w.cell? ⟨b1, 0, none⟩ = some (.int .u32 (o : Int))) (h2 : w.cell? ⟨b2, 0, none⟩ = some (.int .u32 (a : Int))) :
    Calls Tryd.prog 47 #[.pointer (some ⟨b1, 0, none⟩), .pointer (some ⟨b2, 0, none⟩)] w fun e w' => e = .returned (.bool (optB o && ticketB a)) ∧ Ext w w' := by
  cases hb : optB o
  · have HB := Lib.hid hb
    clear hb
    go_enter Tryd.func47, Tryd.ntmps47
    go_wp2_with (go_at_call 13; (with_reducible refine (optionsOk_any o ho _).mono ?_); rintro e w1 ⟨rfl, hx⟩; rw [HB.out])
    go_ret
    exact ⟨rfl, hx⟩
  · have HB := Lib.hid hb
    clear hb
    go_enter Tryd.func47, Tryd.ntmps47
    go_wp2_with (first | (go_at_call 13; (with_reducible refine (optionsOk_any o ho _).mono ?_); rintro e w1 ⟨rfl, hx⟩; rw [HB.out]; have h3 := hx.cell h2) | (go_at_call 11; (with_reducible refine (ticket_any a ha _).mono ?_); rintro e w' ⟨rfl, rfl⟩))
    go_ret
    exact ⟨by simp, hx⟩
set_option maxHeartbeats 800000 in
theorem initial2_any (b1 : Nat) (o : Nat) (ho : o < 4294967296) (w : World) (h1 : w.cell? ⟨b1, 0, none⟩ = some (.int .u32 (o : Int))) :
    Calls Tryd.prog 48 #[.pointer (some ⟨b1, 0, none⟩)] w fun e w' => e = .returned (.bool (noneB o 720906)) ∧ Ext w w' := by
  go_enter Tryd.func48, Tryd.ntmps48
  go_wp2_with (go_at_call 49; (with_reducible refine (none_blk5 o ho _ _ _ _ _ 720906 (by decide) (by decide) (by rw [orI_def]; decide) (heap_new _ _)).mono ?_); rintro e w' ⟨rfl, rfl⟩)
  go_ret
  exact ⟨rfl, (Ext.refl _).alloc _⟩
set_option maxHeartbeats 800000 in
theorem initial3_any (b1 b2 : Nat) (o a : Nat) (ho : o < 4294967296) (ha : a < 4294967296) (w : World) (h1 : w.cell? ⟨b1, 0, none⟩ = some (.int .u32 (o : Int))) (h2 : w.cell? ⟨b2, 0, none⟩ = some (.int .u32 (a : Int))) :
    Calls Tryd.prog 50 #[.pointer (some ⟨b1, 0, none⟩), .pointer (some ⟨b2, 0, none⟩)] w fun e w' => e = .returned (.bool (!hasB o 32 || hasB a 16)) ∧ w = w' := by
  cases hb : hasB o 32
  all_goals
    have HB := Lib.hid hb
    clear hb
    go_enter Tryd.func50, Tryd.ntmps50
    go_wp2_with (first | (go_at_call 15; (with_reducible refine (has_any o 32 ho (by decide) 32 (by decide) _).mono ?_); rintro e w' ⟨rfl, rfl⟩; rw [HB.out]) | (go_at_call 15; (with_reducible refine (has_any a 16 ha (by decide) 16 (by decide) _).mono ?_); rintro e w' ⟨rfl, rfl⟩))
    go_ret
    exact ⟨by simp, rfl⟩
end Go.Proofs.YtbgiciijiopklaaDoor
