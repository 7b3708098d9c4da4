/- Contracts of package flags: union, pass, tickets, options, Ticket, Options, named, Has. No condition. -/
import Derived.Test.YtbgiciijiopklaaDoorRows
import Derived.Test.YtbgiciijiopklaaDoorLib
import Derived.LoopTactic
import Derived.Laws.BitsAllLaws
namespace Go.Proofs.YtbgiciijiopklaaDoor
open Go.RowKit
def orL (l : List Nat) : Nat := l.foldl (· ||| ·) 0
theorem orL_snoc (l : List Nat) (x : Nat) : orL (l ++ [x]) = orL l ||| x := by simp [orL]
theorem or32 {a b : Nat} (ha : a < 4294967296) (hb : b < 4294967296) : a ||| b < 4294967296 := Nat.or_lt_two_pow (n := 32) ha hb
theorem orL_lt {l : List Nat} (h : ∀ x ∈ l, x < 4294967296) : orL l < 4294967296 := by
  have : ∀ (m : List Nat) (a : Nat), a < 4294967296 → (∀ x ∈ m, x < 4294967296) → m.foldl (· ||| ·) a < 4294967296 := by
    intro m
    induction m with
    | nil => intro a ha _; exact ha
    | cons x m ih => intro a ha hm; exact ih _ (or32 ha (hm x (by simp))) (fun y hy => hm y (by simp [hy]))
  exact this l 0 (by decide) h
set_option maxHeartbeats 800000 in
theorem union_any (b : Nat) (cap len : Nat) (xs : List Nat) (w : World) (hlen : len = xs.length) (hbig : len ≤ 1000) (hx : ∀ x ∈ xs, x < 4294967296) (hc : ∀ j, j < xs.length → w.cell? ⟨b, j, none⟩ = some (.int .u32 (xs.getD j 0 : Nat))) :
    Calls Tryd.prog 42 #[.slice (some ⟨b, 0, none⟩) len cap] w fun e w' => e = .returned (.int .u32 (orL xs : Nat)) ∧ w = w' := by
  subst hlen
  have HX := Lib.hid hx
  have HC := Lib.hid hc
  clear hx hc
  go_enter Tryd.func42, Tryd.ntmps42
  go_wp2
  go_loop [2, 7] (fun v i => ∃ k : Nat, k ≤ xs.length ∧ i = .int .i64 k ∧ v = .int .u32 (orL (xs.take k) : Nat)) (fun _ i => xs.length - (intOf i).toNat)
  case atStart => exact ⟨0, Nat.zero_le _, rfl, rfl⟩
  case round =>
    obtain ⟨k, hk, rfl, rfl⟩ := hrel
    by_cases hlt : k < xs.length
    · have hcell := HC.out k hlt
      have hb := HX.out xs[k] (List.getElem_mem hlt)
      have hg : xs.getD k 0 = xs[k] := by simp [hlt]
      rw [hg] at hcell
      have ha : orL (xs.take k) < 4294967296 := orL_lt (fun x hx => HX.out x (List.mem_of_mem_take hx))
      have HS : Hid (orL (xs.take (k + 1)) = orL (xs.take k) ||| xs[k]) := by rw [List.take_succ_eq_append_getElem hlt, orL_snoc]; exact rfl
      generalize orL (xs.take k) = a at *
      generalize xs[k] = x at *
      have hor := u32_or_nat a x ha hb
      clear hg
      go_wp2
      go_round
      case rel => exact ⟨k + 1, by omega, by go_num, by rw [HS.out]⟩
      case measure => simp [intOf]; omega
    · obtain rfl : k = xs.length := by omega
      go_wp2
      go_ret
      exact ⟨by simp, rfl⟩
/-- The union of numbers. -/
def orI (zs : List Int) : Int := (orL (zs.map Int.toNat) : Nat)
theorem orI_def (zs : List Int) : orI zs = (orL (zs.map Int.toNat) : Nat) := rfl
theorem union_i (zs : List Int) (hz : ∀ z ∈ zs, 0 ≤ z ∧ z < 4294967296) (hbig : zs.length ≤ 1000) {b cap len : Nat} {T : TypeId} {fr : Nat × Nat} {w : World} (h : w.heap[b]? = some (.cells (zs.map (Value.int .u32)).toArray T fr)) (hlen : len = zs.length) :
    Calls Tryd.prog 42 #[.slice (some ⟨b, 0, none⟩) len cap] w fun e w' => e = .returned (.int .u32 (orI zs)) ∧ w = w' := by
  refine union_any b cap len (zs.map Int.toNat) w (by simpa using hlen) (by omega) ?_ ?_
  · intro x hx
    obtain ⟨z, hz', rfl⟩ := List.mem_map.1 hx
    have := hz z hz'
    omega
  · intro j hj
    have hj' : j < zs.length := by simpa using hj
    have h0 := hz zs[j] (List.getElem_mem hj')
    simp [World.cell?, h, hj']
    omega
attribute [irreducible] orI
theorem union_blk2 (x0 x1 : Int) (h0 : 0 ≤ x0 ∧ x0 < 4294967296 ∧ 0 ≤ x1 ∧ x1 < 4294967296) {b cap : Nat} {T : TypeId} {fr : Nat × Nat} {w : World} (h : w.heap[b]? = some (.cells #[.int .u32 x0, .int .u32 x1] T fr)) :
    Calls Tryd.prog 42 #[.slice (some ⟨b, 0, none⟩) 2 cap] w fun e w' => e = .returned (.int .u32 (orI [x0, x1])) ∧ w = w' := union_i [x0, x1] (by simp; omega) (by simp) h rfl
theorem union_blk3 (x0 x1 x2 : Int) (h0 : 0 ≤ x0 ∧ x0 < 4294967296 ∧ 0 ≤ x1 ∧ x1 < 4294967296 ∧ 0 ≤ x2 ∧ x2 < 4294967296) {b cap : Nat} {T : TypeId} {fr : Nat × Nat} {w : World} (h : w.heap[b]? = some (.cells #[.int .u32 x0, .int .u32 x1, .int .u32 x2] T fr)) :
    Calls Tryd.prog 42 #[.slice (some ⟨b, 0, none⟩) 3 cap] w fun e w' => e = .returned (.int .u32 (orI [x0, x1, x2])) ∧ w = w' := union_i [x0, x1, x2] (by simp; omega) (by simp) h rfl
theorem union_blk4 (x0 x1 x2 x3 : Int) (h0 : 0 ≤ x0 ∧ x0 < 4294967296 ∧ 0 ≤ x1 ∧ x1 < 4294967296 ∧ 0 ≤ x2 ∧ x2 < 4294967296 ∧ 0 ≤ x3 ∧ x3 < 4294967296) {b cap : Nat} {T : TypeId} {fr : Nat × Nat} {w : World} (h : w.heap[b]? = some (.cells #[.int .u32 x0, .int .u32 x1, .int .u32 x2, .int .u32 x3] T fr)) :
    Calls Tryd.prog 42 #[.slice (some ⟨b, 0, none⟩) 4 cap] w fun e w' => e = .returned (.int .u32 (orI [x0, x1, x2, x3])) ∧ w = w' := union_i [x0, x1, x2, x3] (by simp; omega) (by simp) h rfl
theorem union_blk5 (x0 x1 x2 x3 x4 : Int) (h0 : 0 ≤ x0 ∧ x0 < 4294967296 ∧ 0 ≤ x1 ∧ x1 < 4294967296 ∧ 0 ≤ x2 ∧ x2 < 4294967296 ∧ 0 ≤ x3 ∧ x3 < 4294967296 ∧ 0 ≤ x4 ∧ x4 < 4294967296) {b cap : Nat} {T : TypeId} {fr : Nat × Nat} {w : World} (h : w.heap[b]? = some (.cells #[.int .u32 x0, .int .u32 x1, .int .u32 x2, .int .u32 x3, .int .u32 x4] T fr)) :
    Calls Tryd.prog 42 #[.slice (some ⟨b, 0, none⟩) 5 cap] w fun e w' => e = .returned (.int .u32 (orI [x0, x1, x2, x3, x4])) ∧ w = w' := union_i [x0, x1, x2, x3, x4] (by simp; omega) (by simp) h rfl
theorem union_blk9 (x0 x1 x2 x3 x4 x5 x6 x7 x8 : Int) (h0 : 0 ≤ x0 ∧ x0 < 4294967296 ∧ 0 ≤ x1 ∧ x1 < 4294967296 ∧ 0 ≤ x2 ∧ x2 < 4294967296 ∧ 0 ≤ x3 ∧ x3 < 4294967296 ∧ 0 ≤ x4 ∧ x4 < 4294967296 ∧ 0 ≤ x5 ∧ x5 < 4294967296 ∧ 0 ≤ x6 ∧ x6 < 4294967296 ∧ 0 ≤ x7 ∧ x7 < 4294967296 ∧ 0 ≤ x8 ∧ x8 < 4294967296) {b cap : Nat} {T : TypeId} {fr : Nat × Nat} {w : World} (h : w.heap[b]? = some (.cells #[.int .u32 x0, .int .u32 x1, .int .u32 x2, .int .u32 x3, .int .u32 x4, .int .u32 x5, .int .u32 x6, .int .u32 x7, .int .u32 x8] T fr)) :
    Calls Tryd.prog 42 #[.slice (some ⟨b, 0, none⟩) 9 cap] w fun e w' => e = .returned (.int .u32 (orI [x0, x1, x2, x3, x4, x5, x6, x7, x8])) ∧ w = w' := union_i [x0, x1, x2, x3, x4, x5, x6, x7, x8] (by simp; omega) (by simp) h rfl
set_option maxHeartbeats 800000 in
theorem pass_any (w : World) : Calls Tryd.prog 61 #[] w fun e w' => e = .returned (.int .u32 149) ∧ Ext w w' := by
  go_enter Tryd.func61, Tryd.ntmps61
  go_wp2_with (go_at_call 42; (with_reducible refine (union_blk4 _ _ _ _ (by decide) (heap_new _ _)).mono ?_); rintro e w' ⟨rfl, rfl⟩)
  go_ret
  exact ⟨ret_int (by rw [orI_def]; decide), (Ext.refl w).alloc _⟩
set_option maxHeartbeats 400000 in
theorem tickets_any (w : World) : Calls Tryd.prog 36 #[] w fun e w' => e = .returned (.int .u32 4095) ∧ w = w' := by
  go_enter Tryd.func36, Tryd.ntmps36
  go_wp2
  go_ret
  exact ⟨rfl, rfl⟩
set_option maxHeartbeats 800000 in
theorem options_any (w : World) : Calls Tryd.prog 37 #[] w fun e w' => e = .returned (.int .u32 2031807) ∧ Ext w w' := by
  go_enter Tryd.func37, Tryd.ntmps37
  go_wp2_with (first | (go_at_call 61; (with_reducible refine (pass_any _).mono ?_); rintro e w1 ⟨rfl, hx1⟩) | (go_at_call 42; (with_reducible refine (union_blk9 _ _ _ _ _ _ _ _ _ (by decide) (heap_new _ _)).mono ?_); rintro e w' ⟨rfl, rfl⟩))
  go_ret
  exact ⟨ret_int (by rw [orI_def]; decide), hx1.alloc _⟩
/-- f without the flags of m. -/
def offN (f m : Nat) : Nat := f &&& (4294967295 - m)
theorem offI (f m : Nat) (hf : f < 4294967296) (hm : m < 4294967296) (z : Int) (hz : z = m) : bits .andNot .u32 (f : Int) z = ((offN f m : Nat) : Int) := by subst hz; exact u32_andNot_nat f m hf hm
theorem andI (f m : Nat) (hf : f < 4294967296) (hm : m < 4294967296) (z : Int) (hz : z = m) : bits .and .u32 (f : Int) z = ((f &&& m : Nat) : Int) := by subst hz; exact u32_and_nat f m hf hm
theorem off_ticket (f : Nat) (hf : f < 4294967296) : (offN f 4095 = 0) ↔ f < 4096 := by
  have h : offN f 4095 = f % 4294967296 / 4096 * 4096 := nat_hi32_12 f
  rw [h]; omega
def ticketB (f : Nat) : Bool := decide (f < 4096)
def optB (f : Nat) : Bool := decide (offN f 2031807 = 0)
def namedB (f : Nat) : Bool := decide (offN f 2035711 = 0)
def hasB (f g : Nat) : Bool := decide (f &&& g = g)
theorem ticketB_def (f : Nat) : ticketB f = decide (f < 4096) := rfl
theorem optB_def (f : Nat) : optB f = decide (offN f 2031807 = 0) := rfl
theorem namedB_def (f : Nat) : namedB f = decide (offN f 2035711 = 0) := rfl
theorem hasB_def (f g : Nat) : hasB f g = decide (f &&& g = g) := rfl
attribute [irreducible] ticketB optB namedB hasB
theorem beq_zero (n : Nat) : (((n : Nat) : Int) == 0) = decide (n = 0) := by rw [Bool.eq_iff_iff]; simp
theorem beq_nat (n m : Nat) : (((n : Nat) : Int) == ((m : Nat) : Int)) = decide (n = m) := by rw [Bool.eq_iff_iff]; simp; omega
set_option maxHeartbeats 800000 in
theorem ticket_any (f : Nat) (hf : f < 4294967296) (w : World) : Calls Tryd.prog 11 #[.int .u32 (f : Int)] w fun e w' => e = .returned (.bool (ticketB f)) ∧ w = w' := by
  have HT : Hid (ticketB f = decide (offN f 4095 = 0)) := by rw [ticketB_def]; exact decide_eq_decide.2 (off_ticket f hf).symm
  have ha := offI f 4095 hf (by decide) 4095 rfl
  have hb := beq_zero (offN f 4095)
  generalize offN f 4095 = x at *
  go_enter Tryd.func11, Tryd.ntmps11
  go_wp2_with (first | (go_at_call 36; (with_reducible refine (tickets_any _).mono ?_); rintro e w' ⟨rfl, rfl⟩))
  go_ret
  exact ⟨ret_bool (by rw [HT.out]), rfl⟩
set_option maxHeartbeats 800000 in
theorem optionsOk_any (f : Nat) (hf : f < 4294967296) (w : World) : Calls Tryd.prog 13 #[.int .u32 (f : Int)] w fun e w' => e = .returned (.bool (optB f)) ∧ Ext w w' := by
  have HT := Lib.hid (optB_def f)
  have ha := offI f 2031807 hf (by decide) 2031807 rfl
  have hb := beq_zero (offN f 2031807)
  generalize offN f 2031807 = x at *
  go_enter Tryd.func13, Tryd.ntmps13
  go_wp2_with (first | (go_at_call 37; (with_reducible refine (options_any _).mono ?_); rintro e w1 ⟨rfl, hx⟩))
  go_ret
  exact ⟨ret_bool (by rw [HT.out]), hx⟩
set_option maxHeartbeats 800000 in
theorem named_any (f : Nat) (hf : f < 4294967296) (w : World) : Calls Tryd.prog 39 #[.int .u32 (f : Int)] w fun e w' => e = .returned (.bool (namedB f)) ∧ Ext w w' := by
  have HT := Lib.hid (namedB_def f)
  have ha := offI f 2035711 hf (by decide) 2035711 rfl
  have hb := beq_zero (offN f 2035711)
  have ho : orI [4095, 2031807] = 2035711 := by rw [orI_def]; decide
  generalize offN f 2035711 = x at *
  go_enter Tryd.func39, Tryd.ntmps39
  go_wp2_with (first | (go_at_call 36; (with_reducible refine (tickets_any _).mono ?_); rintro e w' ⟨rfl, rfl⟩) | (go_at_call 37; (with_reducible refine (options_any _).mono ?_); rintro e w1 ⟨rfl, hx⟩) | (go_at_call 42; (with_reducible refine (union_blk2 _ _ (by decide) (heap_new _ _)).mono ?_); rintro e w' ⟨rfl, rfl⟩; rw [ho]))
  go_ret
  exact ⟨ret_bool (by rw [HT.out]), hx.alloc _⟩
set_option maxHeartbeats 800000 in
theorem has_any (f g : Nat) (hf : f < 4294967296) (hg : g < 4294967296) (z : Int) (hz : z = g) (w : World) : Calls Tryd.prog 15 #[.int .u32 (f : Int), .int .u32 z] w fun e w' => e = .returned (.bool (hasB f g)) ∧ w = w' := by
  subst hz
  have HT := Lib.hid (hasB_def f g)
  have ha := u32_and_nat f g hf hg
  have hb := beq_nat (f &&& g) g
  generalize f &&& g = x at *
  go_enter Tryd.func15, Tryd.ntmps15
  go_wp2
  go_ret
  exact ⟨ret_bool (by rw [HT.out]), rfl⟩
end Go.Proofs.YtbgiciijiopklaaDoor
