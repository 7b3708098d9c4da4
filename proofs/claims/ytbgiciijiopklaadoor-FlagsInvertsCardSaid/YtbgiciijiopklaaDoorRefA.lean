/- Contracts of the reference of flags: Has, Name, Of, Named, Ticket, Options. -/
import Derived.Test.YtbgiciijiopklaaDoorFlagI
import Derived.Test.YtbgiciijiopklaaDoorPlainA
namespace Go.Proofs.YtbgiciijiopklaaDoor
open Go.RowKit Go.Shelf
theorem bit_int (f i : Nat) : (((f : Int) / 2 ^ i).tmod 2 == 1) = f.testBit i := by
  rw [Nat.testBit_eq_decide_div_mod_eq, Bool.eq_iff_iff, decide_eq_true_eq, beq_iff_eq]
  have e : ((f : Int) / 2 ^ i) = ((f / 2 ^ i : Nat) : Int) := by simp
  rw [e, Int.tmod_eq_emod_of_nonneg (Int.natCast_nonneg _)]
  generalize f / 2 ^ i = y
  omega
set_option maxHeartbeats 800000 in
theorem rHas_any (f i : Nat) (hi : i < 32) (z : Int) (hz : z = i) (w : World) : Calls Tryd.prog 23 #[.int .u32 (f : Int), .int .i64 z] w fun e w' => e = .returned (.bool (f.testBit i)) ∧ w = w' := by
  subst hz
  go_enter Tryd.func23, Tryd.ntmps23
  go_wp2
  go_ret
  exact ⟨ret_bool (bit_int f i), rfl⟩
/-- Has at a bit that is known. -/
theorem rHas_has (f i m : Nat) (hi : i < 32) (hm : m = 2 ^ i) (z : Int) (hz : z = i) (w : World) : Calls Tryd.prog 23 #[.int .u32 (f : Int), .int .i64 z] w fun e w' => e = .returned (.bool (hasB f m)) ∧ w = w' := by
  subst hm
  rw [has_bit]
  exact rHas_any f i hi z hz w
def rNames : List ByteArray := (List.range 21).map nameOf
theorem nameOf_big (i : Nat) (hi : 21 ≤ i) (h : i < 32) : nameOf i = ⟨#[]⟩ := by
  have : ∀ i, i < 32 → 21 ≤ i → nameOf i = ⟨#[]⟩ := by decide +kernel
  exact this i h hi
theorem rNames_lit : rNames.map Value.string = [.string ⟨#[102, 111, 114, 119, 97, 114, 100, 97, 98, 108, 101]⟩, .string ⟨#[102, 111, 114, 119, 97, 114, 100, 101, 100]⟩, .string ⟨#[112, 114, 111, 120, 105, 97, 98, 108, 101]⟩, .string ⟨#[112, 114, 111, 120, 121]⟩, .string ⟨#[109, 97, 121, 45, 112, 111, 115, 116, 100, 97, 116, 101]⟩, .string ⟨#[112, 111, 115, 116, 100, 97, 116, 101, 100]⟩, .string ⟨#[105, 110, 118, 97, 108, 105, 100]⟩, .string ⟨#[114, 101, 110, 101, 119, 97, 98, 108, 101]⟩, .string ⟨#[105, 110, 105, 116, 105, 97, 108]⟩, .string ⟨#[112, 114, 101, 45, 97, 117, 116, 104]⟩, .string ⟨#[116, 114, 97, 110, 115, 105, 116, 101, 100]⟩, .string ⟨#[100, 101, 108, 101, 103, 97, 116, 101]⟩, .string ⟨#[]⟩, .string ⟨#[]⟩, .string ⟨#[]⟩, .string ⟨#[]⟩, .string ⟨#[114, 101, 110, 101, 119]⟩, .string ⟨#[118, 97, 108, 105, 100, 97, 116, 101]⟩, .string ⟨#[99, 97, 110, 111, 110, 105, 99, 97, 108]⟩, .string ⟨#[99, 111, 110, 115, 116, 114, 97, 105, 110, 101, 100]⟩, .string ⟨#[114, 101, 110, 101, 119, 97, 98, 108, 101, 45, 111, 107]⟩] := by kernel_rfl
theorem rNames_at (i : Nat) (h : i < 21) (h' : i < ([.string ⟨#[102, 111, 114, 119, 97, 114, 100, 97, 98, 108, 101]⟩, .string ⟨#[102, 111, 114, 119, 97, 114, 100, 101, 100]⟩, .string ⟨#[112, 114, 111, 120, 105, 97, 98, 108, 101]⟩, .string ⟨#[112, 114, 111, 120, 121]⟩, .string ⟨#[109, 97, 121, 45, 112, 111, 115, 116, 100, 97, 116, 101]⟩, .string ⟨#[112, 111, 115, 116, 100, 97, 116, 101, 100]⟩, .string ⟨#[105, 110, 118, 97, 108, 105, 100]⟩, .string ⟨#[114, 101, 110, 101, 119, 97, 98, 108, 101]⟩, .string ⟨#[105, 110, 105, 116, 105, 97, 108]⟩, .string ⟨#[112, 114, 101, 45, 97, 117, 116, 104]⟩, .string ⟨#[116, 114, 97, 110, 115, 105, 116, 101, 100]⟩, .string ⟨#[100, 101, 108, 101, 103, 97, 116, 101]⟩, .string ⟨#[]⟩, .string ⟨#[]⟩, .string ⟨#[]⟩, .string ⟨#[]⟩, .string ⟨#[114, 101, 110, 101, 119]⟩, .string ⟨#[118, 97, 108, 105, 100, 97, 116, 101]⟩, .string ⟨#[99, 97, 110, 111, 110, 105, 99, 97, 108]⟩, .string ⟨#[99, 111, 110, 115, 116, 114, 97, 105, 110, 101, 100]⟩, .string ⟨#[114, 101, 110, 101, 119, 97, 98, 108, 101, 45, 111, 107]⟩] : List Value).length) : ([.string ⟨#[102, 111, 114, 119, 97, 114, 100, 97, 98, 108, 101]⟩, .string ⟨#[102, 111, 114, 119, 97, 114, 100, 101, 100]⟩, .string ⟨#[112, 114, 111, 120, 105, 97, 98, 108, 101]⟩, .string ⟨#[112, 114, 111, 120, 121]⟩, .string ⟨#[109, 97, 121, 45, 112, 111, 115, 116, 100, 97, 116, 101]⟩, .string ⟨#[112, 111, 115, 116, 100, 97, 116, 101, 100]⟩, .string ⟨#[105, 110, 118, 97, 108, 105, 100]⟩, .string ⟨#[114, 101, 110, 101, 119, 97, 98, 108, 101]⟩, .string ⟨#[105, 110, 105, 116, 105, 97, 108]⟩, .string ⟨#[112, 114, 101, 45, 97, 117, 116, 104]⟩, .string ⟨#[116, 114, 97, 110, 115, 105, 116, 101, 100]⟩, .string ⟨#[100, 101, 108, 101, 103, 97, 116, 101]⟩, .string ⟨#[]⟩, .string ⟨#[]⟩, .string ⟨#[]⟩, .string ⟨#[]⟩, .string ⟨#[114, 101, 110, 101, 119]⟩, .string ⟨#[118, 97, 108, 105, 100, 97, 116, 101]⟩, .string ⟨#[99, 97, 110, 111, 110, 105, 99, 97, 108]⟩, .string ⟨#[99, 111, 110, 115, 116, 114, 97, 105, 110, 101, 100]⟩, .string ⟨#[114, 101, 110, 101, 119, 97, 98, 108, 101, 45, 111, 107]⟩] : List Value)[i]'h' = .string (nameOf i) := by
  have e : (rNames.map Value.string)[i]? = some (.string (nameOf i)) := by simp [rNames, h]
  rw [rNames_lit, List.getElem?_eq_getElem h'] at e
  exact Option.some.inj e
set_option maxRecDepth 4000 in
set_option maxHeartbeats 1600000 in
theorem rName_any (i : Nat) (hi : i < 32) (w : World) : Calls Tryd.prog 24 #[.int .i64 (i : Int)] w fun e w' => e = .returned (.string (nameOf i)) ∧ Ext w w' := by
  by_cases h21 : i < 21
  · go_enter Tryd.func24, Tryd.ntmps24
    go_wp2
    go_ret
    exact ⟨congrArg Ending.returned (rNames_at i h21 _), (Ext.refl w).alloc _⟩
  · have hb := nameOf_big i (by omega) hi
    have HB := Lib.hid hb
    clear hb
    go_enter Tryd.func24, Tryd.ntmps24
    go_wp2
    go_ret
    exact ⟨by rw [HB.out]; rfl, (Ext.refl w).alloc _⟩
def ofN (xs : List Nat) : Nat := orL (xs.map (2 ^ ·))
theorem ofN_snoc (l : List Nat) (x : Nat) : ofN (l ++ [x]) = ofN l ||| 2 ^ x := by simp [ofN, orL]
theorem two32 {i : Nat} (h : i < 32) : 2 ^ i < 4294967296 := by have := Nat.pow_lt_pow_right (a := 2) (by decide) h; rwa [show (2 : Nat) ^ 32 = 4294967296 by decide] at this
theorem ofN_lt {l : List Nat} (h : ∀ x ∈ l, x < 32) : ofN l < 4294967296 := by
  refine orL_lt (fun x hx => ?_)
  rw [List.mem_map] at hx
  obtain ⟨y, hy, rfl⟩ := hx
  exact two32 (h y hy)
set_option maxHeartbeats 800000 in
theorem rOf_any (b : Nat) (cap len : Nat) (xs : List Nat) (w : World) (hlen : len = xs.length) (hbig : len ≤ 1000) (hx : ∀ x ∈ xs, x < 32) (hc : ∀ j, j < xs.length → w.cell? ⟨b, j, none⟩ = some (.int .i64 (xs.getD j 0 : Nat))) :
    Calls Tryd.prog 52 #[.slice (some ⟨b, 0, none⟩) len cap] w fun e w' => e = .returned (.int .u32 (ofN xs : Nat)) ∧ w = w' := by
  subst hlen
  have HX := Lib.hid hx
  have HC := Lib.hid hc
  clear hx hc
  go_enter Tryd.func52, Tryd.ntmps52
  go_wp2
  go_loop [3, 4] (fun v i => ∃ k : Nat, k ≤ xs.length ∧ i = .int .i64 k ∧ v = .int .u32 (ofN (xs.take k) : Nat)) (fun _ i => xs.length - (intOf i).toNat)
  case atStart => exact ⟨0, Nat.zero_le _, rfl, rfl⟩
  case round =>
    obtain ⟨k, hk, rfl, rfl⟩ := hrel
    by_cases hlt : k < xs.length
    · have hcell := HC.out k hlt
      have hb := HX.out xs[k] (List.getElem_mem hlt)
      have hg : xs.getD k 0 = xs[k] := by simp [hlt]
      rw [hg] at hcell
      have ha : ofN (xs.take k) < 4294967296 := ofN_lt (fun x hx => HX.out x (List.mem_of_mem_take hx))
      have HS : Hid (ofN (xs.take (k + 1)) = ofN (xs.take k) ||| 2 ^ xs[k]) := by rw [List.take_succ_eq_append_getElem hlt, ofN_snoc]; exact rfl
      generalize ofN (xs.take k) = a at *
      generalize xs[k] = x at *
      have hp := two32 hb
      have hor := u32_or_nat a (2 ^ x) ha hp
      have hcast : ((2 ^ x : Nat) : Int) = (2 : Int) ^ x := by simp
      have hmod : ((2 ^ x : Nat) : Int) % 4294967296 = ((2 ^ x : Nat) : Int) := by generalize 2 ^ x = y at hp; omega
      rw [hcast] at hor hmod
      clear hg hcast
      go_wp2
      go_round
      case rel => exact ⟨k + 1, by omega, by go_num, by rw [HS.out]⟩
      case measure => simp [intOf]; omega
    · obtain rfl : k = xs.length := by omega
      go_wp2
      go_ret
      exact ⟨by simp, rfl⟩
def ofI (zs : List Int) : Int := (ofN (zs.map Int.toNat) : Nat)
theorem ofI_def (zs : List Int) : ofI zs = (ofN (zs.map Int.toNat) : Nat) := rfl
theorem rOf_i (zs : List Int) (hz : ∀ z ∈ zs, 0 ≤ z ∧ z < 32) (hbig : zs.length ≤ 1000) {b cap len : Nat} {T : TypeId} {fr : Nat × Nat} {w : World} (h : w.heap[b]? = some (.cells (zs.map (Value.int .i64)).toArray T fr)) (hlen : len = zs.length) :
    Calls Tryd.prog 52 #[.slice (some ⟨b, 0, none⟩) len cap] w fun e w' => e = .returned (.int .u32 (ofI zs)) ∧ w = w' := by
  refine rOf_any b cap len (zs.map Int.toNat) w (by simpa using hlen) (by omega) ?_ ?_
  · intro x hx
    obtain ⟨z, hz', rfl⟩ := List.mem_map.1 hx
    have := hz z hz'
    omega
  · intro j hj
    have hj' : j < zs.length := by simpa using hj
    have h0 := hz zs[j] (List.getElem_mem hj')
    simp [World.cell?, h, hj']
    omega
attribute [irreducible] ofI
theorem rOf1 (x0 : Int) (h0 : 0 ≤ x0 ∧ x0 < 32) {b cap : Nat} {T : TypeId} {fr : Nat × Nat} {w : World} (h : w.heap[b]? = some (.cells #[.int .i64 x0] T fr)) :
    Calls Tryd.prog 52 #[.slice (some ⟨b, 0, none⟩) 1 cap] w fun e w' => e = .returned (.int .u32 (ofI [x0])) ∧ w = w' := rOf_i [x0] (by simp; omega) (by simp) h rfl
theorem rOf2 (x0 x1 : Int) (h0 : 0 ≤ x0 ∧ x0 < 32 ∧ 0 ≤ x1 ∧ x1 < 32) {b cap : Nat} {T : TypeId} {fr : Nat × Nat} {w : World} (h : w.heap[b]? = some (.cells #[.int .i64 x0, .int .i64 x1] T fr)) :
    Calls Tryd.prog 52 #[.slice (some ⟨b, 0, none⟩) 2 cap] w fun e w' => e = .returned (.int .u32 (ofI [x0, x1])) ∧ w = w' := rOf_i [x0, x1] (by simp; omega) (by simp) h rfl
theorem rOf4 (x0 x1 x2 x3 : Int) (h0 : 0 ≤ x0 ∧ x0 < 32 ∧ 0 ≤ x1 ∧ x1 < 32 ∧ 0 ≤ x2 ∧ x2 < 32 ∧ 0 ≤ x3 ∧ x3 < 32) {b cap : Nat} {T : TypeId} {fr : Nat × Nat} {w : World} (h : w.heap[b]? = some (.cells #[.int .i64 x0, .int .i64 x1, .int .i64 x2, .int .i64 x3] T fr)) :
    Calls Tryd.prog 52 #[.slice (some ⟨b, 0, none⟩) 4 cap] w fun e w' => e = .returned (.int .u32 (ofI [x0, x1, x2, x3])) ∧ w = w' := rOf_i [x0, x1, x2, x3] (by simp; omega) (by simp) h rfl
theorem rOf5 (x0 x1 x2 x3 x4 : Int) (h0 : 0 ≤ x0 ∧ x0 < 32 ∧ 0 ≤ x1 ∧ x1 < 32 ∧ 0 ≤ x2 ∧ x2 < 32 ∧ 0 ≤ x3 ∧ x3 < 32 ∧ 0 ≤ x4 ∧ x4 < 32) {b cap : Nat} {T : TypeId} {fr : Nat × Nat} {w : World} (h : w.heap[b]? = some (.cells #[.int .i64 x0, .int .i64 x1, .int .i64 x2, .int .i64 x3, .int .i64 x4] T fr)) :
    Calls Tryd.prog 52 #[.slice (some ⟨b, 0, none⟩) 5 cap] w fun e w' => e = .returned (.int .u32 (ofI [x0, x1, x2, x3, x4])) ∧ w = w' := rOf_i [x0, x1, x2, x3, x4] (by simp; omega) (by simp) h rfl
/-- All bits below k that f has are as p says. -/
def BitsTo (p : Nat → Bool) (f k : Nat) : Prop := ∀ i, i < k → f.testBit i = true → p i = true
theorem BitsTo.zero (p : Nat → Bool) (f : Nat) : Hid (BitsTo p f 0) := fun i h => by omega
theorem BitsTo.succ {p : Nat → Bool} {f k : Nat} (h : Hid (BitsTo p f k)) (hk : f.testBit k = true → p k = true) : Hid (BitsTo p f (k + 1)) := fun i hi hb => by
  by_cases e : i = k
  · subst e; exact hk hb
  · exact h.out i (by omega) hb
theorem nameOf_nil (i : Nat) (hi : i < 32) : ((nameOf i).toList == []) = !hasName i := by
  rw [ByteArray.toList_eq]
  have : ∀ i, i < 32 → ((nameOf i).data.toList == []) = !hasName i := by decide +kernel
  exact this i hi
theorem bytes_nil : ByteArray.toList ⟨#[]⟩ = [] := by rw [ByteArray.toList_eq]
set_option maxHeartbeats 1600000 in
theorem rNamed_any (f : Nat) (hf : f < 4294967296) (w : World) : Calls Tryd.prog 18 #[.int .u32 (f : Int)] w fun e w' => e = .returned (.bool (namedB f)) ∧ Ext w w' := by
  have HN := Lib.hid (named_bits f hf)
  go_enter Tryd.func18, Tryd.ntmps18
  go_wp2
  go_loopw [3] (fun i wr => ∃ k : Nat, k ≤ 32 ∧ i = .int .i64 k ∧ Hid (BitsTo hasName f k) ∧ Ext w wr) (fun i _ => 32 - (intOf i).toNat)
  case atStart => exact ⟨0, by omega, rfl, BitsTo.zero _ _, Ext.refl _⟩
  case round =>
    obtain ⟨k, hk, rfl, HT, hx⟩ := hrel
    by_cases hlt : k < 32
    · cases hb : f.testBit k
      · have HB := Lib.hid hb
        clear hb
        go_wp2_with (first | (go_at_call 23; (with_reducible refine (rHas_any f k hlt _ rfl _).mono ?_); rintro e w' ⟨rfl, rfl⟩; rw [HB.out]))
        go_roundw
        case rel => exact ⟨k + 1, by omega, by go_num, BitsTo.succ HT (fun h => by rw [HB.out] at h; cases h), hx⟩
        case measure => simp [intOf]; omega
      · have HB := Lib.hid hb
        have hnil := nameOf_nil k hlt
        clear hb
        cases hh : hasName k
        · rw [hh] at hnil
          have HH := Lib.hid hh
          clear hh
          go_wp2_with (first | (go_at_call 23; (with_reducible refine (rHas_any f k hlt _ rfl _).mono ?_); rintro e w' ⟨rfl, rfl⟩; rw [HB.out]) | (go_at_call 24; (with_reducible refine (rName_any k hlt _).mono ?_); rintro e w1 ⟨rfl, hx1⟩))
          go_ret
          refine ⟨ret_bool ?_, hx.trans hx1⟩
          cases hn : namedB f
          · rfl
          · have := HN.out.1 hn k hlt HB.out
            rw [HH.out] at this; cases this
        · rw [hh] at hnil
          have HH := Lib.hid hh
          clear hh
          go_wp2_with (first | (go_at_call 23; (with_reducible refine (rHas_any f k hlt _ rfl _).mono ?_); rintro e w' ⟨rfl, rfl⟩; rw [HB.out]) | (go_at_call 24; (with_reducible refine (rName_any k hlt _).mono ?_); rintro e w1 ⟨rfl, hx1⟩))
          go_roundw
          case rel => exact ⟨k + 1, by omega, by go_num, BitsTo.succ HT (fun _ => HH.out), hx.trans hx1⟩
          case measure => simp [intOf]; omega
    · have hk' : k = 32 := by omega
      have HK := Lib.hid hk'
      clear hk'
      go_wp2
      go_ret
      refine ⟨ret_bool ?_, hx⟩
      have := HT.out
      rw [HK.out] at this
      exact (HN.out.2 this).symm
set_option maxHeartbeats 800000 in
theorem rTicket_any (f : Nat) (w : World) : Calls Tryd.prog 12 #[.int .u32 (f : Int)] w fun e w' => e = .returned (.bool (ticketB f)) ∧ w = w' := by
  have h : decide ((f : Int) < 4096) = ticketB f := by rw [ticketB_def]; simp; omega
  have H := Lib.hid h
  clear h
  go_enter Tryd.func12, Tryd.ntmps12
  go_wp2
  go_ret
  exact ⟨ret_bool H.out, rfl⟩
def optBit (i : Nat) : Bool := decide (i ≤ 5) || decide (i = 7) || (decide (16 ≤ i) && decide (i ≤ 20))
theorem optBit_def (i : Nat) : optBit i = (decide (i ≤ 5) || decide (i = 7) || (decide (16 ≤ i) && decide (i ≤ 20))) := rfl
theorem opt_bits' (f : Nat) (hf : f < 4294967296) : optB f = true ↔ ∀ i, i < 32 → f.testBit i = true → optBit i = true := opt_bits f hf
attribute [irreducible] optBit
set_option maxHeartbeats 1600000 in
theorem rOptions_any (f : Nat) (hf : f < 4294967296) (w : World) : Calls Tryd.prog 14 #[.int .u32 (f : Int)] w fun e w' => e = .returned (.bool (optB f)) ∧ w = w' := by
  have HN := Lib.hid (opt_bits' f hf)
  go_enter Tryd.func14, Tryd.ntmps14
  go_wp2
  go_loop [3] (fun i => ∃ k : Nat, k ≤ 32 ∧ i = .int .i64 k ∧ Hid (BitsTo optBit f k)) (fun i => 32 - (intOf i).toNat)
  case atStart => exact ⟨0, by omega, rfl, BitsTo.zero _ _⟩
  case round =>
    obtain ⟨k, hk, rfl, HT⟩ := hrel
    by_cases hlt : k < 32
    · cases hb : f.testBit k
      · have HB := Lib.hid hb
        clear hb
        go_wp2_with (first | (go_at_call 23; (with_reducible refine (rHas_any f k hlt _ rfl _).mono ?_); rintro e w' ⟨rfl, rfl⟩; rw [HB.out]))
        go_round
        case rel => exact ⟨k + 1, by omega, by go_num, BitsTo.succ HT (fun h => by rw [HB.out] at h; cases h)⟩
        case measure => simp [intOf]; omega
      · have HB := Lib.hid hb
        clear hb
        by_cases h5 : k ≤ 5
        · have d5 : decide ((k : Int) ≤ 5) = true := by simp; omega
          go_wp2_with (first | (go_at_call 23; (with_reducible refine (rHas_any f k hlt _ rfl _).mono ?_); rintro e w' ⟨rfl, rfl⟩; rw [HB.out]))
          go_round
          case rel => exact ⟨k + 1, by omega, by go_num, BitsTo.succ HT (fun _ => by rw [optBit_def]; simp [h5])⟩
          case measure => simp [intOf]; omega
        · have d5 : decide ((k : Int) ≤ 5) = false := by simp; omega
          by_cases h7 : k = 7
          · have g7 : (((k : Nat) : Int) == 7) = true := by simp; omega
            have HO : Hid (optBit k = true) := by rw [optBit_def, h7]; exact rfl
            clear h7
            go_wp2_with (first | (go_at_call 23; (with_reducible refine (rHas_any f k hlt _ rfl _).mono ?_); rintro e w' ⟨rfl, rfl⟩; rw [HB.out]))
            go_round
            case rel => exact ⟨k + 1, by omega, by go_num, BitsTo.succ HT (fun _ => HO.out)⟩
            case measure => simp [intOf]; omega
          · have g7 : (((k : Nat) : Int) == 7) = false := by simp; omega
            by_cases h16 : 16 ≤ k
            · have d16 : decide ((16 : Int) ≤ (k : Int)) = true := by simp; omega
              by_cases h20 : k ≤ 20
              · have d20 : decide ((k : Int) ≤ 20) = true := by simp; omega
                go_wp2_with (first | (go_at_call 23; (with_reducible refine (rHas_any f k hlt _ rfl _).mono ?_); rintro e w' ⟨rfl, rfl⟩; rw [HB.out]))
                go_round
                case rel => exact ⟨k + 1, by omega, by go_num, BitsTo.succ HT (fun _ => by rw [optBit_def]; simp [h16, h20])⟩
                case measure => simp [intOf]; omega
              · have d20 : decide ((k : Int) ≤ 20) = false := by simp; omega
                have HO := Lib.hid (show optBit k = false by rw [optBit_def]; simp [h5, h7, h16, h20])
                go_wp2_with (first | (go_at_call 23; (with_reducible refine (rHas_any f k hlt _ rfl _).mono ?_); rintro e w' ⟨rfl, rfl⟩; rw [HB.out]))
                go_ret
                refine ⟨ret_bool ?_, rfl⟩
                cases hn : optB f
                · rfl
                · have := HN.out.1 hn k hlt HB.out
                  rw [HO.out] at this; cases this
            · have d16 : decide ((16 : Int) ≤ (k : Int)) = false := by simp; omega
              have HO := Lib.hid (show optBit k = false by rw [optBit_def]; simp [h5, h7, h16])
              go_wp2_with (first | (go_at_call 23; (with_reducible refine (rHas_any f k hlt _ rfl _).mono ?_); rintro e w' ⟨rfl, rfl⟩; rw [HB.out]))
              go_ret
              refine ⟨ret_bool ?_, rfl⟩
              cases hn : optB f
              · rfl
              · have := HN.out.1 hn k hlt HB.out
                rw [HO.out] at this; cases this
    · have hk' : k = 32 := by omega
      have HK := Lib.hid hk'
      clear hk'
      go_wp2
      go_ret
      refine ⟨ret_bool ?_, rfl⟩
      have := HT.out
      rw [HK.out] at this
      exact (HN.out.2 this).symm
end Go.Proofs.YtbgiciijiopklaaDoor
