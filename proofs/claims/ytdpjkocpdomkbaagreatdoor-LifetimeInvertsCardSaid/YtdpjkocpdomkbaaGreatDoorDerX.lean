/- Contracts of der's elements: Time, wrapped, Tagged, Sequence. -/
import Derived.Test.YtdpjkocpdomkbaaGreatDoorDerW
namespace Go.Proofs.YtdpjkocpdomkbaaGreatDoor
open Go.RowKit
/-- The encoding of a time. -/
def timeB (t : Int) : List UInt8 := elB 24 (numB t 6)
set_option maxHeartbeats 1600000 in
theorem dtime_any (t : Int) (h0 : 0 ≤ t) (h1 : t ≤ 1099511627776) (w : World) : Calls Tryz.prog 23 #[.int .i64 t] w (Bytes (timeB t) w) := by
  have d1 : decide (t < 0) = false := by simp; omega
  have d2 : decide ((1099511627776 : Int) < t) = false := by simp; omega
  go_enter Tryz.func23, Tryz.ntmps23
  go_wp2_with fail
  (go_at_call 48; (with_reducible refine (number_any t 6 (by decide) (by decide) 6 rfl _).mono ?_); rintro e w2 ⟨rfl, hbN, hx2⟩)
  have HB := Lib.hid hbN
  clear hbN
  go_wp2_with fail
  have e1 := (Ext.refl w2).alloc (.cells #[.slice (some ⟨w.heap.size, 0, none⟩) 6 6] 28)
  have kk := heap_new w2 (.cells #[.slice (some ⟨w.heap.size, 0, none⟩) 6 6] 28)
  have hp0 : PartOk (w2.alloc (.cells #[.slice (some ⟨w.heap.size, 0, none⟩) 6 6] 28)) ⟨some ⟨w.heap.size, 0, none⟩, 6, numB t 6⟩ := ⟨(HB.out.ext e1).weak, fun h => by cases h⟩
  (go_at_call 47; refine (element_any 24 (by decide) [⟨some ⟨w.heap.size, 0, none⟩, 6, numB t 6⟩] w2.heap.size 1 1 _ rfl ?pa ?pb ?pc (by decide) 24 rfl).mono ?_)
  case pa =>
    intro j hj
    have hj2 : j < 1 := hj
    obtain rfl : j = 0 := by omega
    rw [cell_heap kk 0]; simp [numB_len]
  case pb =>
    intro p hp
    simp only [List.mem_cons, List.not_mem_nil, or_false] at hp
    subst hp
    exact hp0
  case pc => simp [flatP, numB_len]
  rintro e w' ⟨A', c', rfl, hb, hc, hnil, hx'⟩
  clear kk hp0
  go_wp2
  go_ret
  have hfl : flatP [⟨some ⟨w.heap.size, 0, none⟩, 6, numB t 6⟩] = numB t 6 := by simp [flatP]
  rw [hfl] at hb hc ⊢
  exact ⟨A', c', rfl, hb, hc, hnil, (hx2.trans e1).trans hx'⟩
set_option maxHeartbeats 1600000 in
theorem wrapped_any (tag n : Nat) (hn : n ≤ 30) (ht : tag ≤ 200) (z : Int) (hz : z = tag) (A : Option Addr) (bs : List UInt8) (len c : Nat) (w : World) (hlen : len = bs.length) (hne : bs ≠ []) (hP : PartOk w ⟨A, c, bs⟩) (hbig : bs.length ≤ 16777215) :
    Calls Tryz.prog 49 #[.int .i64 z, .int .i64 (n : Int), .slice A len c] w (Bytes (elB (tag + n) bs) w) := by
  subst hz
  have hpos : 0 < bs.length := List.length_pos_iff.2 hne
  subst hlen
  have d1 : decide ((30 : Int) < (n : Int)) = false := by simp; omega
  have d2 : ((bs.length : Int) == 0) = false := by simp; omega
  have d3 : (bs.length == 0) = false := by simp; omega
  have HP := Lib.hid hP
  clear hP
  go_enter Tryz.func49, Tryz.ntmps49
  go_wp2_with fail
  have e1 := (Ext.refl w).alloc (.cells #[.slice A bs.length c] 28)
  have kk := heap_new w (.cells #[.slice A bs.length c] 28)
  (go_at_call 47; refine (element_any (tag + n) (by omega) [⟨A, c, bs⟩] w.heap.size 1 1 _ rfl ?pa ?pb ?pc (by decide) _ (by omega)).mono ?_)
  case pa =>
    intro j hj
    have hj2 : j < 1 := hj
    obtain rfl : j = 0 := by omega
    rw [cell_heap kk 0]; simp
  case pb =>
    intro p hp
    simp only [List.mem_cons, List.not_mem_nil, or_false] at hp
    subst hp
    exact HP.out.ext e1
  case pc => simpa [flatP] using hbig
  rintro e w' ⟨A', c', rfl, hb, hc, hnil, hx'⟩
  clear kk
  go_wp2
  go_ret
  have hfl : flatP [⟨A, c, bs⟩] = bs := by simp [flatP]
  rw [hfl] at hb hc ⊢
  exact ⟨A', c', rfl, hb, hc, hnil, e1.trans hx'⟩
set_option maxHeartbeats 1600000 in
theorem wrapped_none (tag : Int) (n : Nat) (hn : n ≤ 30) (w : World) : Calls Tryz.prog 49 #[.int .i64 tag, .int .i64 (n : Int), .slice none 0 0] w fun e w' => e = .returned (.slice none 0 0) ∧ w = w' := by
  have d1 : decide ((30 : Int) < (n : Int)) = false := by simp; omega
  go_enter Tryz.func49, Tryz.ntmps49
  go_wp2
  go_ret
  exact ⟨rfl, rfl⟩
set_option maxRecDepth 8000 in
set_option maxHeartbeats 1600000 in
theorem dtagged_any (n : Nat) (hn : n ≤ 30) (z : Int) (hz : z = n) (A : Option Addr) (bs : List UInt8) (len c : Nat) (w : World) (hlen : len = bs.length) (hne : bs ≠ []) (hP : PartOk w ⟨A, c, bs⟩) (hbig : bs.length ≤ 16777215) :
    Calls Tryz.prog 25 #[.int .i64 z, .slice A len c] w (Bytes (elB (160 + n) bs) w) := by
  subst hz
  have HP := Lib.hid hP
  have HN := Lib.hid hne
  have HL := Lib.hid hlen
  clear hP hne hlen
  go_enter Tryz.func25, Tryz.ntmps25
  go_wp2_with fail
  (go_at_call 49; (with_reducible refine (wrapped_any 160 n hn (by decide) 160 rfl A bs len c w HL.out HN.out HP.out hbig).mono ?_))
  rintro e w' ⟨A', c', rfl, hb, hc, hnil, hx'⟩
  go_wp2
  go_ret
  exact ⟨A', c', rfl, hb, hc, hnil, hx'⟩
set_option maxRecDepth 8000 in
set_option maxHeartbeats 1600000 in
theorem dtagged_none (n : Nat) (hn : n ≤ 30) (z : Int) (hz : z = n) (w : World) : Calls Tryz.prog 25 #[.int .i64 z, .slice none 0 0] w fun e w' => e = .returned (.slice none 0 0) ∧ w = w' := by
  subst hz
  go_enter Tryz.func25, Tryz.ntmps25
  go_wp2_with (go_at_call 49; (with_reducible refine (wrapped_none 160 n hn _).mono ?_); rintro e w' ⟨rfl, rfl⟩)
  go_ret
  exact ⟨rfl, rfl⟩
set_option maxHeartbeats 1600000 in
theorem dseq_any (ps : List Part) (b cap len : Nat) (w : World) (hlen : len = ps.length) (hc : PartsAt w b ps) (hok : ∀ p ∈ ps, PartOk w p) (hbig : (flatP ps).length ≤ 16777215) (hps : len ≤ 1099511627776) :
    Calls Tryz.prog 24 #[.slice (some ⟨b, 0, none⟩) len cap] w (Bytes (elB 48 (flatP ps)) w) := by
  have HC := Lib.hid hc
  have HO := Lib.hid hok
  have HL := Lib.hid hlen
  clear hc hok hlen
  go_enter Tryz.func24, Tryz.ntmps24
  go_wp2_with fail
  (go_at_call 47; refine (element_any 48 (by decide) ps b cap len w HL.out HC.out HO.out hbig hps 48 rfl).mono ?_)
  rintro e w' ⟨A', c', rfl, hb, hc, hnil, hx'⟩
  go_wp2
  go_ret
  exact ⟨A', c', rfl, hb, hc, hnil, hx'⟩
end Go.Proofs.YtdpjkocpdomkbaaGreatDoor
