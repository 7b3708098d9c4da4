/- Contracts of the reference's reading of flags: ReadBits, Read, Decode. Bytes of at most 2^47. -/
import Derived.Test.YtbgiciijiopklaaDoorRefDerB
import Derived.Test.YtbgiciijiopklaaDoorFlagR
import Derived.Test.YtbgiciijiopklaaDoorRefA
namespace Go.Proofs.YtbgiciijiopklaaDoor
open Go.RowKit
theorem ext_drewN' (w : World) (n : Nat) : Ext w (w.drewN n) := ⟨rfl, rfl, rfl, Nat.le_refl _, fun _ _ => rfl⟩
theorem or_bytes (y1 y2 y3 y4 : Nat) (h1 : y1 < 2 ^ 8) (h2 : y2 < 2 ^ 8) (h3 : y3 < 2 ^ 8) (h4 : y4 < 2 ^ 8) :
    bits .or .u32 (bits .or .u32 (bits .or .u32 ((y1 : Int) * 16777216) ((y2 : Int) * 65536)) ((y3 : Int) * 256)) (y4 : Int) = ((y1 * 16777216 + y2 * 65536 + y3 * 256 + y4 : Nat) : Int) := by
  have e1 := u32_or_nat (y1 * 16777216) (y2 * 65536) (by omega) (by omega)
  have j1 := nat_join 24 (y1 * 16777216) (y2 * 65536) (by omega) (by omega)
  have e2 := u32_or_nat (y1 * 16777216 + y2 * 65536) (y3 * 256) (by omega) (by omega)
  have j2 := nat_join 16 (y1 * 16777216 + y2 * 65536) (y3 * 256) (by omega) (by omega)
  have e3 := u32_or_nat (y1 * 16777216 + y2 * 65536 + y3 * 256) y4 (by omega) (by omega)
  have j3 := nat_join 8 (y1 * 16777216 + y2 * 65536 + y3 * 256) y4 (by omega) (by omega)
  rw [j1] at e1
  rw [j2] at e2
  rw [j3] at e3
  simp only [Int.natCast_mul, Int.natCast_add, Int.cast_ofNat_Int] at e1 e2 e3 ⊢
  rw [e1, e2, e3]
def RBitsPost (bs : List UInt8) (p : Nat) (w : World) (e : Ending) (w' : World) : Prop :=
  Ext w w' ∧ ((∃ (v q : Nat), bitsR bs p = (0, v, q) ∧ q ≤ bs.length ∧ e = .returned (.tuple #[.int .u32 (v : Int), .int .i64 (q : Int), .int .i64 0])) ∨
    (∃ er, bitsR bs p = (er, 0, 0) ∧ er ≠ 0 ∧ e = .returned (.tuple #[.int .u32 0, .int .i64 (p : Int), .int .i64 er])))
set_option maxRecDepth 8000 in
set_option maxHeartbeats 3200000 in
theorem rBits_any (A : Option Addr) (bs : List UInt8) (L c p : Nat) (w : World) (hB : BSw w A bs) (hL : bs.length = L) (hb : L ≤ 140737488355328) (hcap : L ≤ c) :
    Calls Tryd.prog 67 #[.slice A L c, .int .i64 (p : Int)] w (RBitsPost bs p w) := by
  have HB := Lib.hid hB
  have HL := Lib.hid hL
  clear hB hL
  go_enter Tryd.func67, Tryd.ntmps67
  go_wp2_with fail
  (go_at_call 81; (with_reducible refine (rRead_any 3 A bs L c p w HB.out HL.out hb hcap (by omega)).mono ?_); rintro e w1 ⟨rfl, (⟨fr, n, A', c', hr, rfl, hs, hc', hfn⟩ | ⟨er, hr, hne, rfl⟩)⟩)
  · have HR : Hid (bitsR bs p = if n = 5 ∧ beN ((bs.drop fr).take 5) < 4294967296 then (0, beN ((bs.drop fr).take 5), fr + 5) else (6, 0, 0)) := by
      unfold bitsR; rw [hr]; exact rfl
    have hfb : fr + n ≤ 140737488355328 := by rw [HL.out] at hfn; omega
    clear hr
    by_cases hn : n = 5
    · subst hn
      have hln : ((bs.drop fr).take 5).length = 5 := by simp; omega
      have hf := five _ hln
      have hbe := beN_five _ hln
      obtain ⟨b0, off0, hA0, hc0⟩ := hs.at_ (j := 0) (by omega)
      have k0 := hc0 0 (by omega)
      have k1 := hc0 1 (by omega)
      have k2 := hc0 2 (by omega)
      have k3 := hc0 3 (by omega)
      have k4 := hc0 4 (by omega)
      subst hA0
      rw [Nat.add_zero] at k0
      have HF := Lib.hid hf
      have x1 := ((bs.drop fr).take 5)[1].toNat_lt
      have x2 := ((bs.drop fr).take 5)[2].toNat_lt
      have x3 := ((bs.drop fr).take 5)[3].toNat_lt
      have x4 := ((bs.drop fr).take 5)[4].toNat_lt
      have HBE := Lib.hid hbe
      clear hf hc0 hbe
      generalize beN ((bs.drop fr).take 5) = v at HR HF HBE
      generalize ((bs.drop fr).take 5)[0].toNat = y0 at *
      generalize ((bs.drop fr).take 5)[1].toNat = y1 at *
      generalize ((bs.drop fr).take 5)[2].toNat = y2 at *
      generalize ((bs.drop fr).take 5)[3].toNat = y3 at *
      generalize ((bs.drop fr).take 5)[4].toNat = y4 at *
      clear hln
      by_cases ht : y0 = 0
      · subst ht
        have hvl := HF.out.2 rfl
        have hv : y1 * 16777216 + y2 * 65536 + y3 * 256 + y4 = v := by have := HBE.out; omega
        have hor := or_bytes y1 y2 y3 y4 x1 x2 x3 x4
        rw [hv] at hor
        clear hv
        go_wp2
        go_quiet (fail)
        go_wp2
        go_ret3
        exact ⟨ext_drewN' _ _, .inl ⟨_, _, HR.out.trans (if_pos (by first | exact ⟨rfl, hvl⟩ | exact ⟨trivial, hvl⟩)), hfn, rfl⟩⟩
      · have d1 : ((y0 : Int) != 0) = true := by simpa using ht
        have HT := Lib.hid ht
        clear ht
        go_wp2
        go_ret3
        exact ⟨Ext.refl _, .inr ⟨_, HR.out.trans (if_neg (fun q => HT.out (HF.out.1 q.2))), by decide, rfl⟩⟩
    · have d1 : ((n : Int) != 5) = true := by simp; omega
      go_wp2
      go_ret3
      exact ⟨Ext.refl _, .inr ⟨_, HR.out.trans (if_neg (fun q => hn q.1)), by decide, rfl⟩⟩
  · have HR : Hid (bitsR bs p = (er, 0, 0)) := by
      unfold bitsR; rw [hr, if_neg hne]; exact rfl
    have d1 : ((er : Int) == 0) = false := by simpa using hne
    have d2 : ((er : Int) != 0) = true := by simpa using hne
    have HN := Lib.hid hne
    clear hr hne
    go_wp2
    go_ret3
    exact ⟨Ext.refl _, .inr ⟨_, HR.out, HN.out, rfl⟩⟩
def RfReadPost (bs : List UInt8) (p : Nat) (w : World) (e : Ending) (w' : World) : Prop :=
  Ext w w' ∧ ((∃ (v q : Nat), readF bs p = (0, v, q) ∧ q ≤ bs.length ∧ e = .returned (.tuple #[.int .u32 (v : Int), .int .i64 (q : Int), .int .i64 0])) ∨
    (∃ er, readF bs p = (er, 0, 0) ∧ er ≠ 0 ∧ e = .returned (.tuple #[.int .u32 0, .int .i64 (p : Int), .int .i64 er])))
set_option maxHeartbeats 1600000 in
theorem rfRead_any (A : Option Addr) (bs : List UInt8) (L c p : Nat) (z : Int) (hz : z = p) (w : World) (hB : BSw w A bs) (hL : bs.length = L) (hb : L ≤ 140737488355328) (hcap : L ≤ c) :
    Calls Tryd.prog 34 #[.slice A L c, .int .i64 z] w (RfReadPost bs p w) := by
  subst hz
  have HB := Lib.hid hB
  have HL := Lib.hid hL
  clear hB hL
  go_enter Tryd.func34, Tryd.ntmps34
  go_wp2_with fail
  (go_at_call 67; (with_reducible refine (rBits_any A bs L c p w HB.out HL.out hb hcap).mono ?_); rintro e w1 ⟨hx, (⟨v, q, hr, hq, rfl⟩ | ⟨er, hr, hne, rfl⟩)⟩)
  · have hvl := bitsR_lt hr
    cases hn : namedB v
    · have HF : Hid (readF bs p = (6, 0, 0)) := by unfold readF; rw [hr, if_pos rfl, hn]; exact rfl
      have HN := Lib.hid hn
      clear hr hn
      go_wp2_with (go_at_call 18; (with_reducible refine (rNamed_any v hvl _).mono ?_); rintro e w3 ⟨rfl, hx3⟩; rw [HN.out])
      go_ret3
      exact ⟨hx.trans hx3, .inr ⟨_, HF.out, by decide, rfl⟩⟩
    · have HF : Hid (readF bs p = (0, v, q)) := by unfold readF; rw [hr, if_pos rfl, hn]; exact rfl
      have HN := Lib.hid hn
      clear hr hn
      go_wp2_with (go_at_call 18; (with_reducible refine (rNamed_any v hvl _).mono ?_); rintro e w3 ⟨rfl, hx3⟩; rw [HN.out])
      go_ret3
      exact ⟨hx.trans hx3, .inl ⟨_, _, HF.out, hq, rfl⟩⟩
  · have HF : Hid (readF bs p = (er, 0, 0)) := by unfold readF; rw [hr, if_neg hne]; exact rfl
    have d1 : ((er : Int) == 0) = false := by simpa using hne
    have HN := Lib.hid hne
    clear hr hne
    go_wp2
    go_ret3
    exact ⟨hx, .inr ⟨_, HF.out, HN.out, rfl⟩⟩
set_option maxHeartbeats 1600000 in
theorem rfDecode_any (A : Option Addr) (bs : List UInt8) (n c : Nat) (w : World) (hB : BSw w A bs) (hn : bs.length = n) (hL : n ≤ 140737488355328) (hcap : n ≤ c) :
    Calls Tryd.prog 31 #[.slice A n c] w fun e w' => e = .returned (.tuple #[.int .u32 ((decF bs).2 : Nat), .int .i64 (decF bs).1]) ∧ Ext w w' := by
  have HB := Lib.hid hB
  have HN := Lib.hid hn
  clear hB hn
  go_enter Tryd.func31, Tryd.ntmps31
  go_wp2_with fail
  (go_at_call 34; (with_reducible refine (rfRead_any A bs n c 0 0 rfl w HB.out HN.out hL hcap).mono ?_); rintro e w1 ⟨hx, (⟨v, q, hr, hq, rfl⟩ | ⟨er, hr, hne, rfl⟩)⟩)
  · by_cases hlt : q < bs.length
    · have HD : Hid (decF bs = (5, 0)) := by unfold decF; rw [hr, if_pos rfl, if_pos hlt]; exact rfl
      have d : decide (q < n) = true := by have := HN.out; simp; omega
      clear hr
      go_wp2
      go_ret2
      rw [HD.out]
      exact ⟨rfl, hx⟩
    · have HD : Hid (decF bs = (0, v)) := by unfold decF; rw [hr, if_pos rfl, if_neg hlt]; exact rfl
      have d : decide (q < n) = false := by have := HN.out; simp; omega
      clear hr
      go_wp2
      go_ret2
      rw [HD.out]
      exact ⟨rfl, hx⟩
  · have HD : Hid (decF bs = (er, 0)) := by unfold decF; rw [hr, if_neg hne]; exact rfl
    have d : ((er : Int) == 0) = false := by simpa using hne
    clear hr hne
    go_wp2
    go_ret2
    rw [HD.out]
    exact ⟨rfl, hx⟩
end Go.Proofs.YtbgiciijiopklaaDoor
