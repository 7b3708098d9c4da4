/- Contracts of the reference's reading: Length, Read, ReadTagged, ReadTime, Whole. Bytes of at most 2^47. -/
import Derived.Test.YtbgiciijiopklaaDoorDerU
namespace Go.Proofs.YtbgiciijiopklaaDoor
open Go.RowKit
def LengthPost (bs : List UInt8) (p : Nat) (w : World) (e : Ending) (w' : World) : Prop :=
  e = .returned (.tuple #[.int .i64 ((lenR bs p).2.1 : Int), .int .i64 ((lenR bs p).2.2 : Int), .int .i64 (lenR bs p).1]) ∧ w = w'
theorem lengthPost_of {bs : List UInt8} {p n q : Nat} {er : Int} {w : World} (h : lenR bs p = (er, n, q)) : LengthPost bs p w (.returned (.tuple #[.int .i64 (n : Int), .int .i64 (q : Int), .int .i64 er])) w := by
  unfold LengthPost; rw [h]; exact ⟨rfl, rfl⟩
theorem beN_drop_succ (bs : List UInt8) (p k : Nat) (h : p + k < bs.length) : beN ((bs.drop p).take (k + 1)) = beN ((bs.drop p).take k) * 256 + bs[p + k].toNat := by
  rw [beN_take_succ _ _ (by simp; omega)]
  simp
theorem beN_drop_lt (bs : List UInt8) (p k : Nat) (h : k ≤ 6) : beN ((bs.drop p).take k) < 281474976710656 := beN_take_lt (bs.drop p) k h
set_option maxRecDepth 8000 in
set_option maxHeartbeats 3200000 in
theorem rLength_1 (A : Option Addr) (bs : List UInt8) (L c p : Nat) (w : World) (hB : BSw w A bs) (hL : bs.length = L) (hb : L ≤ 140737488355328) (hp : p < bs.length) (hf : bs[p].toNat = 129) :
    Calls Tryd.prog 91 #[.slice A L c, .int .i64 (p : Int)] w (LengthPost bs p w) := by
  have HD : Hid (lenR bs p = if bs.length < p + 1 + 1 then (4, 0, 0)
      else if beN ((bs.drop (p + 1)).take 1) < 128 ∨ beN ((bs.drop (p + 1)).take 1) < 1 then (6, 0, 0)
      else (0, beN ((bs.drop (p + 1)).take 1), p + 1 + 1)) := by
    unfold lenR; rw [dif_pos hp, hf, if_neg (by decide), if_neg (by decide)]; exact rfl
  obtain ⟨b, off, rfl, hc⟩ := hB.at_ hp
  have hcell := hc p hp
  rw [hf] at hcell
  have hpL : (p : Int) < (L : Int) := by omega
  have hp0 : (0 : Int) ≤ (p : Int) := by omega
  have HC := Lib.hid hc
  have HL := Lib.hid hL
  clear hc hf hB hL
  by_cases hlen : L < p + 1 + 1
  · have d1 : ((L : Int) < (p : Int) + 1 + 1) := by omega
    go_enter Tryd.func91, Tryd.ntmps91
    go_wp2
    go_ret3
    exact lengthPost_of (HD.out.trans (if_pos (by rw [HL.out]; exact hlen)))
  · have HD2 : Hid (lenR bs p = if beN ((bs.drop (p + 1)).take 1) < 128 ∨ beN ((bs.drop (p + 1)).take 1) < 1 then (6, 0, 0)
      else (0, beN ((bs.drop (p + 1)).take 1), p + 1 + 1)) := HD.out.trans (if_neg (by rw [HL.out]; exact hlen))
    have d1 : ¬ ((L : Int) < (p : Int) + 1 + 1) := by omega
    go_enter Tryd.func91, Tryd.ntmps91
    go_wp2
    go_loop [9, 10] (fun v i => ∃ j : Nat, j ≤ 1 ∧ i = .int .i64 j ∧ v = .int .i64 (beN ((bs.drop (p + 1)).take j) : Int)) (fun _ i => 1 - (intOf i).toNat)
    case atStart => exact ⟨0, Nat.zero_le _, rfl, rfl⟩
    case round =>
      obtain ⟨j, hj, rfl, rfl⟩ := hrel
      have hv := beN_drop_lt bs (p + 1) j (by omega)
      by_cases hlt : j < 1
      · have hix : p + 1 + j < bs.length := by have := HL.out; omega
        have HS := Lib.hid (beN_drop_succ bs (p + 1) j hix)
        have hcj := HC.out (p + 1 + j) hix
        have hx := bs[p + 1 + j].toNat_lt
        generalize bs[p + 1 + j].toNat = x at *
        generalize beN ((bs.drop (p + 1)).take j) = v at *
        have hcj2 : w.cell? ⟨b, off + (p + 1 + j), none⟩ = some (.int .u8 (x : Int)) := hcj
        have i0 : (0 : Int) ≤ (p : Int) + 1 + j := by omega
        have i1 : (p : Int) + 1 + j < (L : Int) := by omega
        have i2 : ((p : Int) + 1 + j).toNat = p + 1 + j := by omega
        clear hcj
        go_wp2
        go_round
        case rel => exact ⟨j + 1, by omega, by go_num, by rw [HS.out]; go_num⟩
        case measure => simp [intOf]; omega
      · obtain rfl : j = 1 := by omega
        have HD3 := Lib.hid HD2.out
        generalize beN ((bs.drop (p + 1)).take 1) = v at *
        clear HD2 HD HC
        by_cases h3 : v < 128
        · have d5 : decide ((v : Int) < 128) = true := by simp; omega
          have HR := Lib.hid (HD3.out.trans (if_pos (by omega)))
          clear h3 HD3
          go_wp2
          go_ret3
          exact lengthPost_of HR.out
        · have d5 : decide ((v : Int) < 128) = false := by simp; omega
          have HR := Lib.hid (HD3.out.trans (if_neg (by omega)))
          clear h3 HD3
          go_wp2
          go_ret3
          exact lengthPost_of HR.out
set_option maxRecDepth 8000 in
set_option maxHeartbeats 3200000 in
theorem rLength_2 (A : Option Addr) (bs : List UInt8) (L c p : Nat) (w : World) (hB : BSw w A bs) (hL : bs.length = L) (hb : L ≤ 140737488355328) (hp : p < bs.length) (hf : bs[p].toNat = 130) :
    Calls Tryd.prog 91 #[.slice A L c, .int .i64 (p : Int)] w (LengthPost bs p w) := by
  have HD : Hid (lenR bs p = if bs.length < p + 1 + 2 then (4, 0, 0)
      else if beN ((bs.drop (p + 1)).take 2) < 128 ∨ beN ((bs.drop (p + 1)).take 2) < 256 then (6, 0, 0)
      else (0, beN ((bs.drop (p + 1)).take 2), p + 1 + 2)) := by
    unfold lenR; rw [dif_pos hp, hf, if_neg (by decide), if_neg (by decide)]; exact rfl
  obtain ⟨b, off, rfl, hc⟩ := hB.at_ hp
  have hcell := hc p hp
  rw [hf] at hcell
  have hpL : (p : Int) < (L : Int) := by omega
  have hp0 : (0 : Int) ≤ (p : Int) := by omega
  have HC := Lib.hid hc
  have HL := Lib.hid hL
  clear hc hf hB hL
  by_cases hlen : L < p + 1 + 2
  · have d1 : ((L : Int) < (p : Int) + 1 + 2) := by omega
    go_enter Tryd.func91, Tryd.ntmps91
    go_wp2
    go_ret3
    exact lengthPost_of (HD.out.trans (if_pos (by rw [HL.out]; exact hlen)))
  · have HD2 : Hid (lenR bs p = if beN ((bs.drop (p + 1)).take 2) < 128 ∨ beN ((bs.drop (p + 1)).take 2) < 256 then (6, 0, 0)
      else (0, beN ((bs.drop (p + 1)).take 2), p + 1 + 2)) := HD.out.trans (if_neg (by rw [HL.out]; exact hlen))
    have d1 : ¬ ((L : Int) < (p : Int) + 1 + 2) := by omega
    go_enter Tryd.func91, Tryd.ntmps91
    go_wp2
    go_loop [9, 10] (fun v i => ∃ j : Nat, j ≤ 2 ∧ i = .int .i64 j ∧ v = .int .i64 (beN ((bs.drop (p + 1)).take j) : Int)) (fun _ i => 2 - (intOf i).toNat)
    case atStart => exact ⟨0, Nat.zero_le _, rfl, rfl⟩
    case round =>
      obtain ⟨j, hj, rfl, rfl⟩ := hrel
      have hv := beN_drop_lt bs (p + 1) j (by omega)
      by_cases hlt : j < 2
      · have hix : p + 1 + j < bs.length := by have := HL.out; omega
        have HS := Lib.hid (beN_drop_succ bs (p + 1) j hix)
        have hcj := HC.out (p + 1 + j) hix
        have hx := bs[p + 1 + j].toNat_lt
        generalize bs[p + 1 + j].toNat = x at *
        generalize beN ((bs.drop (p + 1)).take j) = v at *
        have hcj2 : w.cell? ⟨b, off + (p + 1 + j), none⟩ = some (.int .u8 (x : Int)) := hcj
        have i0 : (0 : Int) ≤ (p : Int) + 1 + j := by omega
        have i1 : (p : Int) + 1 + j < (L : Int) := by omega
        have i2 : ((p : Int) + 1 + j).toNat = p + 1 + j := by omega
        clear hcj
        go_wp2
        go_round
        case rel => exact ⟨j + 1, by omega, by go_num, by rw [HS.out]; go_num⟩
        case measure => simp [intOf]; omega
      · obtain rfl : j = 2 := by omega
        have HD3 := Lib.hid HD2.out
        generalize beN ((bs.drop (p + 1)).take 2) = v at *
        clear HD2 HD HC
        by_cases h3 : v < 256
        · have d5 : decide ((v : Int) < 256) = true := by simp; omega
          have HR := Lib.hid (HD3.out.trans (if_pos (by omega)))
          clear h3 HD3
          go_wp2
          go_ret3
          exact lengthPost_of HR.out
        · have d5 : decide ((v : Int) < 256) = false := by simp; omega
          have HR := Lib.hid (HD3.out.trans (if_neg (by omega)))
          clear h3 HD3
          go_wp2
          go_ret3
          exact lengthPost_of HR.out
set_option maxRecDepth 8000 in
set_option maxHeartbeats 3200000 in
theorem rLength_3 (A : Option Addr) (bs : List UInt8) (L c p : Nat) (w : World) (hB : BSw w A bs) (hL : bs.length = L) (hb : L ≤ 140737488355328) (hp : p < bs.length) (hf : bs[p].toNat = 131) :
    Calls Tryd.prog 91 #[.slice A L c, .int .i64 (p : Int)] w (LengthPost bs p w) := by
  have HD : Hid (lenR bs p = if bs.length < p + 1 + 3 then (4, 0, 0)
      else if beN ((bs.drop (p + 1)).take 3) < 128 ∨ beN ((bs.drop (p + 1)).take 3) < 65536 then (6, 0, 0)
      else (0, beN ((bs.drop (p + 1)).take 3), p + 1 + 3)) := by
    unfold lenR; rw [dif_pos hp, hf, if_neg (by decide), if_neg (by decide)]; exact rfl
  obtain ⟨b, off, rfl, hc⟩ := hB.at_ hp
  have hcell := hc p hp
  rw [hf] at hcell
  have hpL : (p : Int) < (L : Int) := by omega
  have hp0 : (0 : Int) ≤ (p : Int) := by omega
  have HC := Lib.hid hc
  have HL := Lib.hid hL
  clear hc hf hB hL
  by_cases hlen : L < p + 1 + 3
  · have d1 : ((L : Int) < (p : Int) + 1 + 3) := by omega
    go_enter Tryd.func91, Tryd.ntmps91
    go_wp2
    go_ret3
    exact lengthPost_of (HD.out.trans (if_pos (by rw [HL.out]; exact hlen)))
  · have HD2 : Hid (lenR bs p = if beN ((bs.drop (p + 1)).take 3) < 128 ∨ beN ((bs.drop (p + 1)).take 3) < 65536 then (6, 0, 0)
      else (0, beN ((bs.drop (p + 1)).take 3), p + 1 + 3)) := HD.out.trans (if_neg (by rw [HL.out]; exact hlen))
    have d1 : ¬ ((L : Int) < (p : Int) + 1 + 3) := by omega
    go_enter Tryd.func91, Tryd.ntmps91
    go_wp2
    go_loop [9, 10] (fun v i => ∃ j : Nat, j ≤ 3 ∧ i = .int .i64 j ∧ v = .int .i64 (beN ((bs.drop (p + 1)).take j) : Int)) (fun _ i => 3 - (intOf i).toNat)
    case atStart => exact ⟨0, Nat.zero_le _, rfl, rfl⟩
    case round =>
      obtain ⟨j, hj, rfl, rfl⟩ := hrel
      have hv := beN_drop_lt bs (p + 1) j (by omega)
      by_cases hlt : j < 3
      · have hix : p + 1 + j < bs.length := by have := HL.out; omega
        have HS := Lib.hid (beN_drop_succ bs (p + 1) j hix)
        have hcj := HC.out (p + 1 + j) hix
        have hx := bs[p + 1 + j].toNat_lt
        generalize bs[p + 1 + j].toNat = x at *
        generalize beN ((bs.drop (p + 1)).take j) = v at *
        have hcj2 : w.cell? ⟨b, off + (p + 1 + j), none⟩ = some (.int .u8 (x : Int)) := hcj
        have i0 : (0 : Int) ≤ (p : Int) + 1 + j := by omega
        have i1 : (p : Int) + 1 + j < (L : Int) := by omega
        have i2 : ((p : Int) + 1 + j).toNat = p + 1 + j := by omega
        clear hcj
        go_wp2
        go_round
        case rel => exact ⟨j + 1, by omega, by go_num, by rw [HS.out]; go_num⟩
        case measure => simp [intOf]; omega
      · obtain rfl : j = 3 := by omega
        have HD3 := Lib.hid HD2.out
        generalize beN ((bs.drop (p + 1)).take 3) = v at *
        clear HD2 HD HC
        by_cases h3 : v < 65536
        · have d5 : decide ((v : Int) < 65536) = true := by simp; omega
          have HR := Lib.hid (HD3.out.trans (if_pos (by omega)))
          clear h3 HD3
          go_wp2
          go_ret3
          exact lengthPost_of HR.out
        · have d5 : decide ((v : Int) < 65536) = false := by simp; omega
          have HR := Lib.hid (HD3.out.trans (if_neg (by omega)))
          clear h3 HD3
          go_wp2
          go_ret3
          exact lengthPost_of HR.out
set_option maxRecDepth 8000 in
set_option maxHeartbeats 3200000 in
theorem rLength_any (A : Option Addr) (bs : List UInt8) (L c p : Nat) (w : World) (hB : BSw w A bs) (hL : bs.length = L) (hb : L ≤ 140737488355328) :
    Calls Tryd.prog 91 #[.slice A L c, .int .i64 (p : Int)] w (LengthPost bs p w) := by
  by_cases hp : p < bs.length
  · by_cases k1 : bs[p].toNat = 129
    · exact rLength_1 A bs L c p w hB hL hb hp k1
    by_cases k2 : bs[p].toNat = 130
    · exact rLength_2 A bs L c p w hB hL hb hp k2
    by_cases k3 : bs[p].toNat = 131
    · exact rLength_3 A bs L c p w hB hL hb hp k3
    obtain ⟨b, off, rfl, hc⟩ := hB.at_ hp
    have hcell := hc p hp
    have hx := bs[p].toNat_lt
    have hdef : lenR bs p = if bs[p].toNat < 128 then (0, bs[p].toNat, p + 1) else if bs[p].toNat < 129 ∨ 131 < bs[p].toNat then (6, 0, 0)
      else if bs.length < p + 1 + (bs[p].toNat - 128) then (4, 0, 0)
      else if beN ((bs.drop (p + 1)).take (bs[p].toNat - 128)) < 128 ∨ beN ((bs.drop (p + 1)).take (bs[p].toNat - 128)) < 256 ^ (bs[p].toNat - 129) then (6, 0, 0)
      else (0, beN ((bs.drop (p + 1)).take (bs[p].toNat - 128)), p + 1 + (bs[p].toNat - 128)) := by unfold lenR; rw [dif_pos hp]
    generalize bs[p].toNat = f at *
    have HD := Lib.hid hdef
    have hpL : (p : Int) < (L : Int) := by omega
    have hp0 : (0 : Int) ≤ (p : Int) := by omega
    clear hc hB hdef hL
    by_cases h1 : f < 128
    · have HR := Lib.hid (HD.out.trans (if_pos h1))
      clear HD k1 k2 k3
      go_enter Tryd.func91, Tryd.ntmps91
      go_wp2
      go_ret3
      exact lengthPost_of HR.out
    · have h5 : f = 128 ∨ 131 < f := by omega
      have HR := Lib.hid ((HD.out.trans (if_neg h1)).trans (if_pos (by omega)))
      clear HD k1 k2 k3
      rcases h5 with rfl | h2
      · go_enter Tryd.func91, Tryd.ntmps91
        go_wp2
        go_ret3
        exact lengthPost_of HR.out
      · have d1 : decide ((f : Int) < 129) = false := by simp; omega
        have d2 : decide ((131 : Int) < (f : Int)) = true := by simp; omega
        go_enter Tryd.func91, Tryd.ntmps91
        go_wp2
        go_ret3
        exact lengthPost_of HR.out
  · have HR : Hid (lenR bs p = (4, 0, 0)) := by unfold lenR; rw [dif_neg hp]; exact rfl
    have d1 : (L : Int) ≤ (p : Int) := by omega
    clear hB hL
    go_enter Tryd.func91, Tryd.ntmps91
    go_wp2
    go_ret3
    exact lengthPost_of HR.out
end Go.Proofs.YtbgiciijiopklaaDoor
