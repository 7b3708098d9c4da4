/- Contracts of package der's input: value, length, contents. No condition. -/
import Derived.Test.YtdpjkocpdomkbaaGreatDoorDerA
import Derived.LoopTactic
import Derived.Laws.BitsAllLaws
namespace Go.Proofs.YtdpjkocpdomkbaaGreatDoor
open Go.RowKit
/-- The number of bytes, the first one the greatest. -/
def beN (bs : List UInt8) : Nat := bs.foldl (fun a b => a * 256 + b.toNat) 0
theorem beN_snoc (l : List UInt8) (c : UInt8) : beN (l ++ [c]) = beN l * 256 + c.toNat := by simp [beN]
theorem beN_lt (l : List UInt8) : beN l < 256 ^ l.length := by
  have key : ∀ (m : List UInt8) (a : Nat), m.foldl (fun a b => a * 256 + b.toNat) a < (a + 1) * 256 ^ m.length := by
    intro m
    induction m with
    | nil => intro a; simp
    | cons c m ih =>
      intro a
      have h := ih (a * 256 + c.toNat)
      have hc := c.toNat_lt
      have hm : (a * 256 + c.toNat + 1) * 256 ^ m.length ≤ ((a + 1) * 256) * 256 ^ m.length := Nat.mul_le_mul_right _ (by omega)
      rw [List.foldl_cons, List.length_cons, Nat.pow_succ, Nat.mul_comm (256 ^ m.length) 256, ← Nat.mul_assoc]
      omega
  have := key l 0
  unfold beN
  omega
theorem beN_take_succ (bs : List UInt8) (k : Nat) (h : k < bs.length) : beN (bs.take (k + 1)) = beN (bs.take k) * 256 + bs[k].toNat := by
  rw [List.take_succ_eq_append_getElem h, beN_snoc]
theorem beN_take_lt (bs : List UInt8) (k : Nat) (h : k ≤ 6) : beN (bs.take k) < 281474976710656 := by
  have h1 := beN_lt (bs.take k)
  have h2 : (bs.take k).length ≤ k := by simp; omega
  have h3 : 256 ^ (bs.take k).length ≤ 256 ^ 6 := Nat.pow_le_pow_right (by decide) (by omega)
  have h4 : (256 : Nat) ^ 6 = 281474976710656 := by decide
  omega
theorem or_byte (v x : Nat) (hv : v < 281474976710656) (hx : x < 256) : bits .or .i64 ((v * 256 : Nat) : Int) (x : Int) = ((v * 256 + x : Nat) : Int) := by
  have hl : v * 256 ||| x < 2 ^ 63 := Nat.or_lt_two_pow (by omega) (by omega)
  have h1 : ∀ a : Nat, a < 9223372036854775808 → (BitVec.ofInt 64 (a : Int)).toNat = a := fun a ha => by
    rw [BitVec.ofInt_natCast, BitVec.toNat_ofNat]; exact Nat.mod_eq_of_lt (by omega)
  show IntKind.i64.wrap ((BitVec.ofInt 64 ((v * 256 : Nat) : Int) ||| BitVec.ofInt 64 (x : Int)).toNat : Int) = _
  rw [BitVec.toNat_or, h1 _ (by omega), h1 _ (by omega), IntKind.wrap_i64]
  have h2 : v * 256 ||| x = v * 256 + x := by
    have := nat_join 8 (v * 256) x (by omega) (by omega)
    exact this
  rw [h2]
  omega
set_option maxHeartbeats 800000 in
theorem value_any (A : Option Addr) (bs : List UInt8) (c : Nat) (w : World) (hB : BS w A bs) (hl : bs.length ≤ 6) :
    Calls Tryz.prog 123 #[.slice A bs.length c, .bool false] w fun e w' => e = .returned (.int .i64 (beN bs : Int)) ∧ w = w' := by
  go_enter Tryz.func123, Tryz.ntmps123
  go_wp2
  go_loop [4, 22] (fun v i => ∃ k : Nat, k ≤ bs.length ∧ i = .int .i64 k ∧ v = .int .i64 (beN (bs.take k) : Int)) (fun _ i => bs.length - (intOf i).toNat)
  case atStart => exact ⟨0, Nat.zero_le _, rfl, rfl⟩
  case round =>
    obtain ⟨k, hk, rfl, rfl⟩ := hrel
    by_cases hlt : k < bs.length
    · obtain ⟨b, off, hA, hc⟩ := hB.at_ hlt
      have hcell := hc k hlt
      subst hA
      have hv := beN_take_lt bs k (by omega)
      have hx := bs[k].toNat_lt
      have hor := or_byte (beN (bs.take k)) bs[k].toNat hv hx
      have HS := Lib.hid (beN_take_succ bs k hlt)
      generalize beN (bs.take k) = v at *
      generalize bs[k].toNat = x at *
      have HB := Lib.hid hB
      clear hc hB
      go_wp2
      go_round
      case rel => exact ⟨k + 1, by omega, by go_num, by rw [HS.out, ← hor]; simp⟩
      case measure => simp [intOf]; omega
    · obtain rfl : k = bs.length := by omega
      go_wp2
      go_ret
      exact ⟨rfl, rfl⟩
theorem value_n (A : Option Addr) (bs : List UInt8) (n c : Nat) (w : World) (hB : BS w A bs) (hn : bs.length = n) (hl : n ≤ 6) :
    Calls Tryz.prog 123 #[.slice A n c, .bool false] w fun e w' => e = .returned (.int .i64 (beN bs : Int)) ∧ w = w' := by
  subst hn; exact value_any A bs c w hB hl
set_option maxHeartbeats 400000 in
theorem take1_ok (X : Nat) (A : Option Addr) (bs : List UInt8) (c p : Nat) (w : World) (h : Inp w X A bs c p) (hn : p < bs.length) :
    Calls Tryz.prog 129 #[.pointer (some ⟨X, 0, none⟩), .int .i64 1] w fun e w' => ∃ b off, e = .returned (.slice (some ⟨b, off, none⟩) 1 1) ∧ w'.cell? ⟨b, off, none⟩ = some (.int .u8 (bs[p].toNat : Int)) ∧ Inp w' X A bs c (p + 1) ∧ Gr X w w' := by
  refine (take_ok X A bs c p 1 w h (by omega)).mono fun e w' ⟨A', he, hb, hi, hg⟩ => ?_
  have hlen : ((bs.drop p).take 1).length = 1 := by simp; omega
  obtain ⟨b, off, rfl, hc⟩ := hb.at_ (j := 0) (by omega)
  have h0 := hc 0 (by omega)
  rw [drop_take_get] at h0
  exact ⟨b, off, he, h0, hi, hg⟩
/-- The length at an offset: the error, the length, the offset behind it. -/
def lenR (bs : List UInt8) (p : Nat) : Int × Nat × Nat :=
  if h : p < bs.length then
    if bs[p].toNat < 128 then (0, bs[p].toNat, p + 1)
    else if bs[p].toNat < 129 ∨ 131 < bs[p].toNat then (6, 0, 0)
    else if bs.length < p + 1 + (bs[p].toNat - 128) then (4, 0, 0)
    else if beN ((bs.drop (p + 1)).take (bs[p].toNat - 128)) < 128 ∨ beN ((bs.drop (p + 1)).take (bs[p].toNat - 128)) < 256 ^ (bs[p].toNat - 129) then (6, 0, 0)
    else (0, beN ((bs.drop (p + 1)).take (bs[p].toNat - 128)), p + 1 + (bs[p].toNat - 128))
  else (4, 0, 0)
def LenPost (X : Nat) (A : Option Addr) (bs : List UInt8) (c p : Nat) (w : World) (e : Ending) (w' : World) : Prop :=
  Gr X w w' ∧ ((∃ n p', lenR bs p = (0, n, p') ∧ e = .returned (.int .i64 (n : Int)) ∧ Inp w' X A bs c p') ∨ (∃ er n p', lenR bs p = (er, n, p') ∧ er ≠ 0 ∧ e = .panicked [{ v := .iface 25 (.int .i64 er), recovered := false }]))
theorem take_okI (X : Nat) (A : Option Addr) (bs : List UInt8) (c p n : Nat) (z : Int) (w : World) (h : Inp w X A bs c p) (hz : z = n) (hn : p + n ≤ bs.length) :
    Calls Tryz.prog 129 #[.pointer (some ⟨X, 0, none⟩), .int .i64 z] w (Took X A bs c p n w) := by
  subst hz; exact take_ok X A bs c p n w h hn
theorem take_noI (X : Nat) (A : Option Addr) (bs : List UInt8) (c p n : Nat) (z : Int) (w : World) (h : Inp w X A bs c p) (hz : z = n) (hn : bs.length < p + n) :
    Calls Tryz.prog 129 #[.pointer (some ⟨X, 0, none⟩), .int .i64 z] w fun e w' => e = .panicked [{ v := .iface 25 (.int .i64 4), recovered := false }] ∧ ∃ k, w' = w.drewN k := by
  subst hz; exact take_no X A bs c p n w h hn
set_option maxRecDepth 8000 in
set_option maxHeartbeats 3200000 in
theorem length_1 (X : Nat) (A : Option Addr) (bs : List UInt8) (c p : Nat) (w : World) (h : Inp w X A bs c p) (hp : p < bs.length) (hf : bs[p].toNat = 129) :
    Calls Tryz.prog 130 #[.pointer (some ⟨X, 0, none⟩)] w (LenPost X A bs c p w) := by
  have HD : Hid (lenR bs p = if bs.length < p + 1 + 1 then (4, 0, 0)
      else if beN ((bs.drop (p + 1)).take 1) < 128 ∨ beN ((bs.drop (p + 1)).take 1) < 1 then (6, 0, 0)
      else (0, beN ((bs.drop (p + 1)).take 1), p + 1 + 1)) := by
    unfold lenR; rw [dif_pos hp, hf, if_neg (by decide), if_neg (by decide)]; exact rfl
  have HF := Lib.hid hf
  clear hf
  by_cases hlen : bs.length < p + 1 + 1
  · go_enter Tryz.func130, Tryz.ntmps130
    go_wp2_with fail
    (go_at_call 129; (with_reducible refine (take1_ok X A bs c p w h hp).mono ?_); rintro e w' ⟨b, off, rfl, hcell, hi, hg⟩)
    rw [HF.out] at hcell
    go_wp2_with (first | (go_at_call 122; (with_reducible refine (need_t _ _).mono ?_); rintro e w' ⟨rfl, rfl⟩) | (go_at_call 129; (with_reducible refine (take_noI X A bs c (p + 1) 1 _ _ hi (by omega) (by omega)).mono ?_); rintro e w' ⟨rfl, k, rfl⟩))
    exact ⟨rfl, hg.drewN _, .inr ⟨_, _, _, HD.out.trans (if_pos hlen), by decide, rfl⟩⟩
  · have hln : ((bs.drop (p + 1)).take 1).length = 1 := by simp; omega
    have HD2 : Hid (lenR bs p = if beN ((bs.drop (p + 1)).take 1) < 128 ∨ beN ((bs.drop (p + 1)).take 1) < 1 then (6, 0, 0)
      else (0, beN ((bs.drop (p + 1)).take 1), p + 1 + 1)) := HD.out.trans (if_neg hlen)
    have Hln := Lib.hid hln
    clear hln HD
    generalize hv : beN ((bs.drop (p + 1)).take 1) = v at HD2
    have HV := Lib.hid hv
    clear hv
    by_cases h3 : 128 ≤ v
    · by_cases h4 : 1 ≤ v
      · have d1 : decide ((128 : Int) ≤ (v : Int)) = true := by simp; omega
        have d2 : decide ((1 : Int) ≤ (v : Int)) = true := by simp; omega
        go_enter Tryz.func130, Tryz.ntmps130
        go_wp2_with fail
        (go_at_call 129; (with_reducible refine (take1_ok X A bs c p w h hp).mono ?_); rintro e w' ⟨b, off, rfl, hcell, hi, hg⟩)
        rw [HF.out] at hcell
        go_wp2_with (first | (go_at_call 122; (with_reducible refine (need_t _ _).mono ?_); rintro e w' ⟨rfl, rfl⟩) | (go_at_call 129; (with_reducible refine (take_okI X A bs c (p + 1) 1 _ _ hi (by omega) (by omega)).mono ?_); rintro e w2 ⟨A2, rfl, hb2, hi2, hg2⟩) | (go_at_call 123; (with_reducible refine (value_n A2 _ 1 1 _ hb2 Hln.out (by omega)).mono ?_); rintro e w' ⟨rfl, rfl⟩; rw [HV.out]))
        go_ret
        exact ⟨hg.trans hg2, .inl ⟨_, _, HD2.out.trans (if_neg (by omega)), rfl, hi2⟩⟩
      · have d1 : decide ((128 : Int) ≤ (v : Int)) = true := by simp; omega
        have d2 : decide ((1 : Int) ≤ (v : Int)) = false := by simp; omega
        go_enter Tryz.func130, Tryz.ntmps130
        go_wp2_with fail
        (go_at_call 129; (with_reducible refine (take1_ok X A bs c p w h hp).mono ?_); rintro e w' ⟨b, off, rfl, hcell, hi, hg⟩)
        rw [HF.out] at hcell
        go_wp2_with (first | (go_at_call 122; (with_reducible refine (need_t _ _).mono ?_); rintro e w' ⟨rfl, rfl⟩) | (go_at_call 122; (with_reducible refine (need_f _ _).mono ?_); rintro e w' ⟨rfl, rfl⟩) | (go_at_call 129; (with_reducible refine (take_okI X A bs c (p + 1) 1 _ _ hi (by omega) (by omega)).mono ?_); rintro e w2 ⟨A2, rfl, hb2, hi2, hg2⟩) | (go_at_call 123; (with_reducible refine (value_n A2 _ 1 1 _ hb2 Hln.out (by omega)).mono ?_); rintro e w' ⟨rfl, rfl⟩; rw [HV.out]))
        exact ⟨rfl, hg.trans hg2, .inr ⟨_, _, _, HD2.out.trans (if_pos (by omega)), by decide, rfl⟩⟩
    · have d1 : decide ((128 : Int) ≤ (v : Int)) = false := by simp; omega
      go_enter Tryz.func130, Tryz.ntmps130
      go_wp2_with fail
      (go_at_call 129; (with_reducible refine (take1_ok X A bs c p w h hp).mono ?_); rintro e w' ⟨b, off, rfl, hcell, hi, hg⟩)
      rw [HF.out] at hcell
      go_wp2_with (first | (go_at_call 122; (with_reducible refine (need_t _ _).mono ?_); rintro e w' ⟨rfl, rfl⟩) | (go_at_call 122; (with_reducible refine (need_f _ _).mono ?_); rintro e w' ⟨rfl, rfl⟩) | (go_at_call 129; (with_reducible refine (take_okI X A bs c (p + 1) 1 _ _ hi (by omega) (by omega)).mono ?_); rintro e w2 ⟨A2, rfl, hb2, hi2, hg2⟩) | (go_at_call 123; (with_reducible refine (value_n A2 _ 1 1 _ hb2 Hln.out (by omega)).mono ?_); rintro e w' ⟨rfl, rfl⟩; rw [HV.out]))
      exact ⟨rfl, hg.trans hg2, .inr ⟨_, _, _, HD2.out.trans (if_pos (by omega)), by decide, rfl⟩⟩
set_option maxRecDepth 8000 in
set_option maxHeartbeats 3200000 in
theorem length_2 (X : Nat) (A : Option Addr) (bs : List UInt8) (c p : Nat) (w : World) (h : Inp w X A bs c p) (hp : p < bs.length) (hf : bs[p].toNat = 130) :
    Calls Tryz.prog 130 #[.pointer (some ⟨X, 0, none⟩)] w (LenPost X A bs c p w) := by
  have HD : Hid (lenR bs p = if bs.length < p + 1 + 2 then (4, 0, 0)
      else if beN ((bs.drop (p + 1)).take 2) < 128 ∨ beN ((bs.drop (p + 1)).take 2) < 256 then (6, 0, 0)
      else (0, beN ((bs.drop (p + 1)).take 2), p + 1 + 2)) := by
    unfold lenR; rw [dif_pos hp, hf, if_neg (by decide), if_neg (by decide)]; exact rfl
  have HF := Lib.hid hf
  clear hf
  by_cases hlen : bs.length < p + 1 + 2
  · go_enter Tryz.func130, Tryz.ntmps130
    go_wp2_with fail
    (go_at_call 129; (with_reducible refine (take1_ok X A bs c p w h hp).mono ?_); rintro e w' ⟨b, off, rfl, hcell, hi, hg⟩)
    rw [HF.out] at hcell
    go_wp2_with (first | (go_at_call 122; (with_reducible refine (need_t _ _).mono ?_); rintro e w' ⟨rfl, rfl⟩) | (go_at_call 129; (with_reducible refine (take_noI X A bs c (p + 1) 2 _ _ hi (by omega) (by omega)).mono ?_); rintro e w' ⟨rfl, k, rfl⟩))
    exact ⟨rfl, hg.drewN _, .inr ⟨_, _, _, HD.out.trans (if_pos hlen), by decide, rfl⟩⟩
  · have hln : ((bs.drop (p + 1)).take 2).length = 2 := by simp; omega
    have HD2 : Hid (lenR bs p = if beN ((bs.drop (p + 1)).take 2) < 128 ∨ beN ((bs.drop (p + 1)).take 2) < 256 then (6, 0, 0)
      else (0, beN ((bs.drop (p + 1)).take 2), p + 1 + 2)) := HD.out.trans (if_neg hlen)
    have Hln := Lib.hid hln
    clear hln HD
    generalize hv : beN ((bs.drop (p + 1)).take 2) = v at HD2
    have HV := Lib.hid hv
    clear hv
    by_cases h3 : 128 ≤ v
    · by_cases h4 : 256 ≤ v
      · have d1 : decide ((128 : Int) ≤ (v : Int)) = true := by simp; omega
        have d2 : decide ((256 : Int) ≤ (v : Int)) = true := by simp; omega
        go_enter Tryz.func130, Tryz.ntmps130
        go_wp2_with fail
        (go_at_call 129; (with_reducible refine (take1_ok X A bs c p w h hp).mono ?_); rintro e w' ⟨b, off, rfl, hcell, hi, hg⟩)
        rw [HF.out] at hcell
        go_wp2_with (first | (go_at_call 122; (with_reducible refine (need_t _ _).mono ?_); rintro e w' ⟨rfl, rfl⟩) | (go_at_call 129; (with_reducible refine (take_okI X A bs c (p + 1) 2 _ _ hi (by omega) (by omega)).mono ?_); rintro e w2 ⟨A2, rfl, hb2, hi2, hg2⟩) | (go_at_call 123; (with_reducible refine (value_n A2 _ 2 2 _ hb2 Hln.out (by omega)).mono ?_); rintro e w' ⟨rfl, rfl⟩; rw [HV.out]))
        go_ret
        exact ⟨hg.trans hg2, .inl ⟨_, _, HD2.out.trans (if_neg (by omega)), rfl, hi2⟩⟩
      · have d1 : decide ((128 : Int) ≤ (v : Int)) = true := by simp; omega
        have d2 : decide ((256 : Int) ≤ (v : Int)) = false := by simp; omega
        go_enter Tryz.func130, Tryz.ntmps130
        go_wp2_with fail
        (go_at_call 129; (with_reducible refine (take1_ok X A bs c p w h hp).mono ?_); rintro e w' ⟨b, off, rfl, hcell, hi, hg⟩)
        rw [HF.out] at hcell
        go_wp2_with (first | (go_at_call 122; (with_reducible refine (need_t _ _).mono ?_); rintro e w' ⟨rfl, rfl⟩) | (go_at_call 122; (with_reducible refine (need_f _ _).mono ?_); rintro e w' ⟨rfl, rfl⟩) | (go_at_call 129; (with_reducible refine (take_okI X A bs c (p + 1) 2 _ _ hi (by omega) (by omega)).mono ?_); rintro e w2 ⟨A2, rfl, hb2, hi2, hg2⟩) | (go_at_call 123; (with_reducible refine (value_n A2 _ 2 2 _ hb2 Hln.out (by omega)).mono ?_); rintro e w' ⟨rfl, rfl⟩; rw [HV.out]))
        exact ⟨rfl, hg.trans hg2, .inr ⟨_, _, _, HD2.out.trans (if_pos (by omega)), by decide, rfl⟩⟩
    · have d1 : decide ((128 : Int) ≤ (v : Int)) = false := by simp; omega
      go_enter Tryz.func130, Tryz.ntmps130
      go_wp2_with fail
      (go_at_call 129; (with_reducible refine (take1_ok X A bs c p w h hp).mono ?_); rintro e w' ⟨b, off, rfl, hcell, hi, hg⟩)
      rw [HF.out] at hcell
      go_wp2_with (first | (go_at_call 122; (with_reducible refine (need_t _ _).mono ?_); rintro e w' ⟨rfl, rfl⟩) | (go_at_call 122; (with_reducible refine (need_f _ _).mono ?_); rintro e w' ⟨rfl, rfl⟩) | (go_at_call 129; (with_reducible refine (take_okI X A bs c (p + 1) 2 _ _ hi (by omega) (by omega)).mono ?_); rintro e w2 ⟨A2, rfl, hb2, hi2, hg2⟩) | (go_at_call 123; (with_reducible refine (value_n A2 _ 2 2 _ hb2 Hln.out (by omega)).mono ?_); rintro e w' ⟨rfl, rfl⟩; rw [HV.out]))
      exact ⟨rfl, hg.trans hg2, .inr ⟨_, _, _, HD2.out.trans (if_pos (by omega)), by decide, rfl⟩⟩
set_option maxRecDepth 8000 in
set_option maxHeartbeats 3200000 in
theorem length_3 (X : Nat) (A : Option Addr) (bs : List UInt8) (c p : Nat) (w : World) (h : Inp w X A bs c p) (hp : p < bs.length) (hf : bs[p].toNat = 131) :
    Calls Tryz.prog 130 #[.pointer (some ⟨X, 0, none⟩)] w (LenPost X A bs c p w) := by
  have HD : Hid (lenR bs p = if bs.length < p + 1 + 3 then (4, 0, 0)
      else if beN ((bs.drop (p + 1)).take 3) < 128 ∨ beN ((bs.drop (p + 1)).take 3) < 65536 then (6, 0, 0)
      else (0, beN ((bs.drop (p + 1)).take 3), p + 1 + 3)) := by
    unfold lenR; rw [dif_pos hp, hf, if_neg (by decide), if_neg (by decide)]; exact rfl
  have HF := Lib.hid hf
  clear hf
  by_cases hlen : bs.length < p + 1 + 3
  · go_enter Tryz.func130, Tryz.ntmps130
    go_wp2_with fail
    (go_at_call 129; (with_reducible refine (take1_ok X A bs c p w h hp).mono ?_); rintro e w' ⟨b, off, rfl, hcell, hi, hg⟩)
    rw [HF.out] at hcell
    go_wp2_with (first | (go_at_call 122; (with_reducible refine (need_t _ _).mono ?_); rintro e w' ⟨rfl, rfl⟩) | (go_at_call 129; (with_reducible refine (take_noI X A bs c (p + 1) 3 _ _ hi (by omega) (by omega)).mono ?_); rintro e w' ⟨rfl, k, rfl⟩))
    exact ⟨rfl, hg.drewN _, .inr ⟨_, _, _, HD.out.trans (if_pos hlen), by decide, rfl⟩⟩
  · have hln : ((bs.drop (p + 1)).take 3).length = 3 := by simp; omega
    have HD2 : Hid (lenR bs p = if beN ((bs.drop (p + 1)).take 3) < 128 ∨ beN ((bs.drop (p + 1)).take 3) < 65536 then (6, 0, 0)
      else (0, beN ((bs.drop (p + 1)).take 3), p + 1 + 3)) := HD.out.trans (if_neg hlen)
    have Hln := Lib.hid hln
    clear hln HD
    generalize hv : beN ((bs.drop (p + 1)).take 3) = v at HD2
    have HV := Lib.hid hv
    clear hv
    by_cases h3 : 128 ≤ v
    · by_cases h4 : 65536 ≤ v
      · have d1 : decide ((128 : Int) ≤ (v : Int)) = true := by simp; omega
        have d2 : decide ((65536 : Int) ≤ (v : Int)) = true := by simp; omega
        go_enter Tryz.func130, Tryz.ntmps130
        go_wp2_with fail
        (go_at_call 129; (with_reducible refine (take1_ok X A bs c p w h hp).mono ?_); rintro e w' ⟨b, off, rfl, hcell, hi, hg⟩)
        rw [HF.out] at hcell
        go_wp2_with (first | (go_at_call 122; (with_reducible refine (need_t _ _).mono ?_); rintro e w' ⟨rfl, rfl⟩) | (go_at_call 129; (with_reducible refine (take_okI X A bs c (p + 1) 3 _ _ hi (by omega) (by omega)).mono ?_); rintro e w2 ⟨A2, rfl, hb2, hi2, hg2⟩) | (go_at_call 123; (with_reducible refine (value_n A2 _ 3 3 _ hb2 Hln.out (by omega)).mono ?_); rintro e w' ⟨rfl, rfl⟩; rw [HV.out]))
        go_ret
        exact ⟨hg.trans hg2, .inl ⟨_, _, HD2.out.trans (if_neg (by omega)), rfl, hi2⟩⟩
      · have d1 : decide ((128 : Int) ≤ (v : Int)) = true := by simp; omega
        have d2 : decide ((65536 : Int) ≤ (v : Int)) = false := by simp; omega
        go_enter Tryz.func130, Tryz.ntmps130
        go_wp2_with fail
        (go_at_call 129; (with_reducible refine (take1_ok X A bs c p w h hp).mono ?_); rintro e w' ⟨b, off, rfl, hcell, hi, hg⟩)
        rw [HF.out] at hcell
        go_wp2_with (first | (go_at_call 122; (with_reducible refine (need_t _ _).mono ?_); rintro e w' ⟨rfl, rfl⟩) | (go_at_call 122; (with_reducible refine (need_f _ _).mono ?_); rintro e w' ⟨rfl, rfl⟩) | (go_at_call 129; (with_reducible refine (take_okI X A bs c (p + 1) 3 _ _ hi (by omega) (by omega)).mono ?_); rintro e w2 ⟨A2, rfl, hb2, hi2, hg2⟩) | (go_at_call 123; (with_reducible refine (value_n A2 _ 3 3 _ hb2 Hln.out (by omega)).mono ?_); rintro e w' ⟨rfl, rfl⟩; rw [HV.out]))
        exact ⟨rfl, hg.trans hg2, .inr ⟨_, _, _, HD2.out.trans (if_pos (by omega)), by decide, rfl⟩⟩
    · have d1 : decide ((128 : Int) ≤ (v : Int)) = false := by simp; omega
      go_enter Tryz.func130, Tryz.ntmps130
      go_wp2_with fail
      (go_at_call 129; (with_reducible refine (take1_ok X A bs c p w h hp).mono ?_); rintro e w' ⟨b, off, rfl, hcell, hi, hg⟩)
      rw [HF.out] at hcell
      go_wp2_with (first | (go_at_call 122; (with_reducible refine (need_t _ _).mono ?_); rintro e w' ⟨rfl, rfl⟩) | (go_at_call 122; (with_reducible refine (need_f _ _).mono ?_); rintro e w' ⟨rfl, rfl⟩) | (go_at_call 129; (with_reducible refine (take_okI X A bs c (p + 1) 3 _ _ hi (by omega) (by omega)).mono ?_); rintro e w2 ⟨A2, rfl, hb2, hi2, hg2⟩) | (go_at_call 123; (with_reducible refine (value_n A2 _ 3 3 _ hb2 Hln.out (by omega)).mono ?_); rintro e w' ⟨rfl, rfl⟩; rw [HV.out]))
      exact ⟨rfl, hg.trans hg2, .inr ⟨_, _, _, HD2.out.trans (if_pos (by omega)), by decide, rfl⟩⟩
set_option maxRecDepth 8000 in
set_option maxHeartbeats 3200000 in
theorem length_any (X : Nat) (A : Option Addr) (bs : List UInt8) (c p : Nat) (w : World) (h : Inp w X A bs c p) :
    Calls Tryz.prog 130 #[.pointer (some ⟨X, 0, none⟩)] w (LenPost X A bs c p w) := by
  by_cases hp : p < bs.length
  · have hx := bs[p].toNat_lt
    by_cases k1 : bs[p].toNat = 129
    · exact length_1 X A bs c p w h hp k1
    by_cases k2 : bs[p].toNat = 130
    · exact length_2 X A bs c p w h hp k2
    by_cases k3 : bs[p].toNat = 131
    · exact length_3 X A bs c p w h hp k3
    generalize hf : bs[p].toNat = f at hx k1 k2 k3
    by_cases h1 : f < 128
    · have HR : Hid (lenR bs p = (0, f, p + 1)) := by unfold lenR; rw [dif_pos hp, hf, if_pos h1]; exact rfl
      have HF := Lib.hid hf
      clear hf k1 k2 k3
      go_enter Tryz.func130, Tryz.ntmps130
      go_wp2_with fail
      (go_at_call 129; (with_reducible refine (take1_ok X A bs c p w h hp).mono ?_); rintro e w' ⟨b, off, rfl, hcell, hi, hg⟩)
      rw [HF.out] at hcell
      go_wp2
      go_ret
      exact ⟨hg, .inl ⟨_, _, HR.out, rfl, hi⟩⟩
    · have h2 : f < 129 ∨ 131 < f := by omega
      have HR : Hid (lenR bs p = (6, 0, 0)) := by unfold lenR; rw [dif_pos hp, hf, if_neg h1, if_pos h2]; exact rfl
      have HF := Lib.hid hf
      clear hf
      have h5 : f = 128 ∨ 131 < f := by omega
      clear h2 k1 k2 k3
      rcases h5 with rfl | h2
      · go_enter Tryz.func130, Tryz.ntmps130
        go_wp2_with fail
        (go_at_call 129; (with_reducible refine (take1_ok X A bs c p w h hp).mono ?_); rintro e w' ⟨b, off, rfl, hcell, hi, hg⟩)
        rw [HF.out] at hcell
        go_wp2_with (go_at_call 122; (with_reducible refine (need_f _ _).mono ?_); rintro e w' ⟨rfl, rfl⟩)
        exact ⟨rfl, hg, .inr ⟨_, _, _, HR.out, by decide, rfl⟩⟩
      · have q1 : (1 : Int) ≤ (f : Int) - 128 := by omega
        have q2 : decide ((f : Int) - 128 ≤ 3) = false := by simp; omega
        go_enter Tryz.func130, Tryz.ntmps130
        go_wp2_with fail
        (go_at_call 129; (with_reducible refine (take1_ok X A bs c p w h hp).mono ?_); rintro e w' ⟨b, off, rfl, hcell, hi, hg⟩)
        rw [HF.out] at hcell
        go_wp2_with (go_at_call 122; (with_reducible refine (need_f _ _).mono ?_); rintro e w' ⟨rfl, rfl⟩)
        exact ⟨rfl, hg, .inr ⟨_, _, _, HR.out, by decide, rfl⟩⟩
  · have HR : Hid (lenR bs p = (4, 0, 0)) := by unfold lenR; rw [dif_neg hp]; exact rfl
    go_enter Tryz.func130, Tryz.ntmps130
    go_wp2_with (go_at_call 129; (with_reducible refine (take_noI X A bs c p 1 _ w h (by omega) (by omega)).mono ?_); rintro e w' ⟨rfl, k, rfl⟩)
    exact ⟨rfl, (Gr.refl _ _).drewN _, .inr ⟨_, _, _, HR.out, by decide, rfl⟩⟩
/-- The element with a tag at an offset: the error, where its contents begin, how long they are. -/
def elR (tag : Int) (bs : List UInt8) (p : Nat) : Int × Nat × Nat :=
  if h : p < bs.length then
    if (bs[p].toNat : Int) = tag then
      if (lenR bs (p + 1)).1 = 0 then
        if bs.length < (lenR bs (p + 1)).2.2 + (lenR bs (p + 1)).2.1 then (4, 0, 0) else (0, (lenR bs (p + 1)).2.2, (lenR bs (p + 1)).2.1)
      else ((lenR bs (p + 1)).1, 0, 0)
    else (6, 0, 0)
  else (4, 0, 0)
def ContPost (tag : Int) (X : Nat) (A : Option Addr) (bs : List UInt8) (c p : Nat) (w : World) (e : Ending) (w' : World) : Prop :=
  Gr X w w' ∧ ((∃ fr n A', elR tag bs p = (0, fr, n) ∧ e = .returned (.slice A' n n) ∧ BS w' A' ((bs.drop fr).take n) ∧ fr + n ≤ bs.length ∧ Inp w' X A bs c (fr + n)) ∨ (∃ er, elR tag bs p = (er, 0, 0) ∧ er ≠ 0 ∧ e = .panicked [{ v := .iface 25 (.int .i64 er), recovered := false }]))
set_option maxRecDepth 8000 in
set_option maxHeartbeats 3200000 in
theorem contents_any (tag : Int) (X : Nat) (A : Option Addr) (bs : List UInt8) (c p : Nat) (w : World) (h : Inp w X A bs c p) :
    Calls Tryz.prog 118 #[.pointer (some ⟨X, 0, none⟩), .int .i64 tag] w (ContPost tag X A bs c p w) := by
  by_cases hp : p < bs.length
  · have hx := bs[p].toNat_lt
    by_cases ht : (bs[p].toNat : Int) = tag
    · have HR : Hid (elR tag bs p = if (lenR bs (p + 1)).1 = 0 then
          if bs.length < (lenR bs (p + 1)).2.2 + (lenR bs (p + 1)).2.1 then (4, 0, 0) else (0, (lenR bs (p + 1)).2.2, (lenR bs (p + 1)).2.1)
        else ((lenR bs (p + 1)).1, 0, 0)) := by unfold elR; rw [dif_pos hp, if_pos ht]; exact rfl
      have t0 : 0 ≤ tag := by omega
      have t1 : tag < 256 := by omega
      have HT := Lib.hid ht
      clear ht
      go_enter Tryz.func118, Tryz.ntmps118
      go_wp2_with fail
      (go_at_call 129; (with_reducible refine (take1_ok X A bs c p w h hp).mono ?_); rintro e w1 ⟨b, off, rfl, hcell, hi, hg⟩)
      rw [HT.out] at hcell
      go_wp2_with (go_at_call 122; (with_reducible refine (need_t _ _).mono ?_); rintro e w' ⟨rfl, rfl⟩)
      (go_at_call 130; (with_reducible refine (length_any X A bs c (p + 1) w1 hi).mono ?_); rintro e w2 ⟨hg2, ⟨n, p', hr, rfl, hi2⟩ | ⟨er, n, p', hr, hne, rfl⟩⟩)
      · have HR2 : Hid (elR tag bs p = if bs.length < p' + n then (4, 0, 0) else (0, p', n)) := by
          refine HR.out.trans ?_; rw [hr]; exact rfl
        clear hr HR
        by_cases hlt : bs.length < p' + n
        · go_wp2_with (go_at_call 129; (with_reducible refine (take_no X A bs c p' n w2 hi2 hlt).mono ?_); rintro e w' ⟨rfl, k, rfl⟩)
          exact ⟨rfl, (hg.trans hg2).drewN _, .inr ⟨_, HR2.out.trans (if_pos hlt), by decide, rfl⟩⟩
        · go_wp2_with (go_at_call 129; (with_reducible refine (take_ok X A bs c p' n w2 hi2 (by omega)).mono ?_); rintro e w3 ⟨A', rfl, hb3, hi3, hg3⟩)
          go_ret
          exact ⟨(hg.trans hg2).trans hg3, .inl ⟨_, _, _, HR2.out.trans (if_neg hlt), rfl, hb3, by omega, hi3⟩⟩
      · have HR2 : Hid (elR tag bs p = (er, 0, 0)) := by
          refine HR.out.trans ?_; rw [hr, if_neg hne]
        go_wp2
        exact ⟨rfl, hg.trans hg2, .inr ⟨_, HR2.out, hne, rfl⟩⟩
    · have HR : Hid (elR tag bs p = (6, 0, 0)) := by unfold elR; rw [dif_pos hp, if_neg ht]; exact rfl
      have ht1 : ((bs[p].toNat : Int) == tag) = false := by simpa using ht
      clear ht
      generalize hf : bs[p].toNat = f at *
      have HF := Lib.hid hf
      clear hf
      go_enter Tryz.func118, Tryz.ntmps118
      go_wp2_with fail
      (go_at_call 129; (with_reducible refine (take1_ok X A bs c p w h hp).mono ?_); rintro e w' ⟨b, off, rfl, hcell, hi, hg⟩)
      rw [HF.out] at hcell
      go_wp2_with (go_at_call 122; (with_reducible refine (need_f _ _).mono ?_); rintro e w' ⟨rfl, rfl⟩)
      exact ⟨rfl, hg, .inr ⟨_, HR.out, by decide, rfl⟩⟩
  · have HR : Hid (elR tag bs p = (4, 0, 0)) := by unfold elR; rw [dif_neg hp]; exact rfl
    go_enter Tryz.func118, Tryz.ntmps118
    go_wp2_with (go_at_call 129; (with_reducible refine (take_noI X A bs c p 1 _ w h (by omega) (by omega)).mono ?_); rintro e w' ⟨rfl, k, rfl⟩)
    exact ⟨rfl, (Gr.refl _ _).drewN _, .inr ⟨_, HR.out, by decide, rfl⟩⟩
end Go.Proofs.YtdpjkocpdomkbaaGreatDoor
