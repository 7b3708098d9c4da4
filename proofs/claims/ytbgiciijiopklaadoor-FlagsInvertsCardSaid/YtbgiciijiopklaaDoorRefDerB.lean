/- Contracts of the reference's reading: Read. Bytes of at most 2^47. -/
import Derived.Test.YtbgiciijiopklaaDoorRefDerA
namespace Go.Proofs.YtbgiciijiopklaaDoor
open Go.RowKit
theorem lenR_cases (bs : List UInt8) (p : Nat) : (∃ er, lenR bs p = (er, 0, 0) ∧ er ≠ 0) ∨ (∃ n q, lenR bs p = (0, n, q) ∧ p < q ∧ q ≤ bs.length ∧ n < 281474976710656) := by
  by_cases hp : p < bs.length
  · have hx := bs[p].toNat_lt
    have hd : lenR bs p = if bs[p].toNat < 128 then (0, bs[p].toNat, p + 1) else if bs[p].toNat < 129 ∨ 131 < bs[p].toNat then (6, 0, 0)
      else if bs.length < p + 1 + (bs[p].toNat - 128) then (4, 0, 0)
      else if beN ((bs.drop (p + 1)).take (bs[p].toNat - 128)) < 128 ∨ beN ((bs.drop (p + 1)).take (bs[p].toNat - 128)) < 256 ^ (bs[p].toNat - 129) then (6, 0, 0)
      else (0, beN ((bs.drop (p + 1)).take (bs[p].toNat - 128)), p + 1 + (bs[p].toNat - 128)) := by unfold lenR; rw [dif_pos hp]
    generalize bs[p].toNat = x at *
    by_cases h1 : x < 128
    · exact .inr ⟨x, p + 1, hd.trans (if_pos h1), Nat.lt_succ_self _, hp, by omega⟩
    · have hd := hd.trans (if_neg h1)
      by_cases h2 : x < 129 ∨ 131 < x
      · exact .inl ⟨6, hd.trans (if_pos h2), by decide⟩
      · have hd := hd.trans (if_neg h2)
        by_cases h3 : bs.length < p + 1 + (x - 128)
        · exact .inl ⟨4, hd.trans (if_pos h3), by decide⟩
        · have hd := hd.trans (if_neg h3)
          have hlt := beN_drop_lt bs (p + 1) (x - 128) (by omega)
          generalize beN ((bs.drop (p + 1)).take (x - 128)) = v at *
          generalize 256 ^ (x - 129) = y at *
          by_cases h4 : v < 128 ∨ v < y
          · exact .inl ⟨6, hd.trans (if_pos h4), by decide⟩
          · exact .inr ⟨v, _, hd.trans (if_neg h4), by omega, by omega, hlt⟩
  · exact .inl ⟨4, by unfold lenR; rw [dif_neg hp], by decide⟩
theorem lenR_ok {bs : List UInt8} {p n q : Nat} (h : lenR bs p = (0, n, q)) : p < q ∧ q ≤ bs.length ∧ n < 281474976710656 := by
  rcases lenR_cases bs p with ⟨er, h1, hne⟩ | ⟨n', q', h1, h2, h3, h4⟩
  · rw [h1] at h; injection h with h _; exact absurd h hne
  · rw [h1] at h; injection h with _ h; injection h with e1 e2; subst e1 e2; exact ⟨h2, h3, h4⟩
theorem lenR_no {bs : List UInt8} {p n q : Nat} {er : Int} (h : lenR bs p = (er, n, q)) (hne : er ≠ 0) : n = 0 ∧ q = 0 := by
  rcases lenR_cases bs p with ⟨er', h1, _⟩ | ⟨n', q', h1, _⟩
  · rw [h1] at h; injection h with _ h; injection h with e1 e2; exact ⟨e1.symm, e2.symm⟩
  · rw [h1] at h; injection h with e0 _; exact absurd e0.symm hne
theorem rLength_z (A : Option Addr) (bs : List UInt8) (L c p : Nat) (z : Int) (w : World) (hB : BSw w A bs) (hL : bs.length = L) (hb : L ≤ 140737488355328) (hz : z = p) {er : Int} {n q : Nat} (h : lenR bs p = (er, n, q)) :
    Calls Tryd.prog 91 #[.slice A L c, .int .i64 z] w fun e w' => e = .returned (.tuple #[.int .i64 (n : Int), .int .i64 (q : Int), .int .i64 er]) ∧ w = w' := by
  subst hz
  refine (rLength_any A bs L c p w hB hL hb).mono fun e w' hp => ?_
  unfold LengthPost at hp; rw [h] at hp; exact hp
theorem BSw.sub2 {w : World} {A : Option Addr} {bs : List UInt8} (h : BSw w A bs) (p n c : Nat) (hp : p + n ≤ bs.length) (hc : bs.length ≤ c) : BSw w (if c = p then A else A.map (fun x => x.add p)) ((bs.drop p).take n) := by
  by_cases h0 : n = 0
  · subst h0; simpa using BSw.nil _ _
  · have := h.sub p n hp
    rw [if_neg (by omega), Nat.mul_one] at this
    rw [if_neg (by omega)]
    exact this
theorem BSw.sub3 {w : World} {b off : Nat} {bs : List UInt8} (h : BSw w (some ⟨b, off, none⟩) bs) (p n : Nat) (hp : p + n ≤ bs.length) : BSw w (some ⟨b, off + p, none⟩) ((bs.drop p).take n) := by
  by_cases h0 : n = 0
  · subst h0; simpa using BSw.nil _ _
  · have h1 := h.sub p n hp
    rw [if_neg (by omega), Nat.mul_one] at h1
    by_cases hp0 : p = 0
    · subst hp0; simpa [Addr.add] using h1
    · simpa [Addr.add, hp0] using h1
def RReadPost (tag : Int) (bs : List UInt8) (p : Nat) (w : World) (e : Ending) (w' : World) : Prop :=
  w = w' ∧ ((∃ fr n A' c', elR tag bs p = (0, fr, n) ∧ e = .returned (.tuple #[.slice A' n c', .int .i64 ((fr : Int) + n), .int .i64 0]) ∧ BSw w A' ((bs.drop fr).take n) ∧ n ≤ c' ∧ fr + n ≤ bs.length) ∨
    (∃ er, elR tag bs p = (er, 0, 0) ∧ er ≠ 0 ∧ e = .returned (.tuple #[.slice none 0 0, .int .i64 (p : Int), .int .i64 er])))
set_option maxRecDepth 8000 in
set_option maxHeartbeats 3200000 in
theorem rRead_any (tag : Int) (A : Option Addr) (bs : List UInt8) (L c p : Nat) (w : World) (hB : BSw w A bs) (hL : bs.length = L) (hb : L ≤ 140737488355328) (hcap : L ≤ c) (_ht : 0 ≤ tag) :
    Calls Tryd.prog 81 #[.slice A L c, .int .i64 (p : Int), .int .i64 tag] w (RReadPost tag bs p w) := by
  by_cases hp : p < bs.length
  · obtain ⟨b, off, hA, hc⟩ := hB.at_ hp
    have hcell := hc p hp
    have hx := bs[p].toNat_lt
    have hpL : (p : Int) < (L : Int) := by omega
    have hp0 : (0 : Int) ≤ (p : Int) := by omega
    have hdef : elR tag bs p = if (bs[p].toNat : Int) = tag then if (lenR bs (p + 1)).1 = 0 then if bs.length < (lenR bs (p + 1)).2.2 + (lenR bs (p + 1)).2.1 then (4, 0, 0) else (0, (lenR bs (p + 1)).2.2, (lenR bs (p + 1)).2.1) else ((lenR bs (p + 1)).1, 0, 0) else (6, 0, 0) := by
      unfold elR; rw [dif_pos hp]
    generalize bs[p].toNat = x at *
    have HD := Lib.hid hdef
    have HB := Lib.hid hB
    have HL := Lib.hid hL
    clear hdef hc hB hL hp
    by_cases htag : (x : Int) = tag
    · rcases hlr : lenR bs (p + 1) with ⟨er, n, q⟩
      have HD2 := HD.out.trans (if_pos htag)
      rw [hlr] at HD2
      by_cases he : er = 0
      · subst he
        have hok := lenR_ok hlr
        have HE : Hid (elR tag bs p = if bs.length < q + n then (4, 0, 0) else (0, q, n)) := HD2
        have HLR := Lib.hid hlr
        have d0 : ((x : Int) != tag) = false := by simpa using htag
        have hq : q ≤ L := by rw [← HL.out]; exact hok.2.1
        obtain ⟨_, _, hn⟩ := hok
        clear HD2 HD hlr
        by_cases hlt : L < q + n
        · have d1 : ((L : Int) < (q : Int) + n) := by omega
          clear htag
          subst hA
          go_enter Tryd.func81, Tryd.ntmps81
          go_wp2_with (go_at_call 91; (with_reducible refine (rLength_z _ bs L c (p + 1) _ w HB.out HL.out hb (by omega) HLR.out).mono ?_); rintro e w' ⟨rfl, rfl⟩)
          go_ret3
          exact ⟨rfl, .inr ⟨_, HE.out.trans (if_pos (by rw [HL.out]; exact hlt)), by decide, rfl⟩⟩
        · have d1 : ¬ ((L : Int) < (q : Int) + n) := by omega
          have e1 : (0 : Int) ≤ (q : Int) := by omega
          have e2 : (q : Int) ≤ (q : Int) + n := by omega
          have e3 : (q : Int) + n ≤ (c : Int) := by omega
          clear htag
          subst hA
          have HE2 := Lib.hid (HE.out.trans (if_neg (by rw [HL.out]; exact hlt)))
          by_cases hcq : c = q
          · have h0 : n = 0 := by omega
            subst h0 hcq
            go_enter Tryd.func81, Tryd.ntmps81
            go_wp2_with (go_at_call 91; (with_reducible refine (rLength_z _ bs L c (p + 1) _ w HB.out HL.out hb (by omega) HLR.out).mono ?_); rintro e w' ⟨rfl, rfl⟩)
            go_ret3
            exact ⟨rfl, .inl ⟨_, _, _, _, HE2.out, rfl, by simpa using BSw.nil _ _, Nat.zero_le _, by rw [HL.out]; omega⟩⟩
          · have HS := Lib.hid (HB.out.sub3 q n (by rw [HL.out]; omega))
            go_enter Tryd.func81, Tryd.ntmps81
            go_wp2_with (go_at_call 91; (with_reducible refine (rLength_z _ bs L c (p + 1) _ w HB.out HL.out hb (by omega) HLR.out).mono ?_); rintro e w' ⟨rfl, rfl⟩)
            go_ret3
            rw [show q + n - q = n by omega]; exact ⟨rfl, .inl ⟨q, n, some ⟨b, off + q, none⟩, c - q, HE2.out, rfl, HS.out, by omega, by rw [HL.out]; omega⟩⟩
      · have hno := lenR_no hlr he
        obtain ⟨rfl, rfl⟩ := hno
        have HE : Hid (elR tag bs p = (er, 0, 0)) := HD2.trans (if_neg he)
        have HLR := Lib.hid hlr
        have d0 : ((x : Int) != tag) = false := by simpa using htag
        have d1 : ((er : Int) != 0) = true := by simpa using he
        have HN := Lib.hid he
        clear htag HD HD2 hlr he
        subst hA
        go_enter Tryd.func81, Tryd.ntmps81
        go_wp2_with (go_at_call 91; (with_reducible refine (rLength_z _ bs L c (p + 1) _ w HB.out HL.out hb (by omega) HLR.out).mono ?_); rintro e w' ⟨rfl, rfl⟩)
        go_ret3
        exact ⟨rfl, .inr ⟨_, HE.out, HN.out, rfl⟩⟩
    · have HE : Hid (elR tag bs p = (6, 0, 0)) := HD.out.trans (if_neg htag)
      have d0 : ((x : Int) != tag) = true := by simpa using htag
      clear HD htag
      subst hA
      go_enter Tryd.func81, Tryd.ntmps81
      go_wp2
      go_ret3
      exact ⟨rfl, .inr ⟨_, HE.out, by decide, rfl⟩⟩
  · have HE : Hid (elR tag bs p = (4, 0, 0)) := by unfold elR; rw [dif_neg hp]; exact rfl
    have d1 : (L : Int) ≤ (p : Int) := by omega
    clear hB hL
    go_enter Tryd.func81, Tryd.ntmps81
    go_wp2
    go_ret3
    exact ⟨rfl, .inr ⟨_, HE.out, by decide, rfl⟩⟩
end Go.Proofs.YtbgiciijiopklaaDoor
