/- Plain laws of DER: what is written is read, what is read was written so. -/
import Derived.Test.YtdpjkocpdomkbaaGreatDoorDerW
namespace Go.Proofs.YtdpjkocpdomkbaaGreatDoor
open Go.RowKit
theorem numB_snoc (v n : Nat) : numB (v : Int) (n + 1) = numB ((v / 256 : Nat) : Int) n ++ [UInt8.ofNat (v % 256)] := by
  unfold numB
  rw [List.range_succ, List.map_append]
  congr 1
  · apply List.map_congr_left
    intro i hi
    have hi := List.mem_range.1 hi
    unfold byteI
    have e : n + 1 - 1 - i = (n - 1 - i) + 1 := by omega
    have e2 : (2 : Int) ^ (8 * (n - 1 - i + 1)) = ((256 * 2 ^ (8 * (n - 1 - i)) : Nat) : Int) := by
      rw [Nat.mul_add, Int.pow_add, Int.natCast_mul, Int.mul_comm, Int.natCast_pow]
      rfl
    rw [e, e2]
    have e3 : (2 : Int) ^ (8 * (n - 1 - i)) = ((2 ^ (8 * (n - 1 - i)) : Nat) : Int) := (Int.natCast_pow 2 _).symm
    rw [e3, ← Int.natCast_ediv, ← Int.natCast_ediv, Nat.div_div_eq_div_mul]
  · unfold byteI
    have e : n + 1 - 1 - n = 0 := by omega
    rw [List.map_cons, List.map_nil, e]
    congr 2
    simp
    omega
theorem numB_beN (l : List UInt8) : numB (beN l : Int) l.length = l := by
  have key : ∀ (m : List UInt8), numB (beN m.reverse : Int) m.reverse.length = m.reverse := by
    intro m
    induction m with
    | nil => rfl
    | cons c m ih =>
      rw [List.reverse_cons, beN_snoc, List.length_append, List.length_singleton, numB_snoc]
      have hc := c.toNat_lt
      have e1 : (beN m.reverse * 256 + c.toNat) / 256 = beN m.reverse := by omega
      have e2 : (beN m.reverse * 256 + c.toNat) % 256 = c.toNat := by omega
      rw [e1, e2, ih, UInt8.ofNat_toNat]
  have := key l.reverse
  rwa [List.reverse_reverse] at this
theorem beN_numB : ∀ (k v : Nat), v < 256 ^ k → beN (numB (v : Int) k) = v := by
  intro k
  induction k with
  | zero => intro v hv; simp at hv; subst hv; rfl
  | succ k ih =>
    intro v hv
    rw [numB_snoc, beN_snoc, ih (v / 256) (by rw [Nat.pow_succ] at hv; omega), UInt8.toNat_ofNat']
    omega
theorem lenK_len (n : Nat) : (lenB n).length = if n < 128 then 1 else 1 + lenK n := by
  unfold lenB
  split
  · rfl
  · rw [List.length_cons, numB_len]; omega
/-- A length in front of something, read. -/
theorem lenR_at (pre post : List UInt8) (n : Nat) (hn : n < 16777216) : lenR (pre ++ (lenB n ++ post)) pre.length = (0, n, pre.length + (lenB n).length) := by
  have hg : ∀ (h : pre.length < (pre ++ (lenB n ++ post)).length), (pre ++ (lenB n ++ post))[pre.length] = (lenB n ++ post)[0]'(by simp at h ⊢; omega) := by
    intro h; rw [List.getElem_append_right (Nat.le_refl _)]; congr 1; omega
  have hl := lenK_len n
  have hp : pre.length < (pre ++ (lenB n ++ post)).length := by
    simp only [List.length_append]; rw [hl]; split <;> omega
  unfold lenR
  rw [dif_pos hp, hg hp]
  by_cases h : n < 128
  · have e : lenB n = [UInt8.ofNat n] := by unfold lenB; rw [if_pos h]
    simp only [e, List.cons_append, List.getElem_cons_zero, u8_of n (by omega), if_pos h, List.length_singleton]
  · have e : lenB n = UInt8.ofNat (128 + lenK n) :: numB n (lenK n) := by unfold lenB; rw [if_neg h]
    have hk : 1 ≤ lenK n ∧ lenK n ≤ 3 ∧ n < 256 ^ lenK n ∧ (lenK n = 1 ∨ 256 ^ (lenK n - 1) ≤ n) := by
      unfold lenK; split
      · exact ⟨by omega, by omega, by omega, .inl rfl⟩
      · split
        · exact ⟨by omega, by omega, by omega, .inr (by omega)⟩
        · exact ⟨by omega, by omega, by omega, .inr (by omega)⟩
    obtain ⟨hk1, hk2, hk3, hk4⟩ := hk
    have hd : (pre ++ (lenB n ++ post)).drop (pre.length + 1) = numB n (lenK n) ++ post := by
      rw [e, ← List.drop_drop, List.drop_left]; rfl
    have ht : ((numB n (lenK n)) ++ post).take (lenK n) = numB n (lenK n) := by rw [List.take_left' (numB_len _ _)]
    have hL : (pre ++ (lenB n ++ post)).length = pre.length + (1 + lenK n + post.length) := by simp only [List.length_append]; rw [hl, if_neg h]
    have e0 : ((lenB n ++ post)[0]'(by simp at hp ⊢; omega)).toNat = 128 + lenK n := by simp only [e, List.cons_append, List.getElem_cons_zero]; exact u8_of _ (by omega)
    rw [e0, hL, hd]
    have e1 : 128 + lenK n - 128 = lenK n := by omega
    have e2 : 128 + lenK n - 129 = lenK n - 1 := by omega
    rw [e1, e2, ht, beN_numB _ _ hk3, if_neg (by omega), if_neg (by omega), if_neg (by omega), if_neg (by rcases hk4 with h1 | h1; rw [h1]; simp; omega; omega)]
    rw [hl, if_neg h]
    simp only [Nat.add_assoc]
/-- What is read as a length was written so. -/
theorem lenR_inv {bs : List UInt8} {p n q : Nat} (h : lenR bs p = (0, n, q)) : q = p + (lenB n).length ∧ n < 16777216 ∧ bs.drop p = lenB n ++ bs.drop q := by
  unfold lenR at h
  split at h
  · rename_i hp
    have hd : bs.drop p = bs[p] :: bs.drop (p + 1) := List.drop_eq_getElem_cons hp
    split at h
    · rename_i h1
      simp only [Prod.mk.injEq, true_and] at h
      obtain ⟨rfl, rfl⟩ := h
      have e : lenB bs[p].toNat = [bs[p]] := by unfold lenB; rw [if_pos h1, UInt8.ofNat_toNat]
      rw [e]
      exact ⟨rfl, by omega, hd⟩
    · split at h
      · simp at h
      · split at h
        · simp at h
        · split at h
          · simp at h
          · rename_i h1 h2 h3 h4
            simp only [Prod.mk.injEq, true_and] at h
            obtain ⟨hn, rfl⟩ := h
            obtain ⟨k, hk⟩ : ∃ k, bs[p].toNat = 128 + k := ⟨bs[p].toNat - 128, by omega⟩
            rw [hk] at hn h2 h3 h4 ⊢
            have e1 : 128 + k - 128 = k := by omega
            have e2 : 128 + k - 129 = k - 1 := by omega
            rw [e1] at hn h3 h4 ⊢
            rw [e2] at h4
            have hlen : ((bs.drop (p + 1)).take k).length = k := by rw [List.length_take, List.length_drop]; omega
            have hlt := beN_lt ((bs.drop (p + 1)).take k)
            have hnb := numB_beN ((bs.drop (p + 1)).take k)
            rw [hlen] at hlt hnb
            rw [hn] at h4 hlt hnb
            have hk3 : k = 1 ∨ k = 2 ∨ k = 3 := by omega
            have hK : lenK n = k ∧ n < 16777216 := by
              unfold lenK
              rcases hk3 with rfl | rfl | rfl
              · exact ⟨if_pos (by omega), by omega⟩
              · exact ⟨by rw [if_neg (by omega), if_pos (by omega)], by omega⟩
              · exact ⟨by rw [if_neg (by omega), if_neg (by omega)], by omega⟩
            have e : lenB n = bs[p] :: (bs.drop (p + 1)).take k := by
              unfold lenB
              rw [if_neg (by omega), hK.1, hnb, ← hk, UInt8.ofNat_toNat]
            refine ⟨by rw [e, List.length_cons, hlen]; omega, hK.2, ?_⟩
            rw [e, hd, List.cons_append]
            have hdd : bs.drop (p + 1 + k) = (bs.drop (p + 1)).drop k := by rw [List.drop_drop]
            rw [hdd, List.take_append_drop]
  · simp at h
theorem elB_len (tag : Nat) (bs : List UInt8) : (elB tag bs).length = 1 + (lenB bs.length).length + bs.length := by
  unfold elB; simp; omega
/-- An element in front of something, read. -/
theorem elR_at (tag : Nat) (ht : tag < 256) (pre body post : List UInt8) (hb : body.length < 16777216) : elR (tag : Int) (pre ++ (elB tag body ++ post)) pre.length = (0, pre.length + 1 + (lenB body.length).length, body.length) := by
  have hL : (pre ++ (elB tag body ++ post)).length = pre.length + (1 + (lenB body.length).length + body.length + post.length) := by rw [List.length_append, List.length_append, elB_len]
  have hp : pre.length < (pre ++ (elB tag body ++ post)).length := by omega
  have e0 : ((pre ++ (elB tag body ++ post))[pre.length]).toNat = tag := by
    rw [List.getElem_append_right (Nat.le_refl _)]
    simp only [Nat.sub_self]
    unfold elB
    simp only [List.cons_append, List.nil_append, List.getElem_cons_zero]
    exact u8_of tag ht
  have er : lenR (pre ++ (elB tag body ++ post)) (pre.length + 1) = (0, body.length, pre.length + 1 + (lenB body.length).length) := by
    have h := lenR_at (pre ++ [UInt8.ofNat tag]) (body ++ post) body.length hb
    rw [List.length_append, List.length_singleton] at h
    rw [← h]
    unfold elB
    simp
  unfold elR
  rw [dif_pos hp, e0, if_pos rfl, er]
  simp only [if_pos]
  rw [if_neg (by omega)]
/-- What is read as an element was written so. -/
theorem elR_inv {tag : Nat} {bs : List UInt8} {p fr n : Nat} (h : elR (tag : Int) bs p = (0, fr, n)) : fr = p + 1 + (lenB n).length ∧ n < 16777216 ∧ fr + n ≤ bs.length ∧ ((bs.drop fr).take n).length = n ∧ bs.drop p = elB tag ((bs.drop fr).take n) ++ bs.drop (fr + n) := by
  unfold elR at h
  split at h
  · rename_i hp
    have hd : bs.drop p = bs[p] :: bs.drop (p + 1) := List.drop_eq_getElem_cons hp
    split at h
    · rename_i ht
      rcases hl : lenR bs (p + 1) with ⟨er, m, q⟩
      rw [hl] at h
      simp only at h
      split at h
      · rename_i he
        subst he
        split at h
        · simp at h
        · rename_i hlt
          simp only [Prod.mk.injEq, true_and] at h
          obtain ⟨rfl, rfl⟩ := h
          obtain ⟨h1, h2, h3⟩ := lenR_inv hl
          have hlen : ((bs.drop q).take m).length = m := by rw [List.length_take, List.length_drop]; omega
          refine ⟨h1, h2, by omega, hlen, ?_⟩
          unfold elB
          rw [hlen, hd, h3]
          have hb : UInt8.ofNat tag = bs[p] := by
            have : bs[p].toNat = tag := by omega
            rw [← this, UInt8.ofNat_toNat]
          have hdd : bs.drop (q + m) = (bs.drop q).drop m := by rw [List.drop_drop]
          have hta := List.take_append_drop m (bs.drop q)
          rw [← hdd] at hta
          rw [hb]
          simp only [List.cons_append, List.nil_append, List.append_assoc]
          rw [hta]
      · simp only [Prod.mk.injEq] at h
        rename_i he
        exact absurd h.1 he
    · simp at h
  · simp at h
end Go.Proofs.YtdpjkocpdomkbaaGreatDoor
