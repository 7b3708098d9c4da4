/- Plain laws of lifetime's encoding: what is written is read, and the other way round. -/
import Derived.Test.YtdpjkocpdomkbaaGreatDoorPlainDer
import Derived.Test.YtdpjkocpdomkbaaGreatDoorLifeD
import Derived.Test.YtdpjkocpdomkbaaGreatDoorLifeE
namespace Go.Proofs.YtdpjkocpdomkbaaGreatDoor
open Go.RowKit
theorem el_body (tag : Nat) (pre body post : List UInt8) : ((pre ++ (elB tag body ++ post)).drop (pre.length + 1 + (lenB body.length).length)).take body.length = body := by
  have e : pre ++ (elB tag body ++ post) = (pre ++ [UInt8.ofNat tag] ++ lenB body.length) ++ (body ++ post) := by unfold elB; simp
  have l : pre.length + 1 + (lenB body.length).length = (pre ++ [UInt8.ofNat tag] ++ lenB body.length).length := by simp; omega
  rw [e, l, List.drop_left, List.take_left]
theorem len1 (n : Nat) (h : n < 128) : (lenB n).length = 1 := by rw [lenK_len, if_pos h]
theorem timeB_of (v : Nat) : timeB (v : Int) = elB 24 (numB (v : Int) 6) := rfl
theorem timeR_at (pre post : List UInt8) (v : Nat) (hv : v ≤ 1099511627776) : timeR (pre ++ (timeB (v : Int) ++ post)) pre.length = (0, v, pre.length + 8) := by
  have h := elR_at 24 (by decide) pre (numB (v : Int) 6) post (by rw [numB_len]; decide)
  have hb := el_body 24 pre (numB (v : Int) 6) post
  rw [timeB_of]
  rw [numB_len, len1 _ (by decide)] at h hb
  unfold timeR
  rw [show ((24 : Nat) : Int) = 24 by rfl] at h
  rw [h]
  simp only [if_pos]
  rw [hb, beN_numB 6 v (by omega), if_pos ⟨trivial, hv⟩]
theorem timeR_inv {bs : List UInt8} {p v q : Nat} (h : timeR bs p = (0, v, q)) : v ≤ 1099511627776 ∧ q = p + 8 ∧ q ≤ bs.length ∧ bs.drop p = timeB (v : Int) ++ bs.drop q := by
  unfold timeR at h
  rcases hE : elR 24 bs p with ⟨er, fr, n⟩
  rw [hE] at h
  simp only at h
  split at h
  · rename_i he
    subst he
    split at h
    · rename_i h6
      obtain ⟨rfl, h6⟩ := h6
      simp only [Prod.mk.injEq, true_and] at h
      obtain ⟨rfl, rfl⟩ := h
      obtain ⟨e1, e2, e3, e4, e5⟩ := elR_inv (tag := 24) hE
      rw [len1 _ (by decide)] at e1
      refine ⟨h6, by omega, e3, ?_⟩
      rw [timeB_of]
      have hn := numB_beN ((bs.drop fr).take 6)
      rw [e4] at hn
      rw [hn, e5]
    · simp at h
  · rename_i he
    simp only [Prod.mk.injEq] at h
    exact absurd h.1 he
theorem timeB_len8 (v : Nat) : (timeB (v : Int)).length = 8 := timeB_len _
theorem elT_len (T v : Nat) : (elB T (timeB (v : Int))).length = 10 := by rw [elB_len, timeB_len8, len1 _ (by decide)]
theorem oneR_at (k : Int) (T : Nat) (hk : 160 + k = (T : Int)) (hT : T < 256) (needed : Bool) (pre post : List UInt8) (v : Nat) (hv : v ≤ 1099511627776) (hn : needed = true ∨ v ≠ 0) : oneR k needed (pre ++ (elB T (timeB (v : Int)) ++ post)) pre.length = (0, v, pre.length + 10) := by
  have h := elR_at T hT pre (timeB (v : Int)) post (by rw [timeB_len8]; decide)
  have hb := el_body T pre (timeB (v : Int)) post
  rw [timeB_len8, len1 _ (by decide)] at h hb
  have htag : hasTag (T : Int) (pre ++ (elB T (timeB (v : Int)) ++ post)) pre.length = true := by
    have hp : pre.length < (pre ++ (elB T (timeB (v : Int)) ++ post)).length := by rw [List.length_append, List.length_append, elT_len]; omega
    rw [hasTag_at _ _ _ hp, decide_eq_true_eq]
    rw [List.getElem_append_right (Nat.le_refl _)]
    simp only [Nat.sub_self]
    unfold elB
    simp only [List.cons_append, List.nil_append, List.getElem_cons_zero]
    rw [u8_of T hT]
  have ht := timeR_at [] [] v hv
  rw [List.nil_append, List.append_nil, List.length_nil] at ht
  unfold oneR
  rw [hk, htag, if_neg (by simp), h]
  simp only [if_pos]
  rw [hb, ht]
  simp only [if_pos]
  rw [if_pos ⟨trivial, hn⟩]
theorem oneR_inv {k : Int} {T : Nat} (hk : 160 + k = (T : Int)) {needed : Bool} {bs : List UInt8} {p v q : Nat} (h : oneR k needed bs p = (0, v, q)) : v ≤ 1099511627776 ∧ ((q = p ∧ v = 0 ∧ needed = false) ∨ (q ≤ bs.length ∧ (needed = true ∨ v ≠ 0) ∧ bs.drop p = elB T (timeB (v : Int)) ++ bs.drop q)) := by
  unfold oneR at h
  rw [hk] at h
  split at h
  · rename_i h1
    simp only [Prod.mk.injEq, true_and] at h
    obtain ⟨rfl, rfl⟩ := h
    exact ⟨Nat.zero_le _, .inl ⟨rfl, rfl, h1.2⟩⟩
  · rcases hE : elR (T : Int) bs p with ⟨er, fr, n⟩
    rw [hE] at h
    simp only at h
    split at h
    · rename_i he
      subst he
      obtain ⟨e1, e2, e3, e4, e5⟩ := elR_inv hE
      rcases ht : timeR ((bs.drop fr).take n) 0 with ⟨er, v', q'⟩
      rw [ht] at h
      simp only at h
      split at h
      · rename_i he
        subst he
        split at h
        · rename_i h2
          simp only [Prod.mk.injEq, true_and] at h
          obtain ⟨rfl, rfl⟩ := h
          obtain ⟨t1, t2, t3, t4⟩ := timeR_inv ht
          refine ⟨t1, .inr ⟨e3, h2.2, ?_⟩⟩
          rw [List.drop_zero] at t4
          have hz : ((bs.drop fr).take n).drop q' = [] := List.drop_eq_nil_of_le (by rw [e4]; omega)
          rw [hz, List.append_nil] at t4
          rw [e5, t4]
        · simp at h
      · rename_i he
        simp only [Prod.mk.injEq] at h
        exact absurd h.1 he
    · rename_i he
      simp only [Prod.mk.injEq] at h
      exact absurd h.1 he
theorem parts_enc (a s t r : Nat) (hv : validT a s t r = true) (fr : Nat) : let sub := elB 160 (timeB (a : Int)) ++ (elB 161 (timeB (s : Int)) ++ (elB 162 (timeB (t : Int)) ++ if (r : Int) = 0 then [] else elB 163 (timeB (r : Int))))
    partsR sub fr sub.length = (0, (a, s, t, r), fr + sub.length) := by
  obtain ⟨⟨_, ha⟩, ⟨_, hs⟩, ⟨_, ht⟩, ⟨_, hr⟩, _⟩ := validT_true hv
  intro sub
  have h1 := oneR_at 0 160 rfl (by decide) true [] (elB 161 (timeB (s : Int)) ++ (elB 162 (timeB (t : Int)) ++ if (r : Int) = 0 then [] else elB 163 (timeB (r : Int)))) a (by omega) (.inl rfl)
  have h2 := oneR_at 1 161 rfl (by decide) true (elB 160 (timeB (a : Int))) (elB 162 (timeB (t : Int)) ++ if (r : Int) = 0 then [] else elB 163 (timeB (r : Int))) s (by omega) (.inl rfl)
  have h3 := oneR_at 2 162 rfl (by decide) true (elB 160 (timeB (a : Int)) ++ elB 161 (timeB (s : Int))) (if (r : Int) = 0 then [] else elB 163 (timeB (r : Int))) t (by omega) (.inl rfl)
  rw [List.nil_append, List.length_nil] at h1
  rw [elT_len] at h2
  rw [List.length_append, elT_len, elT_len, List.append_assoc] at h3
  have hl : sub.length = if (r : Int) = 0 then 30 else 40 := by
    have e : sub = elB 160 (timeB (a : Int)) ++ (elB 161 (timeB (s : Int)) ++ (elB 162 (timeB (t : Int)) ++ if (r : Int) = 0 then [] else elB 163 (timeB (r : Int)))) := rfl
    rw [e, List.length_append, List.length_append, List.length_append, elT_len, elT_len, elT_len]
    split
    · rfl
    · rw [elT_len]
  have h4 : oneR 3 false sub 30 = (0, r, sub.length) := by
    rw [hl]
    by_cases h0 : (r : Int) = 0
    · rw [if_pos h0]
      have hz : r = 0 := by omega
      subst hz
      unfold oneR
      rw [if_pos ⟨hasTag_end _ _ _ (by rw [hl, if_pos h0]; decide), rfl⟩]
    · rw [if_neg h0]
      have h := oneR_at 3 163 rfl (by decide) false (elB 160 (timeB (a : Int)) ++ (elB 161 (timeB (s : Int)) ++ elB 162 (timeB (t : Int)))) [] r (by omega) (.inr (by omega))
      rw [List.length_append, List.length_append, elT_len, elT_len, elT_len] at h
      have e : sub = elB 160 (timeB (a : Int)) ++ (elB 161 (timeB (s : Int)) ++ elB 162 (timeB (t : Int))) ++ (elB 163 (timeB (r : Int)) ++ []) := by
        show _ ++ (_ ++ (_ ++ _)) = _
        rw [if_neg h0]; simp
      rw [e]
      exact h
  unfold partsR
  rw [bindR_ok h1, bindR_ok h2, bindR_ok h3, bindR_ok h4, if_pos ⟨rfl, hv⟩]
theorem dec_enc {a s t r : Nat} (hv : validT a s t r = true) : decodeR (encB a s t r) = ((a, s, t, r), 0) := by
  have hp := parts_enc a s t r hv
  have hl30 : (elB 160 (timeB (a : Int)) ++ (elB 161 (timeB (s : Int)) ++ (elB 162 (timeB (t : Int)) ++ if (r : Int) = 0 then [] else elB 163 (timeB (r : Int))))).length < 16777216 := by
    rw [List.length_append, List.length_append, List.length_append, elT_len, elT_len, elT_len]
    split
    · decide
    · rw [elT_len]; decide
  have he : encB a s t r = elB 48 (elB 160 (timeB (a : Int)) ++ (elB 161 (timeB (s : Int)) ++ (elB 162 (timeB (t : Int)) ++ if (r : Int) = 0 then [] else elB 163 (timeB (r : Int))))) := rfl
  rw [he]
  generalize (elB 160 (timeB (a : Int)) ++ (elB 161 (timeB (s : Int)) ++ (elB 162 (timeB (t : Int)) ++ if (r : Int) = 0 then [] else elB 163 (timeB (r : Int))))) = sub at *
  have h := elR_at 48 (by decide) [] sub [] hl30
  have hb := el_body 48 [] sub []
  rw [List.nil_append, List.append_nil, List.length_nil] at h hb
  have hq : bodyR (elB 48 sub) 0 = (0, (a, s, t, r), 0 + 1 + (lenB sub.length).length + sub.length) := by
    unfold bodyR
    rw [show ((48 : Nat) : Int) = 48 by rfl] at h
    rw [bindR_ok h, hb]
    exact hp _
  rw [decodeR_ok hq, if_neg (by rw [elB_len]; omega)]
theorem bindR_inv {α : Type} {x : Int × Nat × Nat} {f : Nat → Nat → Int × α × Nat} {z y : α} {q : Nat} (h : bindR x f z = (0, y, q)) : ∃ v m, x = (0, v, m) ∧ f v m = (0, y, q) := by
  obtain ⟨er, v, m⟩ := x
  unfold bindR at h
  split at h
  · rename_i he
    simp only at he
    subst he
    exact ⟨v, m, rfl, h⟩
  · rename_i he
    simp only [Prod.mk.injEq] at h
    exact absurd h.1 he
theorem enc_dec {bs : List UInt8} {a s t r : Nat} (h : decodeR bs = ((a, s, t, r), 0)) : validT a s t r = true ∧ encB a s t r = bs := by
  unfold decodeR at h
  rcases hb : bodyR bs 0 with ⟨er, x, q⟩
  rw [hb] at h
  simp only at h
  split at h
  · rename_i he
    subst he
    split at h
    · simp at h
    · rename_i hq
      simp only [Prod.mk.injEq, and_true] at h
      subst h
      unfold bodyR at hb
      obtain ⟨fr, n, hE, hp⟩ := bindR_inv hb
      obtain ⟨e1, e2, e3, e4, e5⟩ := elR_inv (tag := 48) hE
      unfold partsR at hp
      obtain ⟨a', q1, h1, hp⟩ := bindR_inv hp
      obtain ⟨s', q2, h2, hp⟩ := bindR_inv hp
      obtain ⟨t', q3, h3, hp⟩ := bindR_inv hp
      obtain ⟨r', q4, h4, hp⟩ := bindR_inv hp
      split at hp
      · rename_i h5
        simp only [Prod.mk.injEq, true_and] at hp
        obtain ⟨⟨rfl, rfl, rfl, rfl⟩, rfl⟩ := hp
        obtain ⟨rfl, hv⟩ := h5
        refine ⟨hv, ?_⟩
        generalize hsub : (bs.drop fr).take q4 = sub at *
        obtain ⟨_, (⟨_, _, hc⟩ | ⟨_, _, i1⟩)⟩ := oneR_inv (T := 160) rfl h1
        · cases hc
        obtain ⟨_, (⟨_, _, hc⟩ | ⟨_, _, i2⟩)⟩ := oneR_inv (T := 161) rfl h2
        · cases hc
        obtain ⟨_, (⟨_, _, hc⟩ | ⟨_, _, i3⟩)⟩ := oneR_inv (T := 162) rfl h3
        · cases hc
        have i4 : sub.drop q3 = if (r' : Int) = 0 then [] else elB 163 (timeB (r' : Int)) := by
          obtain ⟨_, (⟨hc, hz, _⟩ | ⟨_, hz, i4⟩)⟩ := oneR_inv (T := 163) rfl h4
          · subst hz hc
            rw [if_pos (by rfl)]
            exact List.drop_eq_nil_of_le (by omega)
          · rw [if_neg (by rcases hz with hz | hz; cases hz; omega), i4, List.drop_eq_nil_of_le (show sub.length ≤ q4 by omega), List.append_nil]
        rw [List.drop_zero] at i1 e5
        rw [i2, i3, i4] at i1
        rw [List.drop_eq_nil_of_le (show bs.length ≤ fr + q4 by omega), List.append_nil] at e5
        rw [e5, i1]
        rfl
      · simp at hp
  · rename_i he
    simp only [Prod.mk.injEq] at h
    exact absurd h.2 he
end Go.Proofs.YtdpjkocpdomkbaaGreatDoor
