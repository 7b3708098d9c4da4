/- Plain laws: both parses of times answer alike; Parse inverts Text. -/
import Derived.Test.YtdpjkocpdomkbaaGreatDoorParse13
import Derived.Test.YtdpjkocpdomkbaaGreatDoorConv
namespace Go.Proofs.YtdpjkocpdomkbaaGreatDoor
open Go.RowKit
/-- The reference's loop over the bytes: the numbers before the last one, the last one. -/
def rf : List UInt8 → List Int → Int → Option (List Int × Int)
  | [], done, cur => some (done, cur)
  | c :: r, done, cur => if c = 32 then rf r (done ++ [cur]) 0 else if c.toNat < 48 ∨ 57 < c.toNat ∨ 1099511627776 < cur then none else rf r done (10 * cur + ((c.toNat : Int) - 48))
def refParse (s : ByteArray) : (Int × Int × Int × Int) × Int := match rf s.data.toList [] 0 with
  | some ([a, b, c], d) => if validT a b c d = true ∧ textT a b c d = s then ((a, b, c, d), 0) else ((0, 0, 0, 0), 6)
  | _ => ((0, 0, 0, 0), 6)
theorem rf_dec : ∀ n : Nat, (n : Int) ≤ 1099511627776 → ∀ r done, rf (Lib.decDigits n ++ r) done 0 = rf r done n := by
  intro n
  induction n using Nat.strongRecOn with
  | _ n ih =>
    intro hn r done
    have step : ∀ (d : Nat) (cur : Int), d < 10 → cur ≤ 1099511627776 → rf (UInt8.ofNat (48 + d) :: r) done cur = rf r done (10 * cur + d) := by
      intro d cur hd hcur
      have e : (UInt8.ofNat (48 + d)).toNat = 48 + d := by rw [UInt8.toNat_ofNat']; omega
      have h32 : UInt8.ofNat (48 + d) ≠ 32 := fun h => by have := congrArg UInt8.toNat h; rw [e] at this; simp at this; omega
      rw [rf, if_neg h32, e, if_neg (by omega)]
      congr 1; omega
    rw [Lib.decDigits]
    split
    · rename_i h
      rw [List.cons_append, List.nil_append, step n 0 h (by decide)]
      congr 1; omega
    · rename_i h
      rw [List.append_assoc, List.cons_append, List.nil_append, ih (n / 10) (by omega) (by omega), step (n % 10) _ (by omega) (by omega)]
      congr 1; omega
theorem itoa_nat (z : Int) (h : 0 ≤ z) : Lib.itoa z = Lib.decDigits z.toNat := by unfold Lib.itoa; rw [if_neg (by omega)]
theorem text_list (a s t r : Int) (ha : 0 ≤ a) (hs : 0 ≤ s) (ht : 0 ≤ t) (hr : 0 ≤ r) : (textT a s t r).data.toList = Lib.join [Lib.decDigits a.toNat, Lib.decDigits s.toNat, Lib.decDigits t.toNat, Lib.decDigits r.toNat] [32] := by
  rw [textT_def]
  simp only [List.map_cons, List.map_nil, itoa_nat a ha, itoa_nat s hs, itoa_nat t ht, itoa_nat r hr]
theorem rf_text {a s t r : Int} (hv : validT a s t r = true) : rf (textT a s t r).data.toList [] 0 = some ([a, s, t], r) := by
  obtain ⟨⟨ha0, ha1⟩, ⟨hs0, hs1⟩, ⟨ht0, ht1⟩, ⟨hr0, hr1⟩, _, _, _⟩ := validT_true hv
  have e : Lib.join [Lib.decDigits a.toNat, Lib.decDigits s.toNat, Lib.decDigits t.toNat, Lib.decDigits r.toNat] [32] = Lib.decDigits a.toNat ++ (32 :: (Lib.decDigits s.toNat ++ (32 :: (Lib.decDigits t.toNat ++ (32 :: (Lib.decDigits r.toNat ++ [])))))) := by simp [Lib.join_cons, Lib.joinTail]
  rw [text_list a s t r ha0 hs0 ht0 hr0, e, rf_dec _ (by omega), rf, if_pos rfl, rf_dec _ (by omega), rf, if_pos rfl, rf_dec _ (by omega), rf, if_pos rfl, rf_dec _ (by omega), rf]
  simp only [List.nil_append, List.cons_append, Int.toNat_of_nonneg ha0, Int.toNat_of_nonneg hs0, Int.toNat_of_nonneg ht0, Int.toNat_of_nonneg hr0]
theorem word_dec (x : ByteArray) (z : Int) (h0 : 0 ≤ z) (h1 : z ≤ 1099511627776) (hx : x.data.toList = Lib.decDigits z.toNat) : wordV x = some z := by
  unfold wordV
  rw [hx, atoi_dec _ (by omega)]
  simp only
  rw [Int.toNat_of_nonneg h0, itoa_nat z h0, if_pos]
  apply ByteArray.ext
  apply Array.toList_inj.1
  rw [← hx]
theorem parse_text {a s t r : Int} (hv : validT a s t r = true) : parseR (textT a s t r) = ((a, s, t, r), 0) := by
  obtain ⟨⟨ha0, ha1⟩, ⟨hs0, hs1⟩, ⟨ht0, ht1⟩, ⟨hr0, hr1⟩, _, _, _⟩ := validT_true hv
  have hw := words_eq (textT a s t r)
  rw [text_list a s t r ha0 hs0 ht0 hr0, sp_join4 _ _ _ _ (dec_sp _) (dec_sp _) (dec_sp _) (dec_sp _)] at hw
  have hw2 : (wordsB (textT a s t r)).map (·.data.toList) = [Lib.decDigits a.toNat, Lib.decDigits s.toNat, Lib.decDigits t.toNat, Lib.decDigits r.toNat] := hw
  obtain ⟨W, hW⟩ : ∃ W, wordsB (textT a s t r) = W := ⟨_, rfl⟩
  rw [hW] at hw2
  have hl : W.length = 4 := by have := congrArg List.length hw2; simpa using this
  obtain ⟨w0, w1, w2, w3, rfl⟩ : ∃ w0 w1 w2 w3, W = [w0, w1, w2, w3] := by
    match W, hl with
    | [w0, w1, w2, w3], _ => exact ⟨w0, w1, w2, w3, rfl⟩
  simp only [List.map_cons, List.map_nil, List.cons.injEq, and_true] at hw2
  obtain ⟨e0, e1, e2, e3⟩ := hw2
  have hv4 : vals (wordsB (textT a s t r)) [] = some [a, s, t, r] := by
    rw [hW]
    simp only [vals, word_dec w0 a ha0 ha1 e0, word_dec w1 s hs0 hs1 e1, word_dec w2 t ht0 ht1 e2, word_dec w3 r hr0 hr1 e3, List.nil_append, List.cons_append]
  rw [parse_four hv4, if_pos hv]
theorem vals_itoa : ∀ (ws : List ByteArray) (acc l : List Int), vals ws acc = some l → ∃ m, l = acc ++ m ∧ ws.map (·.data.toList) = m.map Lib.itoa := by
  intro ws
  induction ws with
  | nil => intro acc l h; rw [vals] at h; cases h; exact ⟨[], by simp, rfl⟩
  | cons x ws ih =>
    intro acc l h
    rw [vals] at h
    cases hx : wordV x with
    | none => rw [hx] at h; cases h
    | some v =>
      rw [hx] at h
      obtain ⟨m, h1, h2⟩ := ih _ _ h
      refine ⟨v :: m, by rw [h1]; simp, ?_⟩
      have hv : x.data.toList = Lib.itoa v := by
        unfold wordV at hx
        split at hx
        · split at hx
          · rename_i e
            cases hx
            rw [← e]
          · cases hx
        · cases hx
      rw [List.map_cons, List.map_cons, hv, h2]
theorem text_parse {s : ByteArray} {a b c d : Int} (h : parseR s = ((a, b, c, d), 0)) : validT a b c d = true ∧ textT a b c d = s := by
  unfold parseR at h
  split at h
  · rename_i a' b' c' d' hv
    split at h
    · rename_i hva
      simp only [Prod.mk.injEq, and_true] at h
      obtain ⟨rfl, rfl, rfl, rfl⟩ := h
      refine ⟨hva, ?_⟩
      obtain ⟨m, h1, h2⟩ := vals_itoa _ _ _ hv
      rw [List.nil_append] at h1
      subst h1
      have h3 : sp s.data.toList = [a', b', c', d'].map Lib.itoa := by rw [← words_eq]; exact h2
      have h4 := join_sp s.data.toList
      rw [h3] at h4
      rw [textT_def, h4]
    · simp at h
  · simp at h
theorem parse_err {s : ByteArray} : (∃ a b c d, parseR s = ((a, b, c, d), 0)) ∨ parseR s = ((0, 0, 0, 0), 6) := by
  unfold parseR
  split
  · split
    · exact .inl ⟨_, _, _, _, rfl⟩
    · exact .inr rfl
  · exact .inr rfl
theorem parse_same (s : ByteArray) : refParse s = parseR s := by
  rcases parse_err (s := s) with ⟨a, b, c, d, h⟩ | h
  · obtain ⟨h1, h2⟩ := text_parse h
    rw [h]
    unfold refParse
    rw [← h2, rf_text h1]
    simp only
    rw [if_pos ⟨h1, trivial⟩]
  · rw [h]
    unfold refParse
    split
    · rename_i a b c d _
      split
      · rename_i hh
        have := parse_text hh.1
        rw [hh.2, h] at this
        simp at this
      · rfl
    · rfl
end Go.Proofs.YtdpjkocpdomkbaaGreatDoor
