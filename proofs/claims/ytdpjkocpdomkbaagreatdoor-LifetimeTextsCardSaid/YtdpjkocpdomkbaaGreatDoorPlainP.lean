/- Plain laws of the string of times: words, decimals. -/
import Derived.Test.YtdpjkocpdomkbaaGreatDoorText
import Derived.Lib.SplitLaws
import Derived.Lib.AtoiAll
namespace Go.Proofs.YtdpjkocpdomkbaaGreatDoor
open Go.RowKit
/-- The words between blanks. -/
def sp : List UInt8 → List (List UInt8)
  | [] => [[]]
  | c :: r => if c = 32 then [] :: sp r else match sp r with | [] => [[c]] | x :: l => (c :: x) :: l
theorem sp_ne (l : List UInt8) : sp l ≠ [] := by
  cases l with
  | nil => simp [sp]
  | cons c r => unfold sp; split; simp; split <;> simp
theorem index_cons (b : UInt8) (l : List UInt8) : Lib.index (b :: l) [32] = if b = 32 then 0 else if Lib.index l [32] = -1 then -1 else Lib.index l [32] + 1 := by
  rw [Lib.index]
  by_cases h : b = 32
  · subst h; simp [List.isPrefixOf]
  · simp [List.isPrefixOf, h, Ne.symm h]
theorem split_eq : ∀ l : List UInt8, Lib.splitK [32] 0 (Lib.count l [32]) l = sp l := by
  intro l
  induction l with
  | nil => rw [Lib.count_miss (by simp [Lib.index])]; rfl
  | cons b l ih =>
    by_cases h : b = 32
    · subst h
      rw [Lib.count_cons_eq, Nat.add_comm, Lib.splitK, index_cons, if_pos rfl, sp, if_pos rfl, ← ih]
      simp
    · rw [Lib.count_cons_ne b 32 l h, sp, if_neg h]
      cases hk : Lib.count l [32] with
      | zero =>
        rw [hk] at ih
        rw [← ih]; rfl
      | succ k =>
        rw [hk] at ih
        rw [← ih, Lib.splitK, Lib.splitK, index_cons, if_neg h]
        have hn : Lib.index l [32] ≠ -1 := fun e => by rw [Lib.count_miss e] at hk; cases hk
        have hge := Lib.index_ge l [32]
        rw [if_neg hn]
        have e1 : (Lib.index l [32] + 1 == -1) = false := by simp; omega
        have e2 : (Lib.index l [32] == -1) = false := by simpa using hn
        rw [e1, e2]
        have e3 : (Lib.index l [32] + 1).toNat = (Lib.index l [32]).toNat + 1 := by omega
        simp [e3]
theorem words_eq (s : ByteArray) : (Lib.splitB ⟨#[32]⟩ 0 (Lib.countB s ⟨#[32]⟩) s).map (·.data.toList) = sp s.data.toList := by
  rw [Lib.splitB_data]
  exact split_eq s.data.toList
theorem join_cons2 (c : UInt8) (x : List UInt8) (l : List (List UInt8)) : Lib.join ((c :: x) :: l) [32] = c :: Lib.join (x :: l) [32] := by
  cases l with
  | nil => simp [Lib.join_one]
  | cons y l => simp [Lib.join_cons]
theorem join_sp : ∀ l : List UInt8, Lib.join (sp l) [32] = l := by
  intro l
  induction l with
  | nil => simp [sp, Lib.join_one]
  | cons c r ih =>
    unfold sp
    split
    · rename_i h
      subst h
      cases hs : sp r with
      | nil => exact absurd hs (sp_ne r)
      | cons y l => rw [hs] at ih; simp [Lib.join_cons, Lib.joinTail] at ih ⊢; exact ih
    · split
      · rename_i hs; exact absurd hs (sp_ne r)
      · rename_i x l hs
        rw [join_cons2, ← hs, ih]
theorem sp_append (x : List UInt8) (hx : ∀ c ∈ x, c ≠ 32) (r : List UInt8) : sp (x ++ r) = match sp r with | [] => [x] | y :: l => (x ++ y) :: l := by
  induction x with
  | nil => cases hs : sp r with
    | nil => exact absurd hs (sp_ne r)
    | cons y l => simp [hs]
  | cons c x ih =>
    have hc := hx c (by simp)
    have ih := ih fun c h => hx c (by simp [h])
    rw [List.cons_append, sp, if_neg hc, ih]
    cases hs : sp r with
    | nil => exact absurd hs (sp_ne r)
    | cons y l => simp
theorem sp_join4 (a b c d : List UInt8) (ha : ∀ x ∈ a, x ≠ 32) (hb : ∀ x ∈ b, x ≠ 32) (hc : ∀ x ∈ c, x ≠ 32) (hd : ∀ x ∈ d, x ≠ 32) : sp (Lib.join [a, b, c, d] [32]) = [a, b, c, d] := by
  have e : Lib.join [a, b, c, d] [32] = a ++ (32 :: (b ++ (32 :: (c ++ (32 :: (d ++ [])))))) := by simp [Lib.join_cons, Lib.joinTail]
  rw [e, sp_append a ha, sp, if_pos rfl, sp_append b hb, sp, if_pos rfl, sp_append c hc, sp, if_pos rfl, sp_append d hd, sp]
  simp
theorem dec_mem : ∀ n, ∀ x ∈ Lib.decDigits n, 48 ≤ x.toNat ∧ x.toNat ≤ 57 := by
  intro n
  induction n using Nat.strongRecOn with
  | _ n ih =>
    intro x hx
    rw [Lib.decDigits] at hx
    split at hx
    · simp only [List.mem_cons, List.not_mem_nil, or_false] at hx
      subst hx
      rw [UInt8.toNat_ofNat']; omega
    · rcases List.mem_append.1 hx with hx | hx
      · exact ih _ (by omega) x hx
      · simp only [List.mem_cons, List.not_mem_nil, or_false] at hx
        subst hx
        rw [UInt8.toNat_ofNat']; omega
theorem dec_ne (n : Nat) : Lib.decDigits n ≠ [] := by rw [Lib.decDigits]; split <;> simp
theorem dec_sp (n : Nat) : ∀ x ∈ Lib.decDigits n, x ≠ 32 := fun x hx e => by have := dec_mem n x hx; subst e; revert this; decide
/-- Decimals are read: by ParseUint's rule. -/
theorem uint_dec : ∀ n, n < 18446744073709551610 → ∀ r, Lib.parseUint10 0 (Lib.decDigits n ++ r) = Lib.parseUint10 n r := by
  intro n
  induction n using Nat.strongRecOn with
  | _ n ih =>
    intro hn r
    rw [Lib.decDigits]
    split
    · rename_i h
      rw [List.cons_append, List.nil_append, Lib.parseUint10]
      have e : (UInt8.ofNat (48 + n)).toNat = 48 + n := by rw [UInt8.toNat_ofNat']; omega
      rw [e, if_pos (by omega), if_neg (by decide), if_neg (by omega)]
      congr 1; omega
    · rename_i h
      rw [List.append_assoc, ih (n / 10) (by omega) (by omega), List.cons_append, List.nil_append, Lib.parseUint10]
      have e : (UInt8.ofNat (48 + n % 10)).toNat = 48 + n % 10 := by rw [UInt8.toNat_ofNat']; omega
      rw [e, if_pos (by omega), if_neg (by omega), if_neg (by omega)]
      congr 1; omega
theorem atoi_dec (n : Nat) (hn : n < 9223372036854775808) : Lib.atoiAll (Lib.decDigits n) = .ok (n : Int) := by
  have h0 := uint_dec n (by omega) []
  rw [List.append_nil, Lib.parseUint10] at h0
  cases hd : Lib.decDigits n with
  | nil => exact absurd hd (dec_ne n)
  | cons c r =>
    have hc := dec_mem n c (by rw [hd]; simp)
    unfold Lib.atoiAll
    simp only
    rw [if_neg (by omega), Lib.parseMag, if_neg (by simp), ← hd, h0]
    simp only
    rw [if_neg (by omega), if_neg (by omega), if_neg (by omega)]
/-- The number of a word, if the word is that number's string. -/
def wordV (x : ByteArray) : Option Int := match Lib.atoiAll x.data.toList with | .ok v => if (⟨(Lib.itoa v).toArray⟩ : ByteArray) = x then some v else none | _ => none
def vals : List ByteArray → List Int → Option (List Int)
  | [], acc => some acc
  | x :: r, acc => match wordV x with | some v => vals r (acc ++ [v]) | none => none
end Go.Proofs.YtdpjkocpdomkbaaGreatDoor
