/- Plain laws of flags: which flags are named and options by their bits, the string and the flags of a string as the document says. -/
import Derived.Test.YtbgiciijiopklaaDoorFlagG
namespace Go.Proofs.YtbgiciijiopklaaDoor
open Go.RowKit Go.Shelf
theorem bit_lt {f i : Nat} (hf : f < 4294967296) (hi : 32 ≤ i) : f.testBit i = false := by
  refine Nat.testBit_lt_two_pow (Nat.lt_of_lt_of_le hf ?_)
  have : 2 ^ 32 ≤ 2 ^ i := Nat.pow_le_pow_right (by decide) hi
  rwa [show (2 : Nat) ^ 32 = 4294967296 by decide] at this
theorem and0 (f m : Nat) (hf : f < 4294967296) : f &&& m = 0 ↔ ∀ i, i < 32 → (f.testBit i && m.testBit i) = false := by
  constructor
  · intro h i _
    rw [← Nat.testBit_and, h, Nat.zero_testBit]
  · intro h
    apply Nat.eq_of_testBit_eq
    intro i
    rw [Nat.testBit_and, Nat.zero_testBit]
    by_cases hi : i < 32
    · exact h i hi
    · rw [bit_lt hf (by omega), Bool.false_and]
theorem named_bits (f : Nat) (hf : f < 4294967296) : namedB f = true ↔ ∀ i, i < 32 → f.testBit i = true → hasName i = true := by
  have hm : ∀ i, i < 32 → (4294967295 - 2035711).testBit i = !hasName i := by decide +kernel
  rw [namedB_def, decide_eq_true_eq, offN, and0 _ _ hf]
  constructor
  · intro h i hi hb
    have := h i hi
    rw [hb, hm i hi, Bool.true_and, Bool.not_eq_false'] at this
    exact this
  · intro h i hi
    rw [hm i hi]
    cases hb : f.testBit i
    · rfl
    · rw [h i hi hb]; rfl
theorem opt_bits (f : Nat) (hf : f < 4294967296) : optB f = true ↔ ∀ i, i < 32 → f.testBit i = true → (decide (i ≤ 5) || decide (i = 7) || (decide (16 ≤ i) && decide (i ≤ 20))) = true := by
  have hm : ∀ i, i < 32 → (4294967295 - 2031807).testBit i = !(decide (i ≤ 5) || decide (i = 7) || (decide (16 ≤ i) && decide (i ≤ 20))) := by decide +kernel
  rw [optB_def, decide_eq_true_eq, offN, and0 _ _ hf]
  constructor
  · intro h i hi hb
    have := h i hi
    rw [hb, hm i hi, Bool.true_and, Bool.not_eq_false'] at this
    exact this
  · intro h i hi
    rw [hm i hi]
    cases hb : f.testBit i
    · rfl
    · rw [h i hi hb]; rfl
theorem has_bit (f i : Nat) : hasB f (2 ^ i) = f.testBit i := by
  rw [hasB_def, Bool.eq_iff_iff, decide_eq_true_eq]
  constructor
  · intro h
    have := congrArg (fun x => x.testBit i) h
    simpa [Nat.testBit_and, Nat.testBit_two_pow_self] using this
  · intro h
    apply Nat.eq_of_testBit_eq
    intro j
    rw [Nat.testBit_and]
    by_cases hj : i = j
    · subst hj; simp [h, Nat.testBit_two_pow_self]
    · rw [Nat.testBit_two_pow_of_ne hj, Bool.and_false]
/-- The name of a bit as bytes. -/
def nm (i : Nat) : List UInt8 := (nameOf i).data.toList
/-- The string after k bits, as the document builds it. -/
def tx (f : Nat) : Nat → List UInt8
  | 0 => []
  | k + 1 => if f.testBit k then (if tx f k = [] then nm k else tx f k ++ [44] ++ nm k) else tx f k
def txt (f : Nat) : List UInt8 := if tx f 32 = [] then [45] else tx f 32
theorem join_snoc (x : List UInt8) : ∀ l : List (List UInt8), l ≠ [] → Lib.join (l ++ [x]) [44] = Lib.join l [44] ++ [44] ++ x := by
  intro l
  induction l with
  | nil => intro h; exact absurd rfl h
  | cons y l ih =>
    intro _
    cases l with
    | nil => simp [Lib.join]
    | cons z l =>
      simp [Lib.join_cons, Lib.joinTail]
theorem nm_ne : ∀ i, i < 32 → hasName i = true → nm i ≠ [] := by decide +kernel
theorem nm_comma : ∀ i, i < 32 → hasName i = true → 44 ∉ nm i := by decide +kernel
theorem nm_bit : ∀ i, i < 32 → hasName i = true → bitOf (nm i) = some i := by decide +kernel
theorem join_ne (l : List (List UInt8)) (h : l ≠ []) (hn : ∀ x ∈ l, x ≠ []) : Lib.join l [44] ≠ [] := by
  cases l with
  | nil => exact absurd rfl h
  | cons y l =>
    have := hn y (by simp)
    cases l with
    | nil => simpa [Lib.join] using this
    | cons z l => simp [Lib.join, this]
theorem eachK_named (f k : Nat) (hk : k ≤ 32) : ∀ i ∈ eachK f k, i < 32 ∧ hasName i = true := by
  intro i hi
  unfold eachK eachP at hi
  rw [List.mem_filter, List.mem_range, Bool.and_eq_true] at hi
  exact ⟨by omega, hi.2.2⟩
theorem tx_join (f : Nat) (hn : ∀ i, i < 32 → f.testBit i = true → hasName i = true) : ∀ k, k ≤ 32 → tx f k = Lib.join ((eachK f k).map nm) [44] := by
  intro k
  induction k with
  | zero => intro _; rfl
  | succ k ih =>
    intro hk
    have ih := ih (by omega)
    rw [tx, eachK_succ]
    cases hb : f.testBit k
    · rw [if_neg (by simp), ih]; simp [eachP, hb]
    · have hnk := hn k (by omega) hb
      have hp : eachP f k = true := by simp [eachP, hb, hnk]
      rw [if_pos rfl, hp, if_pos rfl, List.map_append]
      by_cases he : eachK f k = []
      · rw [he] at ih ⊢
        rw [ih]
        simp [Lib.join]
      · have hne := join_ne ((eachK f k).map nm) (by simpa using he) (by
          intro x hx
          rw [List.mem_map] at hx
          obtain ⟨i, hi, rfl⟩ := hx
          have := eachK_named f k (by omega) i hi
          exact nm_ne i this.1 this.2)
        rw [← ih] at hne
        rw [if_neg hne, List.map_cons, List.map_nil, join_snoc _ _ (by simpa using he), ih]
theorem text_txt (f : Nat) (hf : f < 4294967296) (hn : namedB f = true) : textB f = ⟨(txt f).toArray⟩ := by
  have hb := (named_bits f hf).1 hn
  have ht := tx_join f hb 32 (Nat.le_refl _)
  unfold textB txt
  by_cases he : eachL f = []
  · have h0 : tx f 32 = [] := by rw [ht, show eachK f 32 = eachL f from rfl, he]; rfl
    rw [if_pos he, if_pos h0]
  · have hne := join_ne ((eachK f 32).map nm) (by intro h; exact he (List.map_eq_nil_iff.1 h)) (by
      intro x hx
      rw [List.mem_map] at hx
      obtain ⟨i, hi, rfl⟩ := hx
      have := eachK_named f 32 (by omega) i hi
      exact nm_ne i this.1 this.2)
    rw [← ht] at hne
    rw [if_neg he, if_neg hne, ht]
    rfl
/-- The bit of a word, if it is a name, is added. -/
def orW (f : Nat) (x : List UInt8) : Nat := match bitOf x with | some i => f ||| 2 ^ i | none => f
def refP (s : List UInt8) : Nat := (splitC s).foldl orW 0
def refParse (s : ByteArray) : Nat × Int := if (⟨(txt (refP s.data.toList)).toArray⟩ : ByteArray) = s then (refP s.data.toList, 0) else (0, 6)
theorem bitOf_some {x : List UInt8} {i : Nat} (h : bitOf x = some i) : i < 32 ∧ hasName i = true ∧ nm i = x := by
  unfold bitOf at h
  have h1 := List.find?_some h
  have h2 := List.mem_of_find?_eq_some h
  have h3 := eachK_named 2035711 32 (Nat.le_refl _) i h2
  exact ⟨h3.1, h3.2, by simpa [nm] using h1⟩
def NB (f : Nat) : Prop := f < 4294967296 ∧ ∀ i, i < 32 → f.testBit i = true → hasName i = true
theorem NB_or {f i : Nat} (h : NB f) (hi : i < 32) (hn : hasName i = true) : NB (f ||| 2 ^ i) := by
  refine ⟨or32 h.1 (by have := Nat.pow_lt_pow_right (a := 2) (by decide) hi; rwa [show (2 : Nat) ^ 32 = 4294967296 by decide] at this), fun j hj hb => ?_⟩
  rw [Nat.testBit_or, Bool.or_eq_true] at hb
  rcases hb with hb | hb
  · exact h.2 j hj hb
  · rw [Nat.testBit_two_pow] at hb
    have : i = j := by simpa using hb
    subst this; exact hn
theorem NB_orW {f : Nat} (x : List UInt8) (h : NB f) : NB (orW f x) := by
  unfold orW
  cases hb : bitOf x with
  | none => exact h
  | some i => exact NB_or h (bitOf_some hb).1 (bitOf_some hb).2.1
theorem NB_fold : ∀ (l : List (List UInt8)) (f : Nat), NB f → NB (l.foldl orW f) := by
  intro l
  induction l with
  | nil => intro f h; exact h
  | cons x l ih => intro f h; exact ih _ (NB_orW x h)
theorem NB_zero : NB 0 := ⟨by decide, fun i _ h => by simp at h⟩
theorem parseW_NB : ∀ (l : List (List UInt8)) (f out : Nat), NB f → parseW l f = some out → NB out := by
  intro l
  induction l with
  | nil => intro f out h e; rw [parseW] at e; cases e; exact h
  | cons x l ih =>
    intro f out h e
    rw [parseW] at e
    cases hb : bitOf x with
    | none => rw [hb] at e; cases e
    | some i =>
      rw [hb] at e
      simp only at e
      by_cases hle : 2 ^ i ≤ f
      · rw [if_pos hle] at e; cases e; exact h
      · rw [if_neg hle] at e
        exact ih _ _ (NB_or h (bitOf_some hb).1 (bitOf_some hb).2.1) e
/-- The bits from k on, n of them. -/
def eachF (f k n : Nat) : List Nat := (List.range' k n).filter (eachP f)
theorem eachF_succ (f k n : Nat) : eachF f k (n + 1) = (if eachP f k then [k] else []) ++ eachF f (k + 1) n := by
  unfold eachF
  rw [List.range'_succ, List.filter_cons]
  by_cases h : eachP f k <;> simp [h]
theorem eachF_all (f : Nat) : eachF f 0 32 = eachL f := by unfold eachF eachL eachK; rw [List.range_eq_range']
theorem mod_or (f k : Nat) (hb : f.testBit k = true) : f % 2 ^ k ||| 2 ^ k = f % 2 ^ (k + 1) := by
  apply Nat.eq_of_testBit_eq
  intro j
  rw [Nat.testBit_or, Nat.testBit_mod_two_pow, Nat.testBit_mod_two_pow, Nat.testBit_two_pow]
  by_cases h : j = k
  · subst h; simp [hb]
  · have h2 : decide (k = j) = false := by simp; omega
    rw [h2, Bool.or_false]
    have : decide (j < k) = decide (j < k + 1) := by simp; omega
    rw [this]
theorem mod_skip (f k : Nat) (hb : f.testBit k = false) : f % 2 ^ k = f % 2 ^ (k + 1) := by
  apply Nat.eq_of_testBit_eq
  intro j
  rw [Nat.testBit_mod_two_pow, Nat.testBit_mod_two_pow]
  by_cases h : j = k
  · subst h; simp [hb]
  · have : decide (j < k) = decide (j < k + 1) := by simp; omega
    rw [this]
theorem parse_each (f : Nat) (h : NB f) : ∀ n k, k + n = 32 → parseW ((eachF f k n).map nm) (f % 2 ^ k) = some f ∧ ((eachF f k n).map nm).foldl orW (f % 2 ^ k) = f := by
  intro n
  induction n with
  | zero =>
    intro k hk
    obtain rfl : k = 32 := by omega
    have : f % 2 ^ 32 = f := Nat.mod_eq_of_lt h.1
    rw [this]
    exact ⟨rfl, rfl⟩
  | succ n ih =>
    intro k hk
    have ih := ih (k + 1) (by omega)
    rw [eachF_succ]
    cases hb : f.testBit k
    · have hp : eachP f k = false := by simp [eachP, hb]
      rw [hp, mod_skip f k hb]
      exact ih
    · have hn := h.2 k (by omega) hb
      have hp : eachP f k = true := by simp [eachP, hb, hn]
      have hbit := nm_bit k (by omega) hn
      have hlt : ¬ 2 ^ k ≤ f % 2 ^ k := by have := Nat.mod_lt f (Nat.two_pow_pos k); omega
      rw [hp, if_pos rfl, List.cons_append, List.nil_append, List.map_cons, parseW, hbit]
      simp only
      rw [if_neg hlt, List.foldl_cons, orW, hbit]
      simp only
      rw [mod_or f k hb]
      exact ih
theorem splitC_join : ∀ l : List (List UInt8), l ≠ [] → (∀ x ∈ l, 44 ∉ x) → splitC (Lib.join l [44]) = l := by
  intro l
  induction l with
  | nil => intro h; exact absurd rfl h
  | cons x l ih =>
    intro _ hn
    have hx := hn x (by simp)
    cases l with
    | nil => rw [Lib.join_one]; exact splitC_none _ (fun k hk => hx (List.mem_of_getElem? hk))
    | cons y l =>
      have e : Lib.join (x :: y :: l) [44] = x ++ 44 :: Lib.join (y :: l) [44] := by simp [Lib.join_cons, Lib.joinTail]
      have h := splitC_at (Lib.join (x :: y :: l) [44]) x.length (by rw [e]; simp) (fun k hk hc => by rw [e, List.getElem?_append_left hk] at hc; exact hx (List.mem_of_getElem? hc))
      have d : (Lib.join (x :: y :: l) [44]).drop (x.length + 1) = Lib.join (y :: l) [44] := by rw [e, ← List.drop_drop, List.drop_left]; rfl
      rw [h, d, ih (by simp) (fun z hz => hn z (by simp [hz])), e, List.take_left]
theorem back {f : Nat} (h0 : eachL f ≠ []) {s : ByteArray} (hs : textB f = s) : splitC s.data.toList = (eachL f).map nm := by
  subst hs
  unfold textB
  rw [if_neg h0]
  have := splitC_join ((eachL f).map nm) (by simpa using h0) (by
    intro x hx
    rw [List.mem_map] at hx
    obtain ⟨i, hi, rfl⟩ := hx
    have := eachK_named f 32 (by omega) i hi
    exact nm_comma i this.1 this.2)
  exact this
theorem parse_ref (s : ByteArray) : parseR s = refParse s := by
  by_cases hd : s = ⟨#[45]⟩
  · subst hd
    decide +kernel
  unfold parseR refParse
  rw [if_neg hd]
  have hN : NB (refP s.data.toList) := NB_fold _ _ NB_zero
  have hnb := (named_bits _ hN.1).2 hN.2
  rw [← text_txt _ hN.1 hnb]
  have key : ∀ f, NB f → textB f = s → parseW (splitC s.data.toList) 0 = some f ∧ refP s.data.toList = f := by
    intro f hf hs
    have h0 : eachL f ≠ [] := by intro h; rw [textB, if_pos h] at hs; exact hd hs.symm
    have hsp := back h0 hs
    have := parse_each f hf 32 0 rfl
    rw [eachF_all, show f % 2 ^ 0 = 0 by omega] at this
    unfold refP
    rw [hsp]
    exact this
  by_cases he : textB (refP s.data.toList) = s
  · obtain ⟨h1, h2⟩ := key _ hN he
    rw [h1, if_pos he]
    simp only
    rw [textR, if_pos hnb, if_pos he]
  · rw [if_neg he]
    cases hp : parseW (splitC s.data.toList) 0 with
    | none => rfl
    | some out =>
      have ho := parseW_NB _ _ _ NB_zero hp
      have hob := (named_bits _ ho.1).2 ho.2
      simp only
      rw [textR, if_pos hob]
      rw [if_neg]
      intro hs
      obtain ⟨h1, h2⟩ := key out ho hs
      rw [h2] at he
      exact he hs
end Go.Proofs.YtbgiciijiopklaaDoor
