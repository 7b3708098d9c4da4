/- Plain laws of flags: the granted flags are as the document says; what initial and granted flags hold. -/
import Derived.Test.YtbgiciijiopklaaDoorRefC
namespace Go.Proofs.YtbgiciijiopklaaDoor
open Go.RowKit Go.Shelf
theorem offN_bit (f m i : Nat) (hm : m < 4294967296) (hi : i < 32) : (offN f m).testBit i = (f.testBit i && !m.testBit i) := by
  unfold offN
  rw [Nat.testBit_and]
  have h : 4294967295 - m = 2 ^ 32 - (m + 1) := by omega
  rw [h, Nat.testBit_two_pow_sub_succ (by omega)]
  simp [hi]
theorem has_iff (f g : Nat) (hg : g < 4294967296) : hasB f g = true ↔ ∀ i, i < 32 → g.testBit i = true → f.testBit i = true := by
  rw [hasB_def, decide_eq_true_eq]
  constructor
  · intro h i _ hb
    rw [← h, Nat.testBit_and, Bool.and_eq_true] at hb
    exact hb.1
  · intro h
    apply Nat.eq_of_testBit_eq
    intro i
    rw [Nat.testBit_and]
    cases hb : g.testBit i
    · rw [Bool.and_false]
    · by_cases hi : i < 32
      · rw [h i hi hb]; rfl
      · rw [bit_lt hg (by omega)] at hb; cases hb
theorem has_off (t x : Nat) (ht : t < 4294967296) (hx : x < 4294967296) : hasB t x = decide (offN x t = 0) := by
  rw [Bool.eq_iff_iff, has_iff t x hx, decide_eq_true_eq]
  unfold offN
  rw [and0 _ _ hx]
  constructor
  · intro h i hi
    have e := offN_bit x t i ht hi
    unfold offN at e
    rw [Nat.testBit_and] at e
    rw [e]
    cases hb : x.testBit i
    · rfl
    · rw [h i hi hb]; rfl
  · intro h i hi hb
    have e := offN_bit x t i ht hi
    unfold offN at e
    rw [Nat.testBit_and, h i hi, hb] at e
    simpa using e.symm
/-- The bits of options but canonical. -/
theorem off_bits (o v : Nat) (h : offN o 262144 = v) (i : Nat) (hi : i < 32) (hne : i ≠ 18) : o.testBit i = v.testBit i := by
  rw [← h, offN_bit o 262144 i (by decide) hi]
  have : (262144 : Nat).testBit i = false := by
    rw [show (262144 : Nat) = 2 ^ 18 by decide, Nat.testBit_two_pow]; simp; omega
  rw [this]; simp
theorem pass_none (o : Nat) (h : ∀ i, i < 8 → o.testBit i = false) : o &&& 149 = 0 := by
  apply Nat.eq_of_testBit_eq
  intro i
  rw [Nat.testBit_and, Nat.zero_testBit]
  by_cases hi : i < 8
  · rw [h i hi]; rfl
  · have : (149 : Nat).testBit i = false := Nat.testBit_lt_two_pow (Nat.lt_of_lt_of_le (show (149 : Nat) < 2 ^ 8 by decide) (Nat.pow_le_pow_right (by decide) (by omega)))
    rw [this, Bool.and_false]
theorem has_zero (t : Nat) : hasB t 0 = true := by rw [hasB_def]; simp
theorem bit_of (f i m : Nat) (hm : m = 2 ^ i) : hasB f m = f.testBit i := by subst hm; exact has_bit f i
theorem small_bits (v : Nat) (hv : v = 131072 ∨ v = 65536) : ∀ i, i < 8 → v.testBit i = false := by
  rcases hv with rfl | rfl <;> decide
theorem single_none (o v : Nat) (hv : v = 131072 ∨ v = 65536) (h : offN o 262144 = v) : (∀ i, i < 8 → o.testBit i = false) ∧ hasB o 131072 = decide (v = 131072) ∧ hasB o 65536 = decide (v = 65536) := by
  refine ⟨fun i hi => by rw [off_bits o v h i (by omega) (by omega)]; exact small_bits v hv i hi, ?_, ?_⟩
  · rw [bit_of o 17 _ (by decide), off_bits o v h 17 (by decide) (by decide)]
    rcases hv with rfl | rfl <;> decide
  · rw [bit_of o 16 _ (by decide), off_bits o v h 16 (by decide) (by decide)]
    rcases hv with rfl | rfl <;> decide
theorem den_of (o t a p g j : Nat) (hg : g = 2 ^ j) : denB o p t a g = !(!hasB o p || hasB (t &&& a) g) := by
  rw [denB_def, bit_of (t &&& a) j g hg, bit_of t j g hg, bit_of a j g hg, Nat.testBit_and]
  cases hasB o p <;> cases t.testBit j <;> cases a.testBit j <;> rfl
theorem grant_ref (o t a : Nat) (ho : o < 4294967296) (ht : t < 4294967296) : grantRules o t a = grantRef o t a := by
  rw [grantRef_def]
  unfold grantRules
  rw [den_of o t a 2 1 0 (by decide), den_of o t a 8 4 2 (by decide), den_of o t a 32 16 4 (by decide), ← has_off t (o &&& 149) ht (and32 ho)]
  have key : ∀ v, (v = 131072 ∨ v = 65536) → offN o 262144 = v → hasB t (o &&& 149) = true ∧ hasB o 2 = false ∧ hasB o 8 = false ∧ hasB o 32 = false ∧ hasB o 131072 = decide (v = 131072) ∧ hasB o 65536 = decide (v = 65536) := by
    intro v hv h
    obtain ⟨h1, h2, h3⟩ := single_none o v hv h
    refine ⟨by rw [pass_none o h1]; exact has_zero t, ?_, ?_, ?_, h2, h3⟩
    · rw [bit_of o 1 2 (by decide)]; exact h1 1 (by decide)
    · rw [bit_of o 3 8 (by decide)]; exact h1 3 (by decide)
    · rw [bit_of o 5 32 (by decide)]; exact h1 5 (by decide)
  by_cases h1 : offN o 262144 = 131072
  · obtain ⟨k1, k2, k3, k4, k5, k6⟩ := key _ (.inl rfl) h1
    rw [k1, k2, k3, k4, k5, k6, h1]
    generalize (optB o) = c1; generalize ticketB t = c2; generalize ticketB a = c3; generalize hasB t 64 = c4
    cases c1 <;> cases c2 <;> cases c3 <;> cases c4 <;> rfl
  · by_cases h2 : offN o 262144 = 65536
    · obtain ⟨k1, k2, k3, k4, k5, k6⟩ := key _ (.inr rfl) h2
      rw [k1, k2, k3, k4, k5, k6, h2]
      generalize (optB o) = c1; generalize ticketB t = c2; generalize ticketB a = c3; generalize hasB t 64 = c4; generalize hasB t 128 = c5
      cases c1 <;> cases c2 <;> cases c3 <;> cases c4 <;> cases c5 <;> rfl
    · rw [decide_eq_false h1, decide_eq_false h2]
      generalize hasB o 131072 = v
      generalize hasB o 65536 = r
      cases v <;> cases r
      · simp only [Bool.false_or]
        generalize hasB t (o &&& 149) = c6; generalize (!hasB o 2 || hasB (t &&& a) 1) = d1; generalize (!hasB o 8 || hasB (t &&& a) 4) = d2; generalize (!hasB o 32 || hasB (t &&& a) 16) = d3
        generalize (optB o) = c1; generalize ticketB t = c2; generalize ticketB a = c3; generalize hasB t 64 = c4
        cases c1 <;> cases c2 <;> cases c3 <;> cases c4 <;> try rfl
        cases c6 <;> cases d1 <;> cases d2 <;> cases d3 <;> rfl
      all_goals
        generalize (optB o) = c1; generalize ticketB t = c2; generalize ticketB a = c3; generalize hasB t 64 = c4
        cases c1 <;> cases c2 <;> cases c3 <;> cases c4 <;> rfl
end Go.Proofs.YtbgiciijiopklaaDoor
