/- Plain laws of flags: what initial and granted flags hold, and with fewer allowed flags. -/
import Derived.Test.YtbgiciijiopklaaDoorPlainB
namespace Go.Proofs.YtbgiciijiopklaaDoor
open Go.RowKit Go.Shelf
theorem bit149 (i : Nat) : (149 : Nat).testBit i = (decide (i = 0) || decide (i = 2) || decide (i = 4) || decide (i = 7)) := by
  by_cases h : i < 8
  · have : ∀ i, i < 8 → (149 : Nat).testBit i = (decide (i = 0) || decide (i = 2) || decide (i = 4) || decide (i = 7)) := by decide
    exact this i h
  · rw [Nat.testBit_lt_two_pow (Nat.lt_of_lt_of_le (show (149 : Nat) < 2 ^ 8 by decide) (Nat.pow_le_pow_right (by decide) (by omega)))]
    simp; omega
theorem const_bit (n k i : Nat) (hn : n < 2 ^ k) (hi : k ≤ i) : n.testBit i = false := Nat.testBit_lt_two_pow (Nat.lt_of_lt_of_le hn (Nat.pow_le_pow_right (by decide) hi))
/-- Flags of twelve bits are ticket flags. -/
theorem ticket_of (f : Nat) (h : ∀ i, 12 ≤ i → f.testBit i = false) : ticketB f = true := by
  rw [ticketB_def, decide_eq_true_eq]
  have : f < 2 ^ 12 := Nat.lt_pow_two_of_testBit f h
  exact this
theorem ticket_bits {f : Nat} (h : ticketB f = true) (i : Nat) (hi : 12 ≤ i) : f.testBit i = false := by
  rw [ticketB_def, decide_eq_true_eq] at h
  exact const_bit f 12 i h hi
theorem wanted_bit (o a i : Nat) : (wantedN o a).testBit i = (o.testBit i && a.testBit i && (149 : Nat).testBit i || (o.testBit 5 && (decide (i = 5) || decide (i = 6)))) := by
  rw [wantedN_def, bit_of o 5 32 (by decide)]
  cases h : o.testBit 5
  · rw [if_neg (by decide), Nat.testBit_and, Nat.testBit_and]; simp
  · rw [if_pos rfl, Nat.testBit_or, Nat.testBit_or, Nat.testBit_and, Nat.testBit_and, show (32 : Nat) = 2 ^ 5 by decide, show (64 : Nat) = 2 ^ 6 by decide, Nat.testBit_two_pow, Nat.testBit_two_pow]
    rw [Bool.or_assoc, Bool.true_and]
    congr 2 <;> (rw [decide_eq_decide]; omega)
theorem off_zero (f m t : Nat) (hf : f < 4294967296) (ht : t < 4294967296) (h : ∀ i, i < 32 → f.testBit i = true → m.testBit i = true → t.testBit i = true) : offN (f &&& m) t = 0 := by
  have h1 := has_off t (f &&& m) ht (and32 hf)
  have h2 : hasB t (f &&& m) = true := by
    rw [has_iff t (f &&& m) (and32 hf)]
    intro i hi hb
    rw [Nat.testBit_and, Bool.and_eq_true] at hb
    exact h i hi hb.1 hb.2
  rw [h2] at h1
  exact of_decide_eq_true h1.symm
def initV (o a : Nat) (pre : Bool) : Nat := if pre then wantedN o a ||| 256 ||| 512 else wantedN o a ||| 256
theorem initV_bit (o a : Nat) (pre : Bool) (i : Nat) : (initV o a pre).testBit i = ((wantedN o a).testBit i || decide (i = 8) || (pre && decide (i = 9))) := by
  unfold initV
  have h8 : (256 : Nat).testBit i = decide (i = 8) := by rw [show (256 : Nat) = 2 ^ 8 by decide, Nat.testBit_two_pow]; rw [decide_eq_decide]; omega
  have h9 : (512 : Nat).testBit i = decide (i = 9) := by rw [show (512 : Nat) = 2 ^ 9 by decide, Nat.testBit_two_pow]; rw [decide_eq_decide]; omega
  cases pre
  · rw [if_neg (by decide), Nat.testBit_or, h8]; simp
  · rw [if_pos rfl, Nat.testBit_or, Nat.testBit_or, h8, h9]; simp
theorem init_inv {o a : Nat} {pre : Bool} {x : Nat} (h : initR o a pre = (x, 0)) : x = initV o a pre ∧ optB o = true ∧ ticketB a = true ∧ noneB o 720906 = true ∧ (!hasB o 32 || hasB a 16) = true := by
  rw [initR_def] at h
  by_cases h1 : (optB o && ticketB a) = true
  · rw [if_pos h1] at h
    by_cases h2 : noneB o 720906 = true
    · rw [if_pos h2] at h
      by_cases h3 : (!hasB o 32 || hasB a 16) = true
      · rw [if_pos h3] at h
        rw [Bool.and_eq_true] at h1
        exact ⟨(Prod.mk.inj h).1.symm, h1.1, h1.2, h2, h3⟩
      · rw [if_neg h3] at h; simp at h
    · rw [if_neg h2] at h; simp at h
  · rw [if_neg h1] at h; simp at h
theorem init_mk {o a : Nat} (pre : Bool) (h1 : optB o = true) (h2 : ticketB a = true) (h3 : noneB o 720906 = true) (h4 : (!hasB o 32 || hasB a 16) = true) : initR o a pre = (initV o a pre, 0) := by
  rw [initR_def, h1, h2, Bool.and_self, if_pos rfl, if_pos h3, if_pos h4]; rfl
theorem initV_lt (o a : Nat) (pre : Bool) (ho : o < 4294967296) : initV o a pre < 4294967296 := by
  unfold initV
  split
  · exact or32 (or32 (wantedN_lt o a ho) (by decide)) (by decide)
  · exact or32 (wantedN_lt o a ho) (by decide)
theorem wanted_small (o a i : Nat) (hi : 8 ≤ i) : (wantedN o a).testBit i = false := by
  rw [wanted_bit, const_bit 149 8 i (by decide) hi]
  have : (decide (i = 5) || decide (i = 6)) = false := by simp; omega
  rw [this]; simp
/-- What initial flags hold. -/
theorem init_holds (o a : Nat) (pre : Bool) (x : Nat) (ho : o < 4294967296) (ha : a < 4294967296) (h : initR o a pre = (x, 0)) :
    x < 4294967296 ∧ ticketB x = true ∧ hasB x 256 = true ∧ hasB x 512 = pre ∧ offN (x &&& 149) a = 0 := by
  obtain ⟨rfl, _⟩ := init_inv h
  have hlt := initV_lt o a pre ho
  refine ⟨hlt, ticket_of _ (fun i hi => ?_), ?_, ?_, off_zero _ _ _ hlt ha (fun i hi h1 h2 => ?_)⟩
  · rw [initV_bit, wanted_small o a i (by omega)]
    have h8 : decide (i = 8) = false := by simp; omega
    have h9 : decide (i = 9) = false := by simp; omega
    rw [h8, h9]; simp
  · rw [bit_of _ 8 _ (by decide), initV_bit]; simp
  · rw [bit_of _ 9 _ (by decide), initV_bit, wanted_small o a 9 (by omega)]; simp
  · rw [initV_bit, wanted_bit] at h1
    rw [bit149] at h1 h2
    have : (i = 0 ∨ i = 2) ∨ i = 4 ∨ i = 7 := by simpa [or_assoc] using h2
    have h8 : decide (i = 8) = false := by simp; omega
    have h9 : decide (i = 9) = false := by simp; omega
    have h56 : (decide (i = 5) || decide (i = 6)) = false := by simp; omega
    rw [h8, h9, h56] at h1
    simp at h1
    exact h1.1.2
theorem has_mono {x u : Nat} (hu : u < 4294967296) (h : ∀ i, i < 32 → u.testBit i = true → x.testBit i = true) : hasB x u = true := (has_iff x u hu).2 h
theorem ticket_and {a w : Nat} (h : ticketB a = true) : ticketB (a &&& w) = true := ticket_of _ (fun i hi => by rw [Nat.testBit_and, ticket_bits h i hi, Bool.false_and])
theorem init_fewer (o a w : Nat) (pre : Bool) (u : Nat) (ho : o < 4294967296) (ht : ticketB a = true) (h : initR o (a &&& w) pre = (u, 0)) : ∃ x, initR o a pre = (x, 0) ∧ hasB x u = true := by
  obtain ⟨rfl, h1, _, h3, h4⟩ := init_inv h
  have h4' : (!hasB o 32 || hasB a 16) = true := by
    rw [bit_of _ 4 16 (by decide), Nat.testBit_and] at h4
    rw [bit_of a 4 16 (by decide)]
    revert h4
    generalize hasB o 32 = p
    cases p <;> cases a.testBit 4 <;> simp
  refine ⟨_, init_mk pre h1 ht h3 h4', has_mono (initV_lt _ _ _ ho) (fun i _ hb => ?_)⟩
  rw [initV_bit, wanted_bit, Nat.testBit_and] at hb
  rw [initV_bit, wanted_bit]
  revert hb
  generalize o.testBit i = p; generalize a.testBit i = q; generalize w.testBit i = r; generalize (149 : Nat).testBit i = s
  cases q
  · simp
  · intro hb
    cases r
    · simp at hb ⊢; rcases hb with (hb | hb) | hb <;> simp [hb]
    · simpa using hb
def grantV (o t a : Nat) : Nat := if hasB o 131072 then offN t 64 else if hasB o 65536 then t else t &&& 514 ||| wantedN o a ||| (a &&& 2048) ||| (o &&& 10)
/-- The conditions of Grant. -/
structure GrantOk (o t a : Nat) : Prop where
  opt : optB o = true
  tt : ticketB t = true
  ta : ticketB a = true
  single : (!hasB o 131072 && !hasB o 65536 || decide (offN o 262144 = 131072) || decide (offN o 262144 = 65536)) = true
  inv : (hasB o 131072 == hasB t 64) = true
  ren : (!hasB o 65536 || hasB t 128) = true
  pas : hasB t (o &&& 149) = true
  d1 : (hasB o 65536 || !hasB o 2 || hasB (t &&& a) 1) = true
  d2 : (hasB o 65536 || !hasB o 8 || hasB (t &&& a) 4) = true
  d3 : (hasB o 65536 || !hasB o 32 || hasB (t &&& a) 16) = true
theorem grant_mk {o t a : Nat} (h : GrantOk o t a) : grantRules o t a = (grantV o t a, 0) := by
  unfold grantRules grantV
  rw [h.opt, h.tt, h.ta, h.single, h.inv, h.ren, h.pas, h.d1, h.d2, h.d3]
  simp only [Bool.and_self, if_true]
  split
  · rfl
  · split <;> rfl
theorem grant_inv {o t a y : Nat} (h : grantRules o t a = (y, 0)) : y = grantV o t a ∧ GrantOk o t a := by
  have ok : GrantOk o t a := by
    unfold grantRules at h
    repeat' split at h
    all_goals first
      | (exfalso; simp at h; done)
      | (rename_i h1 h2 h3 h4 h5 h6 h7 h8 h9; rw [Bool.and_eq_true, Bool.and_eq_true] at h1; exact ⟨h1.1.1, h1.1.2, h1.2, h2, h3, h4, h5, h6, h7, h8⟩)
      | (rename_i h1 h2 h3 h4 h5 h6 h7 h8 h9 h10; rw [Bool.and_eq_true, Bool.and_eq_true] at h1; exact ⟨h1.1.1, h1.1.2, h1.2, h2, h3, h4, h5, h6, h7, h8⟩)
  rw [grant_mk ok] at h
  exact ⟨(Prod.mk.inj h).1.symm, ok⟩
theorem grantV_lt (o t a : Nat) (ho : o < 4294967296) (ht : t < 4294967296) (ha : a < 4294967296) : grantV o t a < 4294967296 := by
  unfold grantV
  split
  · exact offN_lt ht
  · split
    · exact ht
    · exact or32 (or32 (or32 (and32 ht) (wantedN_lt o a ho)) (and32 ha)) (and32 ho)
theorem grantN_bit (o t a i : Nat) : (t &&& 514 ||| wantedN o a ||| (a &&& 2048) ||| (o &&& 10)).testBit i = (t.testBit i && (decide (i = 1) || decide (i = 9)) || (wantedN o a).testBit i || (a.testBit i && decide (i = 11)) || (o.testBit i && (decide (i = 1) || decide (i = 3)))) := by
  have h1 : (514 : Nat).testBit i = (decide (i = 1) || decide (i = 9)) := by
    by_cases h : i < 12
    · have : ∀ i, i < 12 → (514 : Nat).testBit i = (decide (i = 1) || decide (i = 9)) := by decide
      exact this i h
    · rw [const_bit 514 12 i (by decide) (by omega)]; simp; omega
  have h2 : (2048 : Nat).testBit i = decide (i = 11) := by rw [show (2048 : Nat) = 2 ^ 11 by decide, Nat.testBit_two_pow, decide_eq_decide]; omega
  have h3 : (10 : Nat).testBit i = (decide (i = 1) || decide (i = 3)) := by
    by_cases h : i < 12
    · have : ∀ i, i < 12 → (10 : Nat).testBit i = (decide (i = 1) || decide (i = 3)) := by decide
      exact this i h
    · rw [const_bit 10 12 i (by decide) (by omega)]; simp; omega
  rw [Nat.testBit_or, Nat.testBit_or, Nat.testBit_or, Nat.testBit_and, Nat.testBit_and, Nat.testBit_and, h1, h2, h3]
theorem off64 (t i : Nat) (ht : t < 4294967296) : (offN t 64).testBit i = (t.testBit i && !decide (i = 6)) := by
  by_cases hi : i < 32
  · rw [offN_bit t 64 i (by decide) hi, show (64 : Nat) = 2 ^ 6 by decide, Nat.testBit_two_pow]
    congr 2; rw [decide_eq_decide]; omega
  · rw [bit_lt (offN_lt ht) (by omega), bit_lt ht (by omega), Bool.false_and]
/-- What granted flags hold. -/
theorem grant_holds (o t a y : Nat) (ho : o < 4294967296) (ht : t < 4294967296) (ha : a < 4294967296) (h : grantRules o t a = (y, 0)) :
    y < 4294967296 ∧ ticketB y = true ∧ offN (y &&& 149) t = 0 ∧ (hasB y 256 = true → hasB t 256 = true ∧ o &&& 196608 ≠ 0) := by
  obtain ⟨rfl, ok⟩ := grant_inv h
  have hlt := grantV_lt o t a ho ht ha
  have htb := ticket_bits ok.tt
  have hab := ticket_bits ok.ta
  have nz : ∀ i, (i = 16 ∨ i = 17) → o.testBit i = true → o &&& 196608 ≠ 0 := by
    intro i hi hb he
    have : (o &&& 196608).testBit i = true := by
      rw [Nat.testBit_and, hb]
      rcases hi with rfl | rfl <;> decide
    rw [he, Nat.zero_testBit] at this; cases this
  unfold grantV at hlt ⊢
  cases hv : hasB o 131072
  · cases hr : hasB o 65536
    · rw [hv, hr] at hlt
      rw [if_neg (by decide), if_neg (by decide)] at hlt ⊢
      refine ⟨hlt, ticket_of _ (fun i hi => ?_), off_zero _ _ _ hlt ht (fun i hi h1 h2 => ?_), fun h8 => ?_⟩
      · rw [grantN_bit, wanted_small o a i (by omega), htb i hi, hab i hi]
        have : (decide (i = 1) || decide (i = 3)) = false := by simp; omega
        rw [this]; simp
      · have hp := (has_iff t (o &&& 149) (and32 ho)).1 ok.pas i hi
        rw [Nat.testBit_and, h2, Bool.and_true] at hp
        rw [bit149] at h2
        have hc : (i = 0 ∨ i = 2) ∨ i = 4 ∨ i = 7 := by simpa [or_assoc] using h2
        rw [grantN_bit, wanted_bit] at h1
        have e1 : (decide (i = 1) || decide (i = 9)) = false := by simp; omega
        have e2 : decide (i = 11) = false := by simp; omega
        have e3 : (decide (i = 1) || decide (i = 3)) = false := by simp; omega
        have e4 : (decide (i = 5) || decide (i = 6)) = false := by simp; omega
        rw [e1, e2, e3, e4] at h1
        simp at h1
        exact hp h1.1.1
      · rw [bit_of _ 8 _ (by decide), grantN_bit, wanted_small o a 8 (by omega)] at h8
        simp at h8
    · rw [hv, hr] at hlt
      rw [if_neg (by decide), if_pos rfl] at hlt ⊢
      refine ⟨hlt, ok.tt, off_zero _ _ _ hlt ht (fun _ _ h _ => h), fun h8 => ⟨h8, nz 16 (.inl rfl) ?_⟩⟩
      rw [← bit_of o 16 65536 (by decide)]; exact hr
  · rw [hv] at hlt
    rw [if_pos rfl] at hlt ⊢
    refine ⟨hlt, ticket_of _ (fun i hi => ?_), off_zero _ _ _ hlt ht (fun i hi h1 _ => ?_), fun h8 => ⟨?_, nz 17 (.inr rfl) ?_⟩⟩
    · rw [off64 t i ht, htb i hi, Bool.false_and]
    · rw [off64 t i ht, Bool.and_eq_true] at h1; exact h1.1
    · rw [bit_of _ 8 _ (by decide), off64 t 8 ht] at h8
      rw [bit_of _ 8 _ (by decide)]
      simpa using h8
    · rw [← bit_of o 17 131072 (by decide)]; exact hv
theorem need_more (p q : Bool) (t a w g j : Nat) (hg : g = 2 ^ j) (h : (p || !q || hasB (t &&& (a &&& w)) g) = true) : (p || !q || hasB (t &&& a) g) = true := by
  rw [bit_of _ j g hg, Nat.testBit_and, Nat.testBit_and] at h
  rw [bit_of _ j g hg, Nat.testBit_and]
  revert h
  cases p <;> cases q <;> cases t.testBit j <;> cases a.testBit j <;> simp
theorem grant_fewer (o t a w v : Nat) (ho : o < 4294967296) (ht : t < 4294967296) (ha : a < 4294967296) (hta : ticketB a = true) (h : grantRules o t (a &&& w) = (v, 0)) : ∃ y, grantRules o t a = (y, 0) ∧ hasB y v = true := by
  obtain ⟨rfl, ok⟩ := grant_inv h
  have ok2 : GrantOk o t a := ⟨ok.opt, ok.tt, hta, ok.single, ok.inv, ok.ren, ok.pas, need_more _ _ _ _ _ _ 0 (by decide) ok.d1, need_more _ _ _ _ _ _ 2 (by decide) ok.d2, need_more _ _ _ _ _ _ 4 (by decide) ok.d3⟩
  refine ⟨_, grant_mk ok2, has_mono (grantV_lt _ _ _ ho ht (and32 ha)) (fun i _ hb => ?_)⟩
  unfold grantV at hb ⊢
  cases hv : hasB o 131072
  · cases hr : hasB o 65536
    · rw [hv, hr] at hb
      rw [if_neg (by decide), if_neg (by decide)] at hb ⊢
      rw [grantN_bit, wanted_bit, Nat.testBit_and] at hb
      rw [grantN_bit, wanted_bit]
      revert hb
      generalize o.testBit i = p; generalize a.testBit i = q; generalize w.testBit i = r; generalize (149 : Nat).testBit i = s
      cases q
      · simp
      · intro hb
        cases r
        · simp at hb ⊢; rcases hb with (hb | hb) | hb <;> simp [hb]
        · simpa using hb
    · rw [hv, hr] at hb
      rw [if_neg (by decide), if_pos rfl] at hb ⊢
      exact hb
  · rw [hv] at hb
    rw [if_pos rfl] at hb ⊢
    exact hb
end Go.Proofs.YtbgiciijiopklaaDoor
