/- What initial, derived and renewed times are like: plain laws, no program in sight. -/
import Derived.Test.YtdpjkocpdomkbaaDoorGrant
namespace Go.Proofs.YtdpjkocpdomkbaaDoor
open Go.RowKit
theorem validT_mk {a s t r : Int} (h : (0 ≤ a ∧ a ≤ 1099511627776) ∧ (0 ≤ s ∧ s ≤ 1099511627776) ∧ (0 ≤ t ∧ t ≤ 1099511627776) ∧ (0 ≤ r ∧ r ≤ 1099511627776) ∧ a ≤ s ∧ s < t ∧ (r = 0 ∨ t ≤ r)) : validT a s t r = true := by
  rw [validT_def, okTimes4]
  simp only [badT_def, Bool.and_eq_true, Bool.not_eq_true', Bool.or_eq_false_iff, decide_eq_false_iff_not, decide_eq_true_eq, Bool.or_eq_true]
  omega
theorem fresh_holds {auth start till wish life renew en longest a s t r : Int} (h : freshR auth start till wish life renew en longest = ((a, s, t, r), 0))
    (h0 : 0 ≤ auth ∧ auth ≤ start ∧ start ≤ 1099511627776 ∧ 0 ≤ till ∧ 0 ≤ wish ∧ wish ≤ 1099511627776 ∧ 0 ≤ longest) :
    validT a s t r = true ∧ t - s ≤ life ∧ a = auth ∧ s = start ∧ r ≤ max 0 (s + renew) ∧ (till ≠ 0 → t ≤ till) ∧ r ≤ wish ∧ t ≤ en ∧ r ≤ longest := by
  rw [freshR_def] at h
  have hE : endR start till life en ≤ start + life ∧ endR start till life en ≤ 1099511627776 ∧ endR start till life en ≤ en ∧ (till ≠ 0 → endR start till life en ≤ till) := by
    unfold endR; split <;> omega
  have hR : renR start wish renew longest = 0 ∨ (renR start wish renew longest ≤ wish ∧ renR start wish renew longest ≤ start + renew ∧ renR start wish renew longest ≤ 1099511627776 ∧ renR start wish renew longest ≤ longest) := by
    unfold renR; split
    · right; omega
    · left; rfl
  generalize endR start till life en = e at h hE
  generalize renR start wish renew longest = q at h hR
  split at h
  · simp at h
  · simp only [Prod.mk.injEq] at h
    obtain ⟨⟨rfl, rfl, rfl, hq⟩, -⟩ := h
    split at hq
    · subst hq
      exact ⟨validT_mk (by omega), by omega, rfl, rfl, by omega, hE.2.2.2, by omega, by omega, by omega⟩
    · subst hq
      exact ⟨validT_mk (by omega), by omega, rfl, rfl, by omega, hE.2.2.2, by omega, by omega, by omega⟩
theorem initial_holds {f till wish life renew now k a s t r : Int} (h : initialR f till wish life renew now k = ((a, s, t, r), 0)) :
    validT a s t r = true ∧ t - s ≤ life ∧ a = now ∧ r ≤ s + renew ∧ (till ≠ 0 → t ≤ till) ∧ r ≤ wish ∧ 0 ≤ life ∧ life ≤ 2147483648 ∧ 0 ≤ renew ∧ renew ≤ 2147483648 := by
  cases ho : okInit f till wish life renew now k with
  | false => rw [initialR_bad ho] at h; simp at h
  | true =>
    rw [initialR_ok ho rfl] at h
    rw [okInit_eq] at ho
    simp only [Bool.and_eq_true, decide_eq_true_eq] at ho
    obtain ⟨⟨⟨⟨⟨h1, h2⟩, h3⟩, h4⟩, h5⟩, h6⟩ := ho
    have h1 := badT_false h1
    have h2 := badT_false h2
    have h3 := badT_false h3
    have h4 := limitsOk_true h4
    have h5 := badT_false h5
    have q := fresh_holds h (by split <;> omega)
    have q4 := q.2.2.2.1
    have : now ≤ s := by rw [q4]; split <;> omega
    exact ⟨q.1, q.2.1, q.2.2.1, by have := q.2.2.2.2.1; omega, q.2.2.2.2.2.1, q.2.2.2.2.2.2.1, by omega, by omega, by omega, by omega⟩
theorem derive_holds {a s t r f till wish life renew now k a' s' t' r' : Int} (h : deriveR a s t r f till wish life renew now k = ((a', s', t', r'), 0)) :
    validT a' s' t' r' = true ∧ t' - s' ≤ life ∧ a' = a ∧ t' ≤ t ∧ r' ≤ r ∧ usableR a s t r now k = 0 := by
  cases ho : okWish f till wish life renew with
  | false => rw [deriveR_bad ho] at h; simp at h
  | true =>
    by_cases hu : usableR a s t r now k = 0
    · rw [deriveR_ok ho hu rfl] at h
      rw [okWish_eq] at ho
      simp only [Bool.and_eq_true] at ho
      obtain ⟨⟨⟨h1, h2⟩, h3⟩, h4⟩ := ho
      have h1 := badT_false h1
      have h2 := badT_false h2
      have h3 := badT_false h3
      have h4 := limitsOk_true h4
      obtain ⟨hv, h5, h6, h7, h8⟩ := usableR_zero hu
      have hv := validT_true hv
      have q := fresh_holds h (by split <;> omega)
      exact ⟨q.1, q.2.1, q.2.2.1, q.2.2.2.2.2.2.2.1, q.2.2.2.2.2.2.2.2, hu⟩
    · rw [deriveR_un ho hu] at h
      simp only [Prod.mk.injEq] at h
      exact absurd h.2 hu
theorem renew_holds {a s t r now k a' s' t' r' : Int} (h : renewR a s t r now k = ((a', s', t', r'), 0)) :
    validT a' s' t' r' = true ∧ t' ≤ r ∧ t' - s' ≤ t - s ∧ a' = a ∧ r' = r ∧ renewableR a s t r now k = true ∧ validT a s t r = true := by
  by_cases hu : usableR a s t r now k = 0
  · cases hr : renewableR a s t r now k with
    | false => rw [renewR_not hu hr] at h; simp at h
    | true =>
      obtain ⟨hv, h5, h6, h7, h8⟩ := usableR_zero hu
      have hv' := validT_true hv
      have hr0 : r ≠ 0 := by
        rw [renewableR_def] at hr
        simp only [Bool.and_eq_true, Bool.not_eq_true', decide_eq_false_iff_not] at hr
        exact hr.2.1
      by_cases h3 : min (max now a + t - s) r ≤ max now a
      · rw [renewR_never hu hr rfl rfl h3] at h; simp at h
      · rw [renewR_ok hu hr rfl rfl h3] at h
        simp only [Prod.mk.injEq] at h
        obtain ⟨⟨rfl, rfl, rfl, rfl⟩, -⟩ := h
        exact ⟨validT_mk (by omega), by omega, by omega, rfl, rfl, rfl, hv⟩
  · rw [renewR_un hu] at h
    simp only [Prod.mk.injEq] at h
    exact absurd h.2 hu
end Go.Proofs.YtdpjkocpdomkbaaDoor
