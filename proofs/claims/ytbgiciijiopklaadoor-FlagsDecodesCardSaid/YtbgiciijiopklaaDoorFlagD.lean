/- Contracts of package flags: names, TrailingZeros32, Each and its loop. -/
import Derived.Test.YtbgiciijiopklaaDoorFlagC
import Derived.Test.YtbgiciijiopklaaDoorIter
import Derived.Test.YtbgiciijiopklaaDoorMapObj
import Derived.Shelf.Spec.TrailingZeros
import Derived.TacticsInMore
import Derived.OwnWalkIn
import Derived.LoopNIn
import Derived.LoopIn
import Derived.WalkKit
import Derived.MapKept
import Derived.Carry
namespace Go.Proofs.YtbgiciijiopklaaDoor
open Go.RowKit Go.Shelf
/-- The names of flags. -/
def nameT : List (Int × ByteArray) := [(0, ⟨#[102, 111, 114, 119, 97, 114, 100, 97, 98, 108, 101]⟩), (1, ⟨#[102, 111, 114, 119, 97, 114, 100, 101, 100]⟩), (2, ⟨#[112, 114, 111, 120, 105, 97, 98, 108, 101]⟩), (3, ⟨#[112, 114, 111, 120, 121]⟩), (4, ⟨#[109, 97, 121, 45, 112, 111, 115, 116, 100, 97, 116, 101]⟩), (5, ⟨#[112, 111, 115, 116, 100, 97, 116, 101, 100]⟩), (6, ⟨#[105, 110, 118, 97, 108, 105, 100]⟩), (7, ⟨#[114, 101, 110, 101, 119, 97, 98, 108, 101]⟩), (8, ⟨#[105, 110, 105, 116, 105, 97, 108]⟩), (9, ⟨#[112, 114, 101, 45, 97, 117, 116, 104]⟩), (10, ⟨#[116, 114, 97, 110, 115, 105, 116, 101, 100]⟩), (11, ⟨#[100, 101, 108, 101, 103, 97, 116, 101]⟩), (16, ⟨#[114, 101, 110, 101, 119]⟩), (17, ⟨#[118, 97, 108, 105, 100, 97, 116, 101]⟩), (18, ⟨#[99, 97, 110, 111, 110, 105, 99, 97, 108]⟩), (19, ⟨#[99, 111, 110, 115, 116, 114, 97, 105, 110, 101, 100]⟩), (20, ⟨#[114, 101, 110, 101, 119, 97, 98, 108, 101, 45, 111, 107]⟩)]
def namesL : List (Int × Value) := nameT.map fun p => (p.1, .string p.2)
set_option maxRecDepth 100000 in
set_option maxHeartbeats 1600000 in
theorem names_any (w : World) : Calls Tryd.prog 45 #[] w fun e w' => e = .returned (.map (some w.heap.size)) ∧ w' = w.alloc (mapObj namesL) := by
  have hmm : ∀ (t : TypeId) (w : World), (Instr.makeMap t none).run Tryd.prog w = .ok (.map (some w.heap.size)) (w.alloc (mapObj [])) := fun _ _ => rfl
  have hU := fun l k s hn => run_upd (P := Tryd.prog) Tryd.underlying79 Tryd.underlying3 w l k s hn
  go_enter Tryd.func45, Tryd.ntmps45
  go_wp2
  go_ret
  exact ⟨rfl, rfl⟩
theorem TabAt.ext {g : Nat} {tab : List Nat} {w w' : World} (h : TabAt g tab w) (e : Ext w w') : TabAt g tab w' := fun j hj => e.cell (h j hj)
set_option maxHeartbeats 1600000 in
theorem tz_core (x k idx : Nat) (w : World) (hx0 : ((x : Int) == 0) = false) (key : bits BinOp.and IntKind.u32 (x : Int) (-(x : Int) % 4294967296) * 125613361 % 4294967296 / 134217728 = (idx : Int))
    (hi : idx < 32) (hk : k < 32) (hcell : w.cell? ⟨0, idx, none⟩ = some (.int .u8 k)) : Calls Tryd.prog 44 #[.int .u32 (x : Int)] w fun e w' => e = .returned (.int .i64 k) ∧ w' = w := by
  go_enter Tryd.func44, Tryd.ntmps44
  go_wp2_with (simp only [key])
  go_ret
  exact ⟨rfl, rfl⟩
theorem tz_any (x : Nat) (hx0 : x ≠ 0) (hx : x < 4294967296) (w : World) (hT : TabAt 0 Lib.deBruijn32tab w) :
    Calls Tryd.prog 44 #[.int .u32 (x : Int)] w fun e w' => e = .returned (.int .i64 (Lib.ctz 32 x)) ∧ w' = w := by
  obtain ⟨hlow, hk⟩ := Lib.lowest_bit 32 x hx0 hx
  obtain ⟨hi, htab⟩ := Lib.deBruijn32_at _ hk
  have hcell := hT _ hi
  rw [htab] at hcell
  exact tz_core x _ _ w (by simp; omega) (tz32_key x _ hx hx0 hlow) hi hk hcell
/-- The name of a bit. -/
def nameO (i : Nat) : Option ByteArray := (nameT.find? (fun p => p.1 == (i : Int))).map (·.2)
theorem nameO_find (i : Nat) : (namesL.find? (fun p => p.1 == (i : Int))).map (·.2) = (nameO i).map Value.string := by
  unfold namesL nameO
  rw [List.find?_map]
  simp [Function.comp_def]
def nameOf (i : Nat) : ByteArray := (nameO i).getD ⟨#[]⟩
def hasName (i : Nat) : Bool := (nameO i).isSome
/-- The bits of flags that have names, from the lowest. -/
def eachP (f : Nat) (i : Nat) : Bool := f.testBit i && hasName i
def eachK (f k : Nat) : List Nat := (List.range k).filter (eachP f)
def eachL (f : Nat) : List Nat := eachK f 32
def hiB (f k : Nat) : Nat := (f >>> k) <<< k
theorem hiB_bit (f k j : Nat) : (hiB f k).testBit j = (decide (k ≤ j) && f.testBit j) := by
  unfold hiB
  rw [Nat.testBit_shiftLeft]
  by_cases h : k ≤ j
  · simp [h, Nat.testBit_shiftRight]
  · simp [h]
theorem hiB_zero (f : Nat) : hiB f 0 = f := by simp [hiB]
theorem hiB_le (f k : Nat) : hiB f k ≤ f := by
  unfold hiB
  rw [Nat.shiftLeft_eq, Nat.shiftRight_eq_div_pow]
  exact Nat.div_mul_le_self _ _
theorem eachK_succ (f k : Nat) : eachK f (k + 1) = eachK f k ++ if eachP f k then [k] else [] := by
  unfold eachK
  rw [List.range_succ, List.filter_append]
  by_cases h : eachP f k <;> simp [h]
theorem eachK_skip (f k n : Nat) (h : ∀ j, k ≤ j → j < k + n → f.testBit j = false) : eachK f (k + n) = eachK f k := by
  induction n with
  | zero => rfl
  | succ n ih =>
    rw [← Nat.add_assoc, eachK_succ, ih (fun j h1 h2 => h j h1 (by omega))]
    have := h (k + n) (by omega) (by omega)
    simp [eachP, this]
theorem eachK_rest (f k : Nat) (hk : k ≤ 32) (h : hiB f k = 0) : eachK f k = eachL f := by
  have : eachK f (k + (32 - k)) = eachK f k := eachK_skip f k _ (fun j h1 _ => by
    have := hiB_bit f k j
    rw [h] at this
    simpa [h1] using this.symm)
  rw [← this, eachL]
  congr 1
  omega
theorem eachK_pre (f k : Nat) (hk : k ≤ 32) : eachK f k <+: eachL f := by
  unfold eachL eachK
  have e : (32 : Nat) = k + (32 - k) := by omega
  rw [e, List.range_add, List.filter_append]
  exact List.prefix_append _ _
theorem hiB_step (f k : Nat) (hf : f < 4294967296) (h : hiB f k ≠ 0) :
    Lib.ctz 32 (hiB f k) < 32 ∧ k ≤ Lib.ctz 32 (hiB f k) ∧ f.testBit (Lib.ctz 32 (hiB f k)) = true ∧ eachK f (Lib.ctz 32 (hiB f k)) = eachK f k ∧ hiB f k &&& (hiB f k - 1) = hiB f (Lib.ctz 32 (hiB f k) + 1) := by
  have hlt : hiB f k < 2 ^ 32 := Nat.lt_of_le_of_lt (hiB_le f k) hf
  obtain ⟨m, hm, hi⟩ := Lib.ctzFrom_spec 32 (hiB f k) (by omega) hlt
  have e : Lib.ctz 32 (hiB f k) = Lib.ctzFrom 32 (hiB f k) := by simp [Lib.ctz, h]
  rw [← e] at hm hi
  generalize Lib.ctz 32 (hiB f k) = i at *
  have hb : ∀ j, (hiB f k).testBit j = (decide (i ≤ j) && (2 * m + 1).testBit (j - i)) := fun j => by
    rw [hm, Nat.testBit_two_pow_mul]
  have h1 : k ≤ i ∧ f.testBit i = true := by
    have := hiB_bit f k i
    rw [hb i] at this
    simpa [Nat.testBit_zero] using this
  have h2 : ∀ j, k ≤ j → j < i → f.testBit j = false := fun j hk hj => by
    have := hiB_bit f k j
    rw [hb j] at this
    simpa [hk, show ¬ i ≤ j by omega] using this.symm
  refine ⟨hi, h1.1, h1.2, ?_, ?_⟩
  · obtain ⟨n, rfl⟩ : ∃ n, i = k + n := ⟨i - k, by omega⟩
    exact eachK_skip f k n h2
  · apply Nat.eq_of_testBit_eq
    intro j
    have hm1 : hiB f k - 1 = 2 ^ i * (2 * m) + (2 ^ i - 1) := by
      rw [hm, Nat.mul_add, Nat.mul_one]
      have : 0 < 2 ^ i := Nat.two_pow_pos i
      omega
    rw [Nat.testBit_and, hiB_bit f (i + 1) j, hm1, Nat.testBit_two_pow_mul_add _ (by have : 0 < 2 ^ i := Nat.two_pow_pos i; omega)]
    by_cases hj : j < i
    · rw [hb j]; simp [show ¬ i ≤ j by omega]; omega
    · rw [if_neg hj]
      by_cases hij : j = i
      · subst hij
        simp [Nat.testBit_zero]
        omega
      · obtain ⟨d, rfl⟩ : ∃ d, j = i + (d + 1) := ⟨j - i - 1, by omega⟩
        have h3 := hb (i + (d + 1))
        have h4 := hiB_bit f k (i + (d + 1))
        rw [h3]
        rw [h3] at h4
        have e2 : i + (d + 1) - i = d + 1 := by omega
        rw [e2] at h4 ⊢
        have d1 : (2 * m + 1) / 2 = m := by omega
        have d2 : 2 * m / 2 = m := by omega
        rw [Nat.testBit_succ, d1] at h4
        rw [Nat.testBit_succ, Nat.testBit_succ, d1, d2]
        have g1 : decide (i ≤ i + (d + 1)) = true := by simp
        have g2 : decide (k ≤ i + (d + 1)) = true := by simp; omega
        have g3 : decide (i + 1 ≤ i + (d + 1)) = true := by simp
        rw [g1, g2, Bool.true_and, Bool.true_and] at h4
        rw [g1, g3, Bool.true_and, Bool.true_and, ← h4, Bool.and_self]
end Go.Proofs.YtbgiciijiopklaaDoor
