/- Contracts of package flags: Each, its loop as an iterator. -/
import Derived.Test.YtbgiciijiopklaaDoorFlagD
namespace Go.Proofs.YtbgiciijiopklaaDoor
open Go.RowKit Go.Shelf
def encF (i : Nat) : Array Value := #[.int .u32 ((2 ^ i : Nat) : Int), .string (nameOf i)]
theorem each_any (f : Nat) (w : World) : Calls Tryd.prog 22 #[.int .u32 (f : Int)] w fun e w' => e = .returned (.func (.func 43) #[] #[.pointer (some ⟨w.heap.size, 0, none⟩)]) ∧ w' = w.alloc (.cells #[.int .u32 (f : Int)] 24) := by
  have hmf : ∀ (fn : Fn) (first cap : Array Value) (w : World), (Instr.makeFunc fn first cap).run Tryd.prog w = .ok (.func fn first cap) w := fun _ _ _ _ => rfl
  go_enter Tryd.func22, Tryd.ntmps22
  go_wp2
  go_ret
  exact ⟨rfl, rfl⟩
theorem zero_string (w : World) : (zeroValue 9).run Tryd.prog w = .ok (.string ⟨#[]⟩) w := by kernel_rfl
theorem nameO_look (w : World) (b : Nat) (hb : w.heap[b]? = some (mapObj namesL)) (i : Nat) :
    (Instr.lookup 79 (.map (some b)) (.int .i64 (i : Int)) true).run Tryd.prog w = .ok (.tuple #[.string (nameOf i), .bool (hasName i)]) w := by
  have := run_look (P := Tryd.prog) Tryd.underlying79 Tryd.underlying3 w b namesL hb (i : Int) (.string ⟨#[]⟩) (zero_string w)
  rw [this, nameO_find]
  unfold nameOf hasName
  cases nameO i <;> rfl
theorem TabAt.keep {g : Nat} {tab : List Nat} {w w' : World} (h : TabAt g tab w) (e : w'.heap[g]? = w.heap[g]?) : TabAt g tab w' := fun j hj => by
  rw [World.cell?_of_block (a := ⟨g, j, none⟩) e]; exact h j hj
set_option maxRecDepth 100000 in
set_option maxHeartbeats 3200000 in
theorem each1_in (f : Nat) (hf : f < 4294967296) (B l : Nat) (J Jx : List Nat → World → Prop) (W : World) (hJ : ∀ s W1 W2, StepIt (fun _ => False) W1 W2 → J s W1 → J s W2)
    (hY : ∀ pre x W1, J pre W1 → (pre ++ [x]) <+: eachL f → YieldAt Fence.wide 0 Tryd.prog l (encF x) W1 fun e W' => (e = .returned (.bool true) ∧ J (pre ++ [x]) W' ∧ ∀ k : Nat, k = 0 → W'.heap[k]? = W1.heap[k]?) ∨ (e = .returned (.bool false) ∧ Jx (pre ++ [x]) W'))
    (hB : W.cell? ⟨B, 0, none⟩ = some (.int .u32 (f : Int))) (hT : TabAt 0 Lib.deBruijn32tab W) (h0 : J [] W) :
    CallsIn Fence.wide 1 Tryd.prog 43 #[.func (.yield l) #[] #[], .pointer (some ⟨B, 0, none⟩)] W fun e W' => (∃ v, e = .returned v) ∧ (J (eachL f) W' ∨ ∃ pre, pre <+: eachL f ∧ Jx pre W') := by
  have hro : Fence.wide.round = none := rfl
  have hf1 : Fence.wide.fn 44 := trivial
  have hf2 : Fence.wide.fn 45 := trivial
  have hn : (1 : Nat) ≤ 1 := Nat.le_refl _
  have HY := Lib.hid hY
  have HJ := Lib.hid hJ
  have HT := Lib.hid hT
  clear hY hJ hT
  refine callsIn_of_wp Tryd.func43 rfl trivial ?_ hro
  simp only [Tryd.ntmps43, List.size_toArray, List.length_cons, List.length_nil, Nat.reduceAdd, Nat.reduceSub, Array.replicate_succ, Array.replicate_zero, List.push_toArray, List.append_toArray, List.nil_append, List.cons_append]
  gi_wp2
  gi_loopw [3] (fun r wr => ∃ k : Nat, k ≤ 32 ∧ r = .int .u32 (hiB f k : Nat) ∧ J (eachK f k) wr ∧ Hid (TabAt 0 Lib.deBruijn32tab wr)) (fun r _ => (intOf r).toNat)
  case atStart => exact ⟨0, by omega, by rw [hiB_zero], h0, HT⟩
  case round =>
    obtain ⟨k, hk, rfl, hj, HTr⟩ := hrel
    by_cases hz : hiB f k = 0
    · have HJ2 := Lib.hid hj
      have HZ := Lib.hid hz
      rw [hz]
      gi_wp2
      go_end0
      exact ⟨⟨_, rfl⟩, .inl (by rw [← eachK_rest f k hk HZ.out]; exact HJ2.out)⟩
    · obtain ⟨hi, hki, hbit, hskip, hand⟩ := hiB_step f k hf hz
      have hxl : hiB f k < 4294967296 := Nat.lt_of_le_of_lt (hiB_le f k) hf
      have hlook := nameO_look (wr.alloc (mapObj namesL)) wr.heap.size (World.alloc_heap_new _ _) (Lib.ctz 32 (hiB f k))
      have hsub : bits .and .u32 (hiB f k : Nat) ((hiB f k : Nat) - 1) = ((hiB f (Lib.ctz 32 (hiB f k) + 1) : Nat) : Int) := by
        have e1 : (((hiB f k : Nat) : Int) - 1) = ((hiB f k - 1 : Nat) : Int) := by omega
        rw [e1, bits_and_u32_nat _ _ hxl (by omega), hand]
      have hwr : ((((hiB f k : Nat) : Int) - 1) % 4294967296) = ((hiB f k : Nat) : Int) - 1 := by omega
      have hne0 : ((((hiB f k : Nat) : Int)) != 0) = true := by simpa using hz
      have hle : hiB f (Lib.ctz 32 (hiB f k) + 1) < hiB f k := by
        rw [← hand]
        have : hiB f k &&& (hiB f k - 1) ≤ hiB f k - 1 := Nat.and_le_right
        omega
      have HTZ := Lib.hid (tz_any (hiB f k) hz hxl wr HTr.out)
      have HK := Lib.hid hskip
      have HB := Lib.hid hbit
      have HLE := Lib.hid hle
      have hJ2 := HJ.out _ _ _ (StepIt.of_ext ((Ext.refl wr).alloc (mapObj namesL))) hj
      have HJ2 := Lib.hid hJ2
      clear hskip hbit hand hle hz hj hJ2
      generalize hiB f k = x at *
      generalize hci : Lib.ctz 32 x = i at *
      have hcast : ((2 ^ i : Nat) : Int) = (2 : Int) ^ i := by simp
      have hp2 : ((2 : Int) ^ i % 4294967296) = (2 : Int) ^ i := by
        have h1 : 2 ^ i < 2 ^ 32 := Nat.pow_lt_pow_right (by decide) hi
        rw [show (2 : Nat) ^ 32 = 4294967296 by decide] at h1
        rw [← hcast]
        generalize 2 ^ i = y at h1
        omega
      cases hh : hasName i
      · rw [hh] at hlook
        gi_wp2_with (first | (gi_at_call 44; refine (callsIn_wide.2 HTZ.out).mono ?_; rintro e w' ⟨rfl, rfl⟩) | (gi_at_call 45; refine (callsIn_wide.2 (names_any _)).mono ?_; rintro e w' ⟨rfl, rfl⟩))
        refine ⟨by simp, ?_⟩
        gi_wp2
        go_roundw
        case rel => exact ⟨i + 1, by omega, rfl, by rw [eachK_succ, HK.out, eachP, hh, Bool.and_false]; simpa using HJ2.out, Lib.hid (TabAt.ext HTr.out ((Ext.refl _).alloc _))⟩
        case measure => simp [intOf]; exact HLE.out
      · rw [hh] at hlook
        obtain ⟨fn, tmps, assign, body, hy, hR⟩ := HY.out (eachK f k) i _ HJ2.out (by
          have := eachK_pre f (i + 1) (by omega)
          rw [eachK_succ, HK.out, eachP, HB.out, hh] at this
          simpa using this)
        unfold encF at hy
        rw [hcast] at hy
        gi_wp2_with (first | (gi_at_call 44; refine (callsIn_wide.2 HTZ.out).mono ?_; rintro e w' ⟨rfl, rfl⟩) | (gi_at_call 45; refine (callsIn_wide.2 (names_any _)).mono ?_; rintro e w' ⟨rfl, rfl⟩))
        refine hR.mono ?_
        rintro e W3 (⟨rfl, hJ3, hk3⟩ | ⟨rfl, hJx3⟩)
        · gi_wp2
          go_roundw
          case rel => exact ⟨i + 1, by omega, rfl, by rw [eachK_succ, HK.out, eachP, HB.out, hh]; simpa using hJ3, Lib.hid (TabAt.keep (TabAt.ext HTr.out ((Ext.refl _).alloc _)) (hk3 _ rfl))⟩
          case measure => simp [intOf]; exact HLE.out
        · gi_wp2
          refine bodyPost_ret (results_none rfl _ _ _) rfl ?_
          refine ⟨⟨_, rfl⟩, .inr ⟨_, ?_, hJx3⟩⟩
          have := eachK_pre f (i + 1) (by omega)
          rw [eachK_succ, HK.out, eachP, HB.out, hh] at this
          simpa using this
theorem each_seq (f : Nat) (hf : f < 4294967296) (w : World) (B : Nat) (hB : w.cell? ⟨B, 0, none⟩ = some (.int .u32 (f : Int))) (hT : TabAt 0 Lib.deBruijn32tab w) :
    SeqOf Tryd.prog 43 #[.pointer (some ⟨B, 0, none⟩)] encF (fun _ => False) (fun k => k = 0) (eachL f) w := fun l J Jx W hx hJ _ hY h0 =>
  (callsIn_wide (n := 1)).1 (each1_in f hf B l J Jx W hJ hY (hx.cell hB) (TabAt.ext hT hx) h0)
end Go.Proofs.YtbgiciijiopklaaDoor
