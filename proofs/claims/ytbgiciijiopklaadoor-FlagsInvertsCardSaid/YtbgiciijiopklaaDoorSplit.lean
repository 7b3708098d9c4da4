/- strings.SplitSeq at a comma, as an iterator that stores into its own block. -/
import Derived.Test.YtbgiciijiopklaaDoorIter
import Derived.Test.YtbgiciijiopklaaDoorShelf
import Derived.Lib.IndexLaws
import Derived.TacticsInMore
import Derived.OwnWalkIn
import Derived.LoopNIn
import Derived.LoopIn
import Derived.WalkKit
namespace Go.Proofs.YtbgiciijiopklaaDoor
open Go.RowKit Go.Shelf
def bsOf (l : List UInt8) : ByteArray := ⟨l.toArray⟩
theorem bsOf_data (s : ByteArray) : bsOf s.data.toList = s := by cases s; simp [bsOf]
/-- The parts between commas. -/
def splitC : List UInt8 → List (List UInt8)
  | [] => [[]]
  | c :: l => if c = 44 then [] :: splitC l else match splitC l with | [] => [[c]] | x :: r => (c :: x) :: r
theorem splitC_ne (l : List UInt8) : splitC l ≠ [] := by
  cases l with
  | nil => simp [splitC]
  | cons c l => unfold splitC; split; simp; split <;> simp
theorem splitC_none : ∀ (l : List UInt8), (∀ k : Nat, l[k]? ≠ some 44) → splitC l = [l] := by
  intro l
  induction l with
  | nil => intro _; rfl
  | cons c l ih =>
    intro h
    have h0 : c ≠ 44 := by have := h 0; simpa using this
    have h1 := ih (fun k => by have := h (k + 1); simpa using this)
    unfold splitC
    rw [if_neg h0, h1]
theorem splitC_at : ∀ (l : List UInt8) (i : Nat), l[i]? = some 44 → (∀ k : Nat, k < i → l[k]? ≠ some 44) → splitC l = l.take i :: splitC (l.drop (i + 1)) := by
  intro l
  induction l with
  | nil => intro i h; simp at h
  | cons c l ih =>
    intro i h hk
    cases i with
    | zero =>
      have h0 : c = 44 := by simpa using h
      rw [splitC, if_pos h0]
      simp
    | succ i =>
      have h0 : c ≠ 44 := by have := hk 0 (by omega); simpa using this
      have h1 := ih i (by simpa using h) (fun k hki => by have := hk (k + 1) (by omega); simpa using this)
      rw [splitC, if_neg h0, h1]
      simp
def encS (x : List UInt8) : Array Value := #[.string (bsOf x)]
def strLen (v : Option Value) : Nat := match v with | some (.string s) => s.size | _ => 0
theorem bsOf_take (t : ByteArray) (i : Nat) : bsOf (t.data.toList.take i) = t.extract 0 i := by
  apply ByteArray.ext
  rw [ByteArray.data_extract, ← Array.toList_inj]
  simp [bsOf]
theorem drop_data (t : ByteArray) (i : Nat) : (t.extract i t.size).data.toList = t.data.toList.drop i := by
  rw [ByteArray.data_extract]
  simp
  rw [List.take_of_length_le]
  simp
theorem splitSeq_any (s : ByteArray) (w : World) : Calls Tryd.prog 41 #[.string s, .string ⟨#[44]⟩] w fun e w' => e = .returned (.func (.func 84) #[] #[.pointer (some ⟨w.heap.size + 1, 0, none⟩), .pointer (some ⟨w.heap.size, 0, none⟩), .pointer (some ⟨w.heap.size + 1 + 1, 0, none⟩)]) ∧
    w' = ((w.alloc (.cells #[.string s] 9)).alloc (.cells #[.string ⟨#[44]⟩] 9)).alloc (.cells #[.int .i64 0] 3) := by
  have hmf : ∀ (fn : Fn) (first cap : Array Value) (w : World), (Instr.makeFunc fn first cap).run Tryd.prog w = .ok (.func fn first cap) w := fun _ _ _ _ => rfl
  go_enter Tryd.func41, Tryd.ntmps41
  go_wp2
  go_ret
  exact ⟨rfl, rfl⟩
set_option maxRecDepth 100000 in
set_option maxHeartbeats 3200000 in
theorem split1_in (s : ByteArray) (hs : s.size ≤ 1000000) (b l : Nat) (J Jx : List (List UInt8) → World → Prop) (W : World) (hJ : ∀ s W1 W2, StepIt (fun k => k = b) W1 W2 → J s W1 → J s W2)
    (hJx : ∀ s W1 W2, StepIt (fun k => k = b) W1 W2 → Jx s W1 → Jx s W2)
    (hY : ∀ pre x W1, J pre W1 → (pre ++ [x]) <+: splitC s.data.toList → YieldAt Fence.wide 0 Tryd.prog l (encS x) W1 fun e W' => (e = .returned (.bool true) ∧ J (pre ++ [x]) W' ∧ ∀ k : Nat, (k = b ∨ k = b + 1 ∨ k = b + 2) → W'.heap[k]? = W1.heap[k]?) ∨ (e = .returned (.bool false) ∧ Jx (pre ++ [x]) W'))
    (h1 : Boxed W b 9 (.string s)) (h2 : Boxed W (b + 1) 9 (.string ⟨#[44]⟩)) (h3 : Boxed W (b + 2) 3 (.int .i64 0)) (h0 : J [] W) :
    CallsIn Fence.wide 1 Tryd.prog 84 #[.func (.yield l) #[] #[], .pointer (some ⟨b + 1, 0, none⟩), .pointer (some ⟨b, 0, none⟩), .pointer (some ⟨b + 2, 0, none⟩)] W fun e W' => (∃ v, e = .returned v) ∧ (J (splitC s.data.toList) W' ∨ ∃ pre, pre <+: splitC s.data.toList ∧ Jx pre W') := by
  have hro : Fence.wide.round = none := rfl
  have hf1 : Fence.wide.fn 86 := trivial
  have hn : (1 : Nat) ≤ 1 := Nat.le_refl _
  have HY := Lib.hid hY
  have HJ := Lib.hid hJ
  have HJx := Lib.hid hJx
  have H0 := Lib.hid h0
  have c1 := h1.cell
  have c2 := h2.cell
  have c3 := h3.cell
  have B1 := Lib.hid (And.intro h1 (And.intro h2 h3))
  clear hY hJ hJx h0 h1 h2 h3
  refine callsIn_of_wp Tryd.func84 rfl trivial ?_ hro
  simp only [Tryd.ntmps84, List.size_toArray, List.length_cons, List.length_nil, Nat.reduceAdd, Nat.reduceSub, Array.replicate_succ, Array.replicate_zero, List.push_toArray, List.append_toArray, List.nil_append, List.cons_append]
  gi_wp2
  gi_loopw [7] (fun _ wr => ∃ (pre : List (List UInt8)) (t : ByteArray), t.size ≤ 1000000 ∧ splitC s.data.toList = pre ++ splitC t.data.toList ∧ Hid (J pre wr) ∧ Boxed wr b 9 (.string t) ∧ Boxed wr (b + 1) 9 (.string ⟨#[44]⟩) ∧ Boxed wr (b + 2) 3 (.int .i64 0)) (fun _ wr => strLen (wr.cell? ⟨b, 0, none⟩))
  case atStart => exact ⟨[], s, hs, rfl, H0, B1.out.1, B1.out.2.1, B1.out.2.2⟩
  case round =>
    obtain ⟨pre, t, hts, hsp, hj, b1, b2, b3⟩ := hrel
    have c1 := b1.cell
    have c2 := b2.cell
    have c3 := b3.cell
    have f1 := b1.frozen
    have HS := Lib.hid hsp
    clear hsp
    rcases Int.lt_or_le (Lib.indexByte t.data.toList 44) 0 with hneg | hpos
    · have hm1 : Lib.indexByte t.data.toList 44 = -1 := by have := Lib.indexByte_ge t.data.toList 44; omega
      have hlast := splitC_none _ (Lib.indexByte_none hm1)
      have hI := Tryd.strings_Index_one t 44 wr
      rw [hm1] at hI
      have HI := Lib.hid hI
      obtain ⟨fn, tmps, assign, body, hy, hR⟩ := HY.out pre t.data.toList wr hj.out (by rw [HS.out, hlast]; exact List.prefix_refl _)
      unfold encS at hy
      rw [bsOf_data] at hy
      clear hI hneg hm1
      gi_wp2_with (gi_at_call 86; refine (callsIn_wide.2 HI.out).mono ?_; rintro e w' ⟨rfl, rfl⟩)
      refine hR.mono ?_
      rintro e W3 (⟨rfl, hJ3, _⟩ | ⟨rfl, hJx3⟩)
      · gi_wp2
        go_end0
        exact ⟨⟨_, rfl⟩, .inl (by rw [HS.out, hlast]; exact hJ3)⟩
      · gi_wp2
        go_end0
        exact ⟨⟨_, rfl⟩, .inr ⟨_, by rw [HS.out, hlast]; exact List.prefix_refl _, hJx3⟩⟩
    · obtain ⟨i, hi⟩ : ∃ i : Nat, Lib.indexByte t.data.toList 44 = i := ⟨_, (Int.toNat_of_nonneg hpos).symm⟩
      obtain ⟨g1, g2⟩ := Lib.indexByte_some hi
      have hcut := splitC_at _ _ g1 g2
      have hlt : i < t.size := by have := (List.getElem?_eq_some_iff.1 g1).1; simpa using this
      have hI := Tryd.strings_Index_one t 44 wr
      rw [hi] at hI
      have HI := Lib.hid hI
      have HC := Lib.hid hcut
      obtain ⟨fn, tmps, assign, body, hy, hR⟩ := HY.out pre (t.data.toList.take i) wr hj.out (by rw [HS.out, hcut]; exact ⟨splitC (t.data.toList.drop (i + 1)), by simp⟩)
      unfold encS at hy
      rw [bsOf_take] at hy
      have w1 : wrap64 (i : Int) = i := by unfold wrap64; omega
      have w2 : wrap64 ((i : Int) + 1) = ((i + 1 : Nat) : Int) := by unfold wrap64; omega
      have l1 : (0 : Int) ≤ (i : Int) ∧ (i : Int) ≤ (t.size : Int) := by omega
      clear hI hi hpos g1 g2 hcut
      gi_wp2_with (gi_at_call 86; refine (callsIn_wide.2 HI.out).mono ?_; rintro e w' ⟨rfl, rfl⟩)
      refine hR.mono ?_
      rintro e W3 (⟨rfl, hJ3, hk3⟩ | ⟨rfl, hJx3⟩)
      · have n1 : Boxed W3 b 9 (.string t) := (hk3 b (.inl rfl)).trans b1
        have n2 : Boxed W3 (b + 1) 9 (.string ⟨#[44]⟩) := (hk3 _ (.inr (.inl rfl))).trans b2
        have n3 : Boxed W3 (b + 2) 3 (.int .i64 0) := (hk3 _ (.inr (.inr rfl))).trans b3
        have d1 := n1.cell
        have d2 := n2.cell
        have d3 := n3.cell
        have g1 := n1.frozen
        have w3 : ((i : Int) + 1).toNat = i + 1 := by omega
        have l2 : (0 : Int) ≤ (i : Int) + 1 ∧ (i : Int) + 1 ≤ (t.size : Int) := by omega
        have HJ3 := Lib.hid (HJ.out _ _ _ (StepIt.set W3 b (.string (t.extract (i + 1) t.size)) rfl) hJ3)
        clear hJ3 hk3 hR hy
        have hsz : (t.extract (i + 1) t.size).size = t.size - (i + 1) := by rw [ByteArray.size_extract]; omega
        gi_wp2
        refine ⟨⟨pre ++ [t.data.toList.take i], t.extract (i + 1) t.size, by omega, by rw [HS.out, HC.out, drop_data]; simp, HJ3, n1.set _, n2.other (by omega) _, n3.other (by omega) _⟩, ?_⟩
        rw [(n1.set _).cell, c1]
        simp only [strLen]
        omega
      · gi_wp2
        refine bodyPost_ret (results_none rfl _ _ _) rfl ?_
        exact ⟨⟨_, rfl⟩, .inr ⟨_, by rw [HS.out, HC.out]; exact ⟨splitC (t.data.toList.drop (i + 1)), by simp⟩, hJx3⟩⟩
theorem split_seq (s : ByteArray) (hs : s.size ≤ 1000000) (w : World) (b : Nat) (h1 : Boxed w b 9 (.string s)) (h2 : Boxed w (b + 1) 9 (.string ⟨#[44]⟩)) (h3 : Boxed w (b + 2) 3 (.int .i64 0)) :
    SeqOf Tryd.prog 84 #[.pointer (some ⟨b + 1, 0, none⟩), .pointer (some ⟨b, 0, none⟩), .pointer (some ⟨b + 2, 0, none⟩)] encS (fun k => k = b) (fun k => k = b ∨ k = b + 1 ∨ k = b + 2) (splitC s.data.toList) w := fun l J Jx W hx hJ hJx hY h0 =>
  (callsIn_wide (n := 1)).1 (split1_in s hs b l J Jx W hJ hJx hY ((hx.block _ h1.lt).trans h1) ((hx.block _ h2.lt).trans h2) ((hx.block _ h3.lt).trans h3) h0)
end Go.Proofs.YtbgiciijiopklaaDoor
