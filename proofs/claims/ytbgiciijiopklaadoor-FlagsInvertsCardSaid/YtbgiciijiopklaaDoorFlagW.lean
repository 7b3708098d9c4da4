/- Contracts of der.Bits and flags.Encode. -/
import Derived.Test.YtbgiciijiopklaaDoorDerW
import Derived.Test.YtbgiciijiopklaaDoorFlagR
import Derived.Test.YtbgiciijiopklaaDoorSplit
import Derived.Laws.IdiomStrings
import Derived.Lib.BufferRead
namespace Go.Proofs.YtbgiciijiopklaaDoor
open Go.RowKit
/-- The encoding of flags. -/
def encB (f : Nat) : List UInt8 := elB 3 ([0] ++ numB (f : Int) 4)
theorem encB_len (f : Nat) : (encB f).length = 7 := by
  have h : ([0] ++ numB (f : Int) 4).length = 5 := by simp [numB_len]
  unfold encB elB
  rw [h]
  simp [lenB, numB_len]
def EncPost (f : Nat) (w : World) (e : Ending) (w' : World) : Prop := ∃ A' c', e = .returned (.tuple #[.slice A' 7 c', .int .i64 0]) ∧ BS w' A' (encB f) ∧ 7 ≤ c' ∧ Ext w w'
set_option maxRecDepth 4000 in
set_option maxHeartbeats 1600000 in
theorem wbits_any (f : Nat) (hf : f < 4294967296) (w : World) : Calls Tryd.prog 63 #[.int .u32 (f : Int)] w (Bytes (encB f) w) := by
  have hm : (f : Int) ≤ 4294967295 := by omega
  go_enter Tryd.func63, Tryd.ntmps63
  go_wp2_with fail
  (go_at_call 75; (with_reducible refine (number_any (f : Int) 4 (by decide) (by decide) 4 rfl _).mono ?_); rintro e w2 ⟨rfl, hbN, hx2⟩)
  have k0 := hx2.heap (heap_new w (.cells #[.int .u8 0] 5))
  have HK := Lib.hid k0
  have HB := Lib.hid hbN
  have hx := ((Ext.refl w).alloc _).trans hx2
  clear k0 hbN
  go_wp2_with fail
  have e1 := (Ext.refl w2).alloc (.cells #[.slice (some ⟨w.heap.size, 0, none⟩) 1 1, .slice (some ⟨w.heap.size + 1, 0, none⟩) 4 4] 50)
  have kk := heap_new w2 (.cells #[.slice (some ⟨w.heap.size, 0, none⟩) 1 1, .slice (some ⟨w.heap.size + 1, 0, none⟩) 4 4] 50)
  simp only [World.size_alloc] at HB
  have hp0 : PartOk _ ⟨some ⟨w.heap.size, 0, none⟩, 1, [0]⟩ := part_lit (e1.heap HK.out)
  have hp1 : PartOk (w2.alloc (.cells #[.slice (some ⟨w.heap.size, 0, none⟩) 1 1, .slice (some ⟨w.heap.size + 1, 0, none⟩) 4 4] 50)) ⟨some ⟨w.heap.size + 1, 0, none⟩, 4, numB (f : Int) 4⟩ := ⟨(HB.out.ext e1).weak, fun h => by cases h⟩
  (go_at_call 74; refine (element_any 3 (by decide) [⟨some ⟨w.heap.size, 0, none⟩, 1, [0]⟩, ⟨some ⟨w.heap.size + 1, 0, none⟩, 4, numB (f : Int) 4⟩] w2.heap.size 2 2 _ rfl ?pa ?pb ?pc (by decide) 3 rfl).mono ?_)
  case pa =>
    intro j hj
    have hj2 : j < 2 := hj
    rcases (by omega : j = 0 ∨ j = 1) with rfl | rfl
    · exact cell_heap kk 0
    · rw [cell_heap kk 1]; simp [numB_len]
  case pb =>
    intro p hp
    simp only [List.mem_cons, List.not_mem_nil, or_false] at hp
    rcases hp with rfl | rfl
    · exact hp0
    · exact hp1
  case pc => simp [flatP, numB_len]
  rintro e w' ⟨A', c', rfl, hb, hc, hnil, hx'⟩
  clear kk hp0 hp1
  go_wp2
  go_ret
  have hfl : flatP [⟨some ⟨w.heap.size, 0, none⟩, 1, [0]⟩, ⟨some ⟨w.heap.size + 1, 0, none⟩, 4, numB (f : Int) 4⟩] = [0] ++ numB (f : Int) 4 := by simp [flatP]
  rw [hfl] at hb hc ⊢
  exact ⟨A', c', rfl, hb, hc, hnil, (hx.trans e1).trans hx'⟩
set_option maxHeartbeats 800000 in
theorem encode_no (f : Nat) (hf : f < 4294967296) (hn : namedB f = false) (w : World) : Calls Tryd.prog 29 #[.int .u32 (f : Int)] w fun e w' => e = .returned (.tuple #[.slice none 0 0, .int .i64 2]) ∧ Ext w w' := by
  have HN := Lib.hid hn
  clear hn
  go_enter Tryd.func29, Tryd.ntmps29
  go_wp2_with (go_at_call 39; (with_reducible refine (named_any f hf _).mono ?_); rintro e w3 ⟨rfl, hx3⟩; rw [HN.out])
  go_ret2
  exact ⟨rfl, hx3⟩
set_option maxHeartbeats 800000 in
theorem encode_yes (f : Nat) (hf : f < 4294967296) (hn : namedB f = true) (w : World) : Calls Tryd.prog 29 #[.int .u32 (f : Int)] w (EncPost f w) := by
  have HN := Lib.hid hn
  have HL := Lib.hid (encB_len f)
  clear hn
  go_enter Tryd.func29, Tryd.ntmps29
  go_wp2_with fail
  (go_at_call 39; (with_reducible refine (named_any f hf _).mono ?_); rintro e w3 ⟨rfl, hx3⟩; rw [HN.out])
  go_wp2_with fail
  (go_at_call 63; (with_reducible refine (wbits_any f hf _).mono ?_); rintro e w4 ⟨A', c', rfl, hb, hc, hnil, hx'⟩)
  rw [HL.out] at hc ⊢
  go_wp2
  go_ret2
  exact ⟨A', c', rfl, hb, hc, hx3.trans hx'⟩
theorem conv_bs {w : World} {A : Option Addr} {bs : List UInt8} (n c : Nat) (h : BSw w A bs) (hn : bs.length = n) : (convert 50 9 (.slice A n c)).run Tryd.prog w = .ok (.string (bsOf bs)) w := by
  subst hn
  cases A with
  | none =>
    have hb : bs = [] := by
      by_cases hb : bs = []
      · exact hb
      · obtain ⟨_, _, h1, _⟩ := h hb; cases h1
    subst hb
    exact Lib.run_convert_nil_bytes w 50 9 5 c Tryd.underlying50 Tryd.underlying5 Tryd.underlying9
  | some a =>
    refine run_convert_bytes_back w 50 9 5 a c bs Tryd.underlying50 Tryd.underlying5 Tryd.underlying9 (fun j hj => ?_)
    have hne : bs ≠ [] := by rintro rfl; simp at hj
    obtain ⟨b, off, hA, hc⟩ := h hne
    have hb : BSw w (some ⟨b, off, none⟩) bs := by rw [← hA]; exact h
    injection hA with hA
    subst hA
    refine hb.news hne j _ ?_
    simp [cellsOf, hj]
theorem encB_lit (f : Nat) (hf : f < 4294967296) : cellsOf (encB f) = [.int .u8 3, .int .u8 5, .int .u8 0, .int .u8 ((f : Int) / 16777216), .int .u8 ((f : Int) / 65536 % 256), .int .u8 ((f : Int) / 256 % 256), .int .u8 ((f : Int) % 256)] := by
  have h : ([0] ++ numB (f : Int) 4).length = 5 := by simp [numB_len]
  unfold encB elB cellsOf
  rw [h]
  simp [lenB, numB, List.range_succ, byteI]
  refine ⟨?_, ?_, ?_, ?_⟩ <;> omega
end Go.Proofs.YtbgiciijiopklaaDoor
