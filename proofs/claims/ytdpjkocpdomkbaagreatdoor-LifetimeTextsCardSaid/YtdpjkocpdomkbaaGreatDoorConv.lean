/- string(b) of bytes that lie somewhere; the reference's Decimal and Text. -/
import Derived.Test.YtdpjkocpdomkbaaGreatDoorRefDerW
import Derived.Test.YtdpjkocpdomkbaaGreatDoorText
import Derived.Test.YtdpjkocpdomkbaaGreatDoorDagP
import Derived.Laws.IdiomStrings
import Derived.Lib.BufferRead
namespace Go.Proofs.YtdpjkocpdomkbaaGreatDoor
open Go.RowKit
def strOf (bs : List UInt8) : ByteArray := ⟨bs.toArray⟩
theorem conv_bs {w : World} {A : Option Addr} {bs : List UInt8} (n c : Nat) (h : BSw w A bs) (hn : bs.length = n) : (convert 28 9 (.slice A n c)).run Tryz.prog w = .ok (.string (strOf bs)) w := by
  subst hn
  cases A with
  | none =>
    have hb : bs = [] := by
      by_cases hb : bs = []
      · exact hb
      · obtain ⟨_, _, h1, _⟩ := h hb; cases h1
    subst hb
    exact Lib.run_convert_nil_bytes w 28 9 5 c Tryz.underlying28 Tryz.underlying5 Tryz.underlying9
  | some a =>
    refine run_convert_bytes_back w 28 9 5 a c bs Tryz.underlying28 Tryz.underlying5 Tryz.underlying9 (fun j hj => ?_)
    have hne : bs ≠ [] := by rintro rfl; simp at hj
    obtain ⟨b, off, hA, hc⟩ := h hne
    have hb : BSw w (some ⟨b, off, none⟩) bs := by rw [← hA]; exact h
    injection hA with hA
    subst hA
    refine hb.news hne j _ ?_
    simp [cellsOf, hj]
theorem BSw.lit {w : World} {b : Nat} {T : TypeId} {fr : Nat × Nat} {bs : List UInt8} (h : w.heap[b]? = some (.cells ⟨cellsOf bs⟩ T fr)) : BSw w (some ⟨b, 0, none⟩) bs := fun _ =>
  ⟨b, 0, rfl, fun j hj => by rw [Nat.zero_add, cell_heap h j]; simp [cellsOf, hj]⟩
theorem conv_one (x : Nat) (hx : x < 256) (z : Int) (hz : z = x) (w : World) : (convert 28 9 (.slice (some ⟨w.heap.size, 0, none⟩) 1 1)).run Tryz.prog (w.alloc (.cells #[.int .u8 z] 5)) = .ok (.string (strOf [UInt8.ofNat x])) (w.alloc (.cells #[.int .u8 z] 5)) := by
  subst hz
  refine conv_bs 1 1 (BSw.lit (T := 5) (fr := (0, 0)) ?_) rfl
  have : cellsOf [UInt8.ofNat x] = [.int .u8 (x : Int)] := by simp [cellsOf]; omega
  rw [this]
  exact heap_new w _
theorem str_size (l : List UInt8) : (strOf l).size = l.length := by simp [strOf, ByteArray.size]
theorem dec_size (n : Nat) (h : (n : Int) ≤ 9223372036854775807) : (strOf (Lib.decDigits n)).size ≤ 21 := by
  rw [str_size, ← Lib.itoa_nonneg]
  exact Lib.itoa_length_le (n : Int) (by omega) h
theorem str_add (a b : List UInt8) : strOf a ++ strOf b = strOf (a ++ b) := by
  apply ByteArray.ext
  simp [strOf, ByteArray.data_append]
/-- The last digit. -/
def digB (n : Nat) : UInt8 := UInt8.ofNat (48 + n % 10)
theorem digB_def (n : Nat) : digB n = UInt8.ofNat (48 + n % 10) := rfl
attribute [irreducible] digB
set_option maxRecDepth 6000 in
set_option maxHeartbeats 1600000 in
theorem rDecimal_any : ∀ (n : Nat), (n : Int) ≤ 9223372036854775807 → ∀ (z : Int), z = n → ∀ w : World, Calls Tryz.prog 27 #[.int .i64 z] w fun e w' => e = .returned (.string (strOf (Lib.decDigits n))) ∧ Ext w w' := by
  intro n
  induction n using Nat.strongRecOn with
  | _ n ih =>
    intro hn z hz w
    subst hz
    have m1 : (48 + (n : Int) % 10) % 256 = 48 + (n : Int) % 10 := by omega
    have hl := conv_one (48 + n % 10) (by omega) (48 + (n : Int) % 10) (by omega) w
    rw [← digB_def] at hl
    have mw : wrap64 ((n : Int) / 10) = (n : Int) / 10 := IntWalk.wrap64_in _ (by omega)
    by_cases h : n < 10
    · have hd : Lib.decDigits n = [digB n] := by rw [Lib.decDigits, dif_pos h, digB_def, Nat.mod_eq_of_lt h]
      have hlt : decide ((n : Int) < 10) = true := by simp; omega
      have HD := Lib.hid hd
      clear hd ih hn h
      go_enter Tryz.func27, Tryz.ntmps27
      go_wp2
      go_ret
      rw [HD.out]
      exact ⟨rfl, (by repeat (first | exact Ext.refl _ | assumption | refine Ext.drew ?_ | refine Ext.alloc ?_ _ | refine Ext.setCell ?_ (by first | exact Nat.le_refl _ | (simp; done) | (simp; omega)) _ | refine Ext.trans ?_ (by assumption)))⟩
    · have hd : Lib.decDigits n = Lib.decDigits (n / 10) ++ [digB n] := by rw [Lib.decDigits, dif_neg h, digB_def]
      have hlt : decide ((n : Int) < 10) = false := by simp; omega
      have hs1 := dec_size (n / 10) (by omega)
      have hs2 : (strOf [digB n]).size = 1 := str_size _
      have IH := Lib.hid (ih (n / 10) (by omega) (by omega))
      have HD := Lib.hid hd
      clear hd ih hn h
      go_enter Tryz.func27, Tryz.ntmps27
      go_wp2_with fail

      (go_at_call 27; (with_reducible refine (IH.out ((n : Int) / 10) (by omega) _).mono ?_); rintro e w1 ⟨rfl, hx1⟩)
      go_wp2
      go_ret
      rw [HD.out]
      exact ⟨by rw [← str_add]; rfl, (by repeat (first | exact Ext.refl _ | assumption | refine Ext.drew ?_ | refine Ext.alloc ?_ _ | refine Ext.setCell ?_ (by first | exact Nat.le_refl _ | (simp; done) | (simp; omega)) _ | refine Ext.trans ?_ (by assumption)))⟩
end Go.Proofs.YtdpjkocpdomkbaaGreatDoor
