/- The contract of lifetime.Text: the four numbers of valid times in decimal, a blank between. The table of powers of ten as the program lays it. -/
import Derived.Test.YtdpjkocpdomkbaaGreatDoorRefA
import Derived.Test.YtdpjkocpdomkbaaGreatDoorOwn
import Derived.Test.YtdpjkocpdomkbaaGreatDoorShelf
import Derived.Lib.ItoaLen
namespace Go.Proofs.YtdpjkocpdomkbaaGreatDoor
open Go.RowKit
theorem info_str : (Tryz.prog.info? 9).map (fun i => (i.zero, i.size, i.bytes)) = some (some (.string ⟨#[]⟩), 1, 16) := by kernel_rfl
theorem pow10_g : Tryz.prog.globalNamed "internal/strconv.uint64pow10" = some 2 := by kernel_rfl
theorem grow_ext (w : World) (k : Nat) (os : Array Obj) : Ext w (Go.Sort.grow (w.drewN k) os) :=
  ⟨rfl, rfl, rfl, by show w.heap.size ≤ (w.heap ++ os).size; simp, fun i hi => by show (w.heap ++ os)[i]? = w.heap[i]?; rw [Array.getElem?_append_left hi]⟩
theorem itoa_x (n : Int) (w : World) (h0 : -9223372036854775808 ≤ n) (h1 : n ≤ 9223372036854775807) (htab : Lib.TabIs Tryz.prog w "internal/strconv.uint64pow10" .u64 Lib.pow10Tab) :
    Calls Tryz.prog 21 #[.int .i64 n] w fun e w' => e = .returned (.string ⟨(Lib.itoa n).toArray⟩) ∧ Ext w w' :=
  (Tryz.strconv_Itoa n h0 h1 w htab).mono fun _ _ ⟨he, k, os, hw⟩ => ⟨he, hw ▸ grow_ext w k os⟩
def itoaV (z : Int) : Value := .string ⟨(Lib.itoa z).toArray⟩
/-- The string of times. -/
def textT (a s t r : Int) : ByteArray := ⟨(Lib.join ([a, s, t, r].map Lib.itoa) [32]).toArray⟩
/-- What Text hands back: the string, or the error. -/
def textR (a s t r : Int) : ByteArray × Int := if validT a s t r = true then (textT a s t r, 0) else (⟨#[]⟩, 2)
def TextPost (a s t r : Int) (w : World) (e : Ending) (w' : World) : Prop := e = .returned (.tuple #[.string (textR a s t r).1, .int .i64 (textR a s t r).2]) ∧ Ext w w'
theorem textR_ok {a s t r : Int} (h : validT a s t r = true) : textR a s t r = (textT a s t r, 0) := by unfold textR; rw [if_pos h]
theorem textR_bad {a s t r : Int} (h : validT a s t r = false) : textR a s t r = (⟨#[]⟩, 2) := by unfold textR; rw [if_neg (by simp [h])]
theorem textT_def (a s t r : Int) : textT a s t r = ⟨(Lib.join ([a, s, t, r].map Lib.itoa) [32]).toArray⟩ := rfl
attribute [irreducible] textR textT
theorem own4_of {w : World} {B e : Nat} {v : Value} {a s t r : Int} (h : w.ownsRow B e 1 v 4 ([itoaV a, itoaV s, itoaV t, itoaV r].take 4)) : w.ownsRow B e 1 v 4 ([a, s, t, r].map itoaV) := h
theorem join4_len (a s t r : Int) (ha : -9223372036854775808 ≤ a) (ha' : a ≤ 9223372036854775807) (hs : -9223372036854775808 ≤ s) (hs' : s ≤ 9223372036854775807) (ht : -9223372036854775808 ≤ t) (ht' : t ≤ 9223372036854775807) (hr : -9223372036854775808 ≤ r) (hr' : r ≤ 9223372036854775807) :
    (Lib.join (([a, s, t, r].map fun z => (⟨(Lib.itoa z).toArray⟩ : ByteArray)).map (·.data.toList)) ((⟨#[32]⟩ : ByteArray).data.toList)).length ≤ 140737488355328 := by
  have h1 := Lib.itoa_length_le a ha ha'
  have h2 := Lib.itoa_length_le s hs hs'
  have h3 := Lib.itoa_length_le t ht ht'
  have h4 := Lib.itoa_length_le r hr hr'
  simp [Lib.join, List.intercalate, List.intersperse]
  omega
set_option maxRecDepth 5000 in
set_option maxHeartbeats 1600000 in
theorem text_any (a s t r : Int) (w : World) (htab : Lib.TabIs Tryz.prog w "internal/strconv.uint64pow10" .u64 Lib.pow10Tab) :
    Calls Tryz.prog 6 #[.agg #[.int .i64 a, .int .i64 s, .int .i64 t, .int .i64 r]] w (TextPost a s t r w) := by
  have Htab := Lib.hid htab
  clear htab
  obtain ⟨i0, hi, hz0, hz1, hz2⟩ := info_parts info_str
  go_enter Tryz.func6, Tryz.ntmps6
  cases hv : validT a s t r
  · go_wp2_with (first | (go_at_call 13; (with_reducible refine (valid_any _ _ _ _ _).mono ?_); rintro e w_valid ⟨rfl, hx_valid⟩; try (have hz0_valid : w.heap.size < w_valid.heap.size := (by have := hx_valid.sz; (try simp at this); omega)); try (have hr0_valid := fun i => hx_valid.cells (w.heap.size) i (by first | assumption | (simp; done) | (simp; omega))); try (have hf0_valid := fun i => hx_valid.frozens (w.heap.size) i (by first | assumption | (simp; done) | (simp; omega))); try (have hz1_valid : w.heap.size + 1 < w_valid.heap.size := (by have := hx_valid.sz; (try simp at this); omega)); try (have hr1_valid := fun i => hx_valid.cells (w.heap.size + 1) i (by first | assumption | (simp; done) | (simp; omega))); try (have hf1_valid := fun i => hx_valid.frozens (w.heap.size + 1) i (by first | assumption | (simp; done) | (simp; omega))); try (have hz2_valid : w.heap.size + 1 + 1 < w_valid.heap.size := (by have := hx_valid.sz; (try simp at this); omega)); try (have hr2_valid := fun i => hx_valid.cells (w.heap.size + 1 + 1) i (by first | assumption | (simp; done) | (simp; omega))); try (have hf2_valid := fun i => hx_valid.frozens (w.heap.size + 1 + 1) i (by first | assumption | (simp; done) | (simp; omega))); try (have hz3_valid : w.heap.size + 1 + 1 + 1 < w_valid.heap.size := (by have := hx_valid.sz; (try simp at this); omega)); try (have hr3_valid := fun i => hx_valid.cells (w.heap.size + 1 + 1 + 1) i (by first | assumption | (simp; done) | (simp; omega))); try (have hf3_valid := fun i => hx_valid.frozens (w.heap.size + 1 + 1 + 1) i (by first | assumption | (simp; done) | (simp; omega)))))
    go_ret2
    exact ⟨by rw [textR_bad hv]; rfl, (by repeat (first | exact Ext.refl _ | assumption | refine Ext.drew ?_ | refine Ext.alloc ?_ _ | refine Ext.setCell ?_ (by first | exact Nat.le_refl _ | (simp; done) | (simp; omega)) _ | refine Ext.trans ?_ (by assumption)))⟩
  · have HV := Lib.hid hv
    obtain ⟨⟨_, _⟩, ⟨_, _⟩, ⟨_, _⟩, ⟨_, _⟩, _, _, h3⟩ := validT_true hv
    clear h3
    go_wp2_with (first | (go_at_call 13; (with_reducible refine (valid_any _ _ _ _ _).mono ?_); rintro e w_valid ⟨rfl, hx_valid⟩; try (have hz0_valid : w.heap.size < w_valid.heap.size := (by have := hx_valid.sz; (try simp at this); omega)); try (have hr0_valid := fun i => hx_valid.cells (w.heap.size) i (by first | assumption | (simp; done) | (simp; omega))); try (have hf0_valid := fun i => hx_valid.frozens (w.heap.size) i (by first | assumption | (simp; done) | (simp; omega))); try (have hz1_valid : w.heap.size + 1 < w_valid.heap.size := (by have := hx_valid.sz; (try simp at this); omega)); try (have hr1_valid := fun i => hx_valid.cells (w.heap.size + 1) i (by first | assumption | (simp; done) | (simp; omega))); try (have hf1_valid := fun i => hx_valid.frozens (w.heap.size + 1) i (by first | assumption | (simp; done) | (simp; omega))); try (have hz2_valid : w.heap.size + 1 + 1 < w_valid.heap.size := (by have := hx_valid.sz; (try simp at this); omega)); try (have hr2_valid := fun i => hx_valid.cells (w.heap.size + 1 + 1) i (by first | assumption | (simp; done) | (simp; omega))); try (have hf2_valid := fun i => hx_valid.frozens (w.heap.size + 1 + 1) i (by first | assumption | (simp; done) | (simp; omega))); try (have hz3_valid : w.heap.size + 1 + 1 + 1 < w_valid.heap.size := (by have := hx_valid.sz; (try simp at this); omega)); try (have hr3_valid := fun i => hx_valid.cells (w.heap.size + 1 + 1 + 1) i (by first | assumption | (simp; done) | (simp; omega))); try (have hf3_valid := fun i => hx_valid.frozens (w.heap.size + 1 + 1 + 1) i (by first | assumption | (simp; done) | (simp; omega)))))
    go_loopw [4, 20] (fun v i wr => ∃ k : Nat, k ≤ 4 ∧ i = .int .i64 k ∧ Ext (w_valid.alloc (.cells #[.int .i64 a, .int .i64 s, .int .i64 t, .int .i64 r] 3)) wr ∧ wr.ownsRow (w_valid.heap.size + 1) 9 1 v k ([itoaV a, itoaV s, itoaV t, itoaV r].take k)) (fun _ i _ => 4 - (intOf i).toNat)
    case atStart => exact ⟨0, by omega, rfl, Ext.refl _, World.ownsRow_nil _ _ _ _⟩
    case round =>
      obtain ⟨k, hk, rfl, hx, hown⟩ := hrel
      by_cases hlt : k < 4
      · obtain ⟨z, hcell, hz0', hz1', hstep⟩ : ∃ z, wr.cell? ⟨w_valid.heap.size, k, none⟩ = some (.int .i64 z) ∧ 0 ≤ z ∧ z ≤ 1099511627776 ∧ [itoaV a, itoaV s, itoaV t, itoaV r].take (k + 1) = [itoaV a, itoaV s, itoaV t, itoaV r].take k ++ [itoaV z] := by
          have h4 : k = 0 ∨ k = 1 ∨ k = 2 ∨ k = 3 := by omega
          rcases h4 with rfl | rfl | rfl | rfl
          · exact ⟨a, hx.cell (by simp [go_sem]), by omega, by omega, rfl⟩
          · exact ⟨s, hx.cell (by simp [go_sem]), by omega, by omega, rfl⟩
          · exact ⟨t, hx.cell (by simp [go_sem]), by omega, by omega, rfl⟩
          · exact ⟨r, hx.cell (by simp [go_sem]), by omega, by omega, rfl⟩
        have Hstep := Lib.hid hstep
        have hx0 : Ext w wr := (by repeat (first | exact Ext.refl _ | assumption | refine Ext.drew ?_ | refine Ext.alloc ?_ _ | refine Ext.setCell ?_ (by first | exact Nat.le_refl _ | (simp; done) | (simp; omega)) _ | refine Ext.trans ?_ (by assumption)))
        clear hstep
        go_wp2_with (first | (go_at_call 21; (with_reducible refine (itoa_x _ _ (by omega) (by omega) (Ext.tab hx0 pow10_g Htab.out)).mono ?_); rintro e w_itoa ⟨rfl, hx2⟩) | (at_builtin; refine wpList_append_own _ rfl (.tmp 24) (.tmp 27) 49 rfl (w_valid.heap.size + 1) 9 i0 (.string ⟨#[]⟩) 1 16 Tryz.underlying49 hi hz0 hz1 hz2 rfl (by decide) _ _ _ rfl ((own_ext hown hx2).alloc _) ⟨w_itoa.heap.size, 0, none⟩ 1 1 [itoaV z] rfl rfl ?c1 ?c2 ?c3 ?c4 ?c5 ?_))
        case c1 =>
          intro j u hj
          match j, hj with
          | 0, hj => simp at hj; subst hj; simp [Addr.add, itoaV]
        case c2 => intro u hu; simp at hu; subst hu; rfl
        case c3 => unfold maxLen; omega
        case c4 => omega
        case c5 => have := hx.sz; have := hx2.sz; simp at *; omega
        intro v' w1 hown' hgrow _
        have hx3 : Ext (w_valid.alloc (.cells #[.int .i64 a, .int .i64 s, .int .i64 t, .int .i64 r] 3)) w1 :=
          Ext.grown ((hx.trans hx2).alloc _) (by simp) ((own_ext hown hx2).alloc _) hgrow
        have Hown := Lib.hid hown'
        clear hown' hgrow hown hcell
        go_wp2
        go_roundw
        case rel => exact ⟨k + 1, by omega, by go_num, hx3, by rw [Hstep.out]; exact Hown.out⟩
        case measure => simp [intOf]; omega
      · obtain rfl : k = 4 := by omega
        have hown4 := own4_of hown
        obtain ⟨g, cap, hv', hg1, hg2, hcap, hcm⟩ := ownsRow_some hown4 (by omega)
        subst hv'
        have hj := Tryz.strings_Join g 0 cap ([a, s, t, r].map fun z => ⟨(Lib.itoa z).toArray⟩) ⟨#[32]⟩ wr (by
          intro j x hx'
          have h4 : j < 4 := by
            rcases Nat.lt_or_ge j 4 with h | h
            · exact h
            · rw [List.getElem?_eq_none (by simpa using h)] at hx'; cases hx'
          rw [Nat.zero_add, World.ownsRow.cellAt hown4 j (by omega)]
          rw [List.getElem?_map] at hx' ⊢
          cases hz : [a, s, t, r][j]? with
          | none => rw [hz] at hx'; cases hx'
          | some y => rw [hz] at hx'; simp only [Option.map_some, Option.some.injEq] at hx' ⊢; subst hx'; rfl) hg1 (by simp) (by simpa using hcap) (join4_len a s t r (by omega) (by omega) (by omega) (by omega) (by omega) (by omega) (by omega) (by omega))
        have Hj := Lib.hid hj
        clear hj hown4 hown
        go_wp2_with (go_at_call 22; (refine Hj.out.mono ?_); rintro e w_join ⟨rfl, hx4⟩)
        go_ret2
        exact ⟨by rw [textR_ok HV.out, textT_def]; simp, by have hx5 : Ext wr w_join := hx4; repeat (first | exact Ext.refl _ | assumption | refine Ext.alloc ?_ _ | refine Ext.trans ?_ (by assumption))⟩
end Go.Proofs.YtdpjkocpdomkbaaGreatDoor
