/- Contracts of package der's writing: number, slices.Grow at nil, slices.Concat at bytes, element. -/
import Derived.Test.YtdpjkocpdomkbaaGreatDoorDerC
import Derived.LoopTactic
import Derived.Lib.AppendZeros
import Derived.Lib.AppendZerosOnto
import Derived.Laws.AppendOwnNone
import Derived.Laws.OwnMore
namespace Go.Proofs.YtdpjkocpdomkbaaGreatDoor
open Go.RowKit
/-- Byte i of the n bytes of a number, the greatest first. -/
def byteI (v : Int) (n i : Nat) : Int := (v / 2 ^ (8 * (n - 1 - i))) % 256
theorem byteI_bd (v : Int) (n i : Nat) : 0 ≤ byteI v n i ∧ byteI v n i < 256 := by unfold byteI; omega
def numB (v : Int) (n : Nat) : List UInt8 := (List.range n).map fun i => UInt8.ofNat (byteI v n i).toNat
theorem numB_len (v : Int) (n : Nat) : (numB v n).length = n := by simp [numB]
def numC (v : Int) (n k : Nat) : Array Value := ((List.range n).map fun i => if i < k then Value.int .u8 (byteI v n i) else .int .u8 0).toArray
theorem numC_zero (v : Int) (n : Nat) : numC v n 0 = Array.replicate n (.int .u8 0) := by
  apply Array.ext
  · simp [numC]
  · intro i h1 h2; simp [numC]
theorem numC_get (v : Int) (n k i : Nat) (h : i < n) : (numC v n k)[i]? = some (if i < k then Value.int .u8 (byteI v n i) else .int .u8 0) := by
  simp [numC, h]
theorem numC_size (v : Int) (n k : Nat) : (numC v n k).size = n := by simp [numC]
theorem numC_succ (v : Int) (n k : Nat) : (numC v n k).setIfInBounds k (.int .u8 (byteI v n k)) = numC v n (k + 1) := by
  apply Array.ext_getElem?
  intro i
  rw [Array.getElem?_setIfInBounds, numC_size]
  by_cases hi : i < n
  · rw [numC_get v n (k + 1) i hi, numC_get v n k i hi]
    by_cases h : k = i
    · subst h; rw [if_pos rfl, if_pos hi, if_pos (by omega)]
    · rw [if_neg h]
      by_cases h3 : i < k
      · rw [if_pos h3, if_pos (by omega)]
      · rw [if_neg h3, if_neg (by omega)]
  · rw [Array.getElem?_eq_none (by rw [numC_size]; omega), Array.getElem?_eq_none (by rw [numC_size]; omega)]
    by_cases h : k = i
    · rw [if_pos h, if_neg (by omega)]
    · rw [if_neg h]
theorem numC_BS {w : World} {b : Nat} {v : Int} {n : Nat} (h : w.heap[b]? = some (.cells (numC v n n) 5 (0, 0))) : BS w (some ⟨b, 0, none⟩) (numB v n) := fun _ =>
  ⟨b, 0, _, _, rfl, h, fun j hj => by
    have hj' : j < n := by rw [numB_len] at hj; exact hj
    have hb := byteI_bd v n j
    rw [Nat.zero_add, numC_get v n n j hj', if_pos hj']
    simp only [numB, List.getElem_map, List.getElem_range]
    rw [UInt8.toNat_ofNat']
    congr 2
    omega⟩
theorem made_zero (v : Int) (n : Nat) : madeCells (Value.int .u8 0).cells (n * 1) = numC v n 0 := by
  rw [numC_zero]
  apply Array.ext
  · simp [madeCells]
  · intro i h1 h2; simp [madeCells, Value.cells, Nat.mod_one]
theorem run_make_u8 (v : Int) (n : Nat) (hn : n ≤ 281474976710656) (w : World) : (Instr.makeSlice 28 (.int .i64 (n : Int)) (.int .i64 (n : Int))).run Tryz.prog w = .ok (.slice (some ⟨w.heap.size, 0, none⟩) n n) (w.alloc (.cells (numC v n 0) 5)) := by
  obtain ⟨i0, hi, hz0, hz1, hz2⟩ := info_parts info_u8
  have := run_make (P := Tryz.prog) w 28 5 i0 (.int .u8 0) Tryz.underlying28 hi hz0 .i64 .i64 n n (by omega) (by omega) (by rw [hz2]; omega) (by omega)
  rw [hz1] at this
  simp only [Int.toNat_natCast] at this
  rw [made_zero v n] at this
  exact this
set_option maxRecDepth 4000 in
set_option maxHeartbeats 1600000 in
theorem number_any (v : Int) (n : Nat) (hn0 : 0 < n) (hn : n ≤ 8) (z : Int) (hz : z = n) (w : World) :
    Calls Tryz.prog 48 #[.int .i64 v, .int .i64 z] w fun e w' => e = .returned (.slice (some ⟨w.heap.size, 0, none⟩) n n) ∧ BS w' (some ⟨w.heap.size, 0, none⟩) (numB v n) ∧ Ext w w' := by
  subst hz
  have hmk := run_make_u8 v n (by omega)
  go_enter Tryz.func48, Tryz.ntmps48
  go_wp2
  go_loopw [11] (fun i wr => ∃ k : Nat, k ≤ n ∧ i = .int .i64 k ∧ wr.heap[w.heap.size]? = some (.cells (numC v n k) 5 (0, 0)) ∧ Ext w wr) (fun i _ => n - (intOf i).toNat)
  case atStart => exact ⟨0, Nat.zero_le _, rfl, heap_new _ _, (Ext.refl w).alloc _⟩
  case round =>
    obtain ⟨k, hk, rfl, hh, hx⟩ := hrel
    by_cases hlt : k < n
    · have hc := cell_heap hh k
      have hf := frozen_heap hh k
      rw [numC_get v n k k hlt] at hc
      have hd : ((8 * (n - 1 - k) : Nat) : Int) = 8 * ((n : Int) - 1 - k) := by omega
      have HH := Lib.hid hh
      clear hh
      go_wp2
      go_roundw
      case rel =>
        refine ⟨k + 1, by omega, by go_num, ?_, hx.setCell (Nat.le_refl _) _⟩
        have := set_heap (i := k) HH.out (.int .u8 (byteI v n k))
        rw [numC_succ] at this
        exact this
      case measure => simp [intOf]; omega
    · obtain rfl : k = n := by omega
      have HH := Lib.hid hh
      clear hh
      go_wp2
      go_ret
      exact ⟨rfl, numC_BS HH.out, hx⟩
set_option maxHeartbeats 800000 in
theorem grow_zero (w : World) : Calls Tryz.prog 92 #[.slice none 0 0, .int .i64 0] w fun e w' => e = .returned (.slice none 0 0) ∧ w = w' := by
  go_enter Tryz.func92, Tryz.ntmps92
  go_wp2
  go_ret
  exact ⟨rfl, rfl⟩
set_option maxHeartbeats 1600000 in
theorem grow_any (n : Nat) (h0 : 0 < n) (hn : n ≤ 140737488355328) (w : World) : Calls Tryz.prog 92 #[.slice none 0 0, .int .i64 (n : Int)] w fun e w' => ∃ C, e = .returned (.slice (some ⟨w.heap.size, 0, none⟩) 0 C) ∧ w'.ownsRow w.heap.size 5 1 (.slice (some ⟨w.heap.size, 0, none⟩) 0 C) 0 [] ∧ Ext w w' := by
  obtain ⟨i0, hi, hz0, hz1, hz2⟩ := info_parts info_u8
  have hr := fun ty => Lib.run_append_nil_zeros (P := Tryz.prog) w 28 3 ty 5 i0 (.int .u8 0) .i64 .i64 Tryz.underlying28 Tryz.underlying3 hi hz0 n h0 (by rw [hz1]; omega) (by omega) (by rw [hz2]; omega)
  have hG := grownCap_ge w n 0 5
  have hM := grownCap_le_maxLen w n 0 5 (by unfold maxLen; omega)
  generalize grownCap w n 0 5 = G at *
  have hM' := hM
  unfold maxLen at hM'
  have hcs : (Builtin.zeroCells (Value.int .u8 0).cells n ++ Builtin.zeroCells (Value.int .u8 0).cells (G - n)).size = G * 1 := by
    simp [Builtin.zeroCells, Value.cells]; omega
  have hown := World.ownsRow_made (base := w.heap.size) (e := 5) (size := 1) w.drew _ G (Nat.le_refl _) hM hcs
  have HO := Lib.hid hown
  clear hown hcs hM
  have d1 : ¬ ((n : Int) < 0) := by omega
  go_enter Tryz.func92, Tryz.ntmps92
  go_wp2_with (at_builtin; refine Lib.wpList_append_run _ rfl _ _ _ _ rfl _ _ rfl rfl _ _ (hr _) ?_)
  all_goals
    go_ret
    exact ⟨G, rfl, HO.out, ((Ext.refl w).drew).alloc _⟩
theorem grow_all (n : Nat) (hn : n ≤ 140737488355328) (w : World) : Calls Tryz.prog 92 #[.slice none 0 0, .int .i64 (n : Int)] w fun e w' => ∃ v, e = .returned v ∧ w'.ownsRow w.heap.size 5 1 v 0 [] ∧ Ext w w' := by
  rcases Nat.eq_zero_or_pos n with rfl | h0
  · exact (grow_zero w).mono fun e w' ⟨he, hw⟩ => ⟨_, he, World.ownsRow_nil _ _ _ _, hw ▸ Ext.refl _⟩
  · exact (grow_any n h0 hn w).mono fun e w' ⟨C, he, ho, hx⟩ => ⟨_, he, ho, hx⟩
/-- A slice of bytes as a value: where it lies, its room, its bytes. -/
structure Part where
  A : Option Addr
  c : Nat
  bs : List UInt8
def PartOk (w : World) (p : Part) : Prop := BSw w p.A p.bs ∧ (p.A = none → p.c = 0)
theorem PartOk.ext {w w' : World} {p : Part} (h : PartOk w p) (e : Ext w w') : PartOk w' p := ⟨h.1.ext e, h.2⟩
def PartsAt (w : World) (b : Nat) (ps : List Part) : Prop := ∀ j (h : j < ps.length), w.cell? ⟨b, j, none⟩ = some (.slice ps[j].A ps[j].bs.length ps[j].c)
theorem PartsAt.ext {w w' : World} {b : Nat} {ps : List Part} (h : PartsAt w b ps) (e : Ext w w') : PartsAt w' b ps := fun j hj => e.cell (h j hj)
def flatP (ps : List Part) : List UInt8 := (ps.map (·.bs)).flatten
theorem flatP_snoc (ps : List Part) (p : Part) : flatP (ps ++ [p]) = flatP ps ++ p.bs := by simp [flatP]
theorem flatP_take (ps : List Part) (k : Nat) (h : k < ps.length) : flatP (ps.take (k + 1)) = flatP (ps.take k) ++ ps[k].bs := by
  rw [List.take_succ_eq_append_getElem h, flatP_snoc]
theorem flatP_le (ps : List Part) (k : Nat) : (flatP (ps.take k)).length ≤ (flatP ps).length := by
  have : flatP ps = flatP (ps.take k) ++ flatP (ps.drop k) := by
    unfold flatP
    rw [← List.flatten_append, ← List.map_append, List.take_append_drop]
  rw [this, List.length_append]; omega
theorem part_nil {w : World} {p : Part} (h : PartOk w p) (hA : p.A = none) : p.bs = [] := by
  by_cases hb : p.bs = []
  · exact hb
  · obtain ⟨_, _, h1, _⟩ := h.1 hb
    rw [hA] at h1; cases h1
theorem part_news {w : World} {p : Part} (h : PartOk w p) {ad : Addr} (hA : p.A = some ad) : ∀ j u, (cellsOf p.bs)[j]? = some u → w.cell? (ad.add j) = some u := by
  intro j u hu
  by_cases hb : p.bs = []
  · rw [hb] at hu; simp [cellsOf] at hu
  · obtain ⟨b, off, h1, h2⟩ := h.1 hb
    rw [hA] at h1
    injection h1 with h1
    subst h1
    have h3 := h.1
    rw [hA] at h3
    exact h3.news hb j u hu
/-- Bytes are handed back; memory has grown. -/
def Bytes (bs : List UInt8) (w : World) (e : Ending) (w' : World) : Prop := ∃ A' c', e = .returned (.slice A' bs.length c') ∧ BS w' A' bs ∧ bs.length ≤ c' ∧ (A' = none → c' = 0) ∧ Ext w w'
theorem own_bytes {w w' : World} {base : Nat} {v : Value} {bs : List UInt8} {n : Nat} (hn : n = bs.length) (h : w'.ownsRow base 5 1 v n (cellsOf bs)) (hx : Ext w w') : Bytes bs w (.returned v) w' := by
  subst hn
  obtain ⟨A', c', rfl, hnil⟩ : ∃ A' c', v = .slice A' bs.length c' ∧ (A' = none → c' = 0) := by
    rcases h.2 with ⟨rfl, h0⟩ | ⟨g, cap, cur, rfl, _⟩
    · exact ⟨none, 0, by rw [h0], fun _ => rfl⟩
    · exact ⟨_, _, rfl, fun h => by cases h⟩
  have hb := BS.of_own h
  exact ⟨A', c', rfl, hb.1, hb.2.1, hnil, hx⟩
set_option maxRecDepth 4000 in
set_option maxHeartbeats 3200000 in
theorem concat_any (ps : List Part) (b cap len : Nat) (w : World) (hlen : len = ps.length) (hc : PartsAt w b ps) (hok : ∀ p ∈ ps, PartOk w p) (hbig : (flatP ps).length ≤ 1099511627776) (hps : len ≤ 1099511627776) :
    Calls Tryz.prog 72 #[.slice (some ⟨b, 0, none⟩) len cap] w (Bytes (flatP ps) w) := by
  subst hlen
  obtain ⟨i0, hi, hz0, hz1, hz2⟩ := info_parts info_u8
  have HC := Lib.hid hc
  have HO := Lib.hid hok
  clear hc hok
  go_enter Tryz.func72, Tryz.ntmps72
  go_wp2
  go_loop [3, 11] (fun s i => ∃ k : Nat, k ≤ ps.length ∧ i = .int .i64 k ∧ s = .int .i64 ((flatP (ps.take k)).length : Nat)) (fun _ i => ps.length - (intOf i).toNat)
  case atStart => exact ⟨0, Nat.zero_le _, rfl, by simp [flatP]⟩
  case round =>
    obtain ⟨k, hk, rfl, rfl⟩ := hrel
    have hle := flatP_le ps k
    by_cases hlt : k < ps.length
    · have hcell := HC.out k hlt
      have hle2 := flatP_le ps (k + 1)
      have hs := flatP_take ps k hlt
      have hs2 := congrArg List.length hs
      rw [List.length_append] at hs2
      have HS := Lib.hid hs2
      have hb1 : (flatP (ps.take k)).length + ps[k].bs.length ≤ 1099511627776 := by omega
      clear hs hs2 hle2 hle
      generalize ps[k].bs.length = m at *
      generalize (flatP (ps.take k)).length = s at *
      generalize ps[k].A = A0 at *
      generalize ps[k].c = c0 at *
      go_wp2
      go_round
      case rel => exact ⟨k + 1, by omega, by go_num, by rw [HS.out]; go_num⟩
      case measure => simp [intOf]; omega
    · obtain rfl : k = ps.length := by omega
      rw [List.take_length]
      have hsame : ps.length ≤ 1099511627776 := hps
      generalize hN : (flatP ps).length = N at *
      have HN := Lib.hid hN
      clear hle hN
      go_wp2_with (first | (go_at_call 92; (with_reducible refine (grow_all N (by omega) _).mono ?_); rintro e w1 ⟨v0, rfl, hown0, hx0⟩))
      have HW := Lib.hid hown0
      clear hown0
      go_loopw [6, 27] (fun v i wr => ∃ k : Nat, k ≤ ps.length ∧ i = .int .i64 k ∧ Hid (wr.ownsRow w.heap.size 5 1 v (flatP (ps.take k)).length (cellsOf (flatP (ps.take k)))) ∧ Ext w wr) (fun _ i _ => ps.length - (intOf i).toNat)
      case atStart => exact ⟨0, Nat.zero_le _, rfl, by simpa [flatP, cellsOf] using HW, hx0⟩
      case round =>
        obtain ⟨k, hk, rfl, HR, hx⟩ := hrel
        by_cases hlt : k < ps.length
        · have hcell := hx.cell (HC.out k hlt)
          have hpk := (HO.out ps[k] (List.getElem_mem hlt)).ext hx
          have hle2 := flatP_le ps (k + 1)
          have hs := flatP_take ps k hlt
          have hs2 := congrArg List.length hs
          rw [List.length_append] at hs2
          have hle3 : (flatP (ps.take k)).length + ps[k].bs.length ≤ 1099511627776 := by have := HN.out; omega
          have hcs : cellsOf (flatP (ps.take (k + 1))) = cellsOf (flatP (ps.take k)) ++ cellsOf ps[k].bs := by rw [hs]; simp [cellsOf]
          have HS := Lib.hid hs2
          have HCS := Lib.hid hcs
          have hbase := hx.sz
          clear hs hs2 hle2 hcs
          generalize hpp : ps[k] = pk at *
          obtain ⟨A0, c0, bs0⟩ := pk
          simp only at hcell hpk hle3
          have HP := Lib.hid hpk
          clear hpk hpp
          cases A0 with
          | none =>
            have hb0 := part_nil HP.out rfl
            have hc0 := HP.out.2 rfl
            simp only at hb0 hc0
            subst hb0 hc0
            go_wp2_with (at_builtin; refine wpList_append_own_none rfl _ _ 28 rfl w.heap.size 5 i0 1 Tryz.underlying28 hi _ _ _ rfl HR.out rfl ?_)
            go_roundw
            case rel => exact ⟨k + 1, by omega, by go_num, by rw [HS.out, HCS.out]; simpa [cellsOf] using HR, hx⟩
            case measure => simp [intOf]; omega
          | some ad =>
            have hnews := Lib.hid (part_news HP.out rfl)
            go_wp2_with (at_builtin; refine wpList_append_own _ rfl _ _ 28 rfl w.heap.size 5 i0 (.int .u8 0) 1 1 Tryz.underlying28 hi hz0 hz1 hz2 rfl (by decide) _ _ _ rfl HR.out ad bs0.length c0 (cellsOf bs0) rfl ?c2 hnews.out ?c4 ?c5 ?c6 hbase ?_)
            case c2 => simp [cellsOf]
            case c4 => intro u hu; simp [cellsOf] at hu; obtain ⟨x, _, rfl⟩ := hu; rfl
            case c5 => unfold maxLen; omega
            case c6 => omega
            intro v' w3 hown' hgrow _
            have hx3 : Ext w w3 := Ext.of_grown_new hx hgrow (fun g hg => (HR.out.lt g hg).1)
            clear hgrow
            go_wp2
            go_roundw
            case rel => exact ⟨k + 1, by omega, by go_num, by rw [HS.out, HCS.out]; exact Lib.hid hown', hx3⟩
            case measure => simp [intOf]; omega
        · obtain rfl : k = ps.length := by omega
          go_wp2
          go_ret
          have := HR.out
          rw [List.take_length] at this
          exact own_bytes rfl this hx
theorem ownsRow_ext {w w' : World} {base : Nat} {e : TypeId} {size n : Nat} {v : Value} {xs : List Value} (h : w.ownsRow base e size v n xs) (hx : Ext w w') : w'.ownsRow base e size v n xs := by
  refine ⟨h.1, ?_⟩
  rcases h.2 with h0 | ⟨g, cap, cur, rfl, hb, hg, rest⟩
  · exact .inl h0
  · exact .inr ⟨g, cap, cur, rfl, hb, hx.heap hg, rest⟩
theorem part_lit {w : World} {b : Nat} {x : UInt8} (h : w.heap[b]? = some (.cells #[.int .u8 (x.toNat : Int)] 5 (0, 0))) : PartOk w ⟨some ⟨b, 0, none⟩, 1, [x]⟩ := by
  refine ⟨fun _ => ⟨b, 0, rfl, fun j hj => ?_⟩, fun h => by cases h⟩
  have hj0 : j = 0 := by simp at hj; omega
  subst hj0
  exact cell_heap h 0
theorem concat3 (A0 A1 A2 : Option Addr) (c0 c1 c2 n0 n1 n2 : Nat) (bs0 bs1 bs2 : List UInt8) {b cap : Nat} {T : TypeId} {fr : Nat × Nat} {w : World} (h : w.heap[b]? = some (.cells #[.slice A0 n0 c0, .slice A1 n1 c1, .slice A2 n2 c2] T fr))
    (e0 : n0 = bs0.length) (e1 : n1 = bs1.length) (e2 : n2 = bs2.length) (h0 : PartOk w ⟨A0, c0, bs0⟩) (h1 : PartOk w ⟨A1, c1, bs1⟩) (h2 : PartOk w ⟨A2, c2, bs2⟩) (hbig : bs0.length + bs1.length + bs2.length ≤ 1099511627776) :
    Calls Tryz.prog 72 #[.slice (some ⟨b, 0, none⟩) 3 cap] w (Bytes (bs0 ++ (bs1 ++ bs2)) w) := by
  subst e0 e1 e2
  have := concat_any [⟨A0, c0, bs0⟩, ⟨A1, c1, bs1⟩, ⟨A2, c2, bs2⟩] b cap 3 w rfl (fun j hj => by
    have hj3 : j < 3 := hj
    rcases (by omega : j = 0 ∨ j = 1 ∨ j = 2) with rfl | rfl | rfl
    all_goals exact cell_heap h _) (fun p hp => by
    simp only [List.mem_cons, List.not_mem_nil, or_false] at hp
    rcases hp with rfl | rfl | rfl
    · exact h0
    · exact h1
    · exact h2) (by simp [flatP]; omega) (by decide)
  simpa [flatP] using this
/-- The length of an element. -/
def lenK (n : Nat) : Nat := if n < 256 then 1 else if n < 65536 then 2 else 3
def lenB (n : Nat) : List UInt8 := if n < 128 then [UInt8.ofNat n] else UInt8.ofNat (128 + lenK n) :: numB n (lenK n)
def elB (tag : Nat) (bs : List UInt8) : List UInt8 := [UInt8.ofNat tag] ++ (lenB bs.length ++ bs)
theorem lenB_le (n : Nat) : (lenB n).length ≤ 4 := by
  unfold lenB lenK
  split
  · simp
  · rw [List.length_cons, numB_len]; split; omega; split <;> omega
theorem u8_of (n : Nat) (h : n < 256) : (UInt8.ofNat n).toNat = n := by rw [UInt8.toNat_ofNat']; omega
/-- Behind the length: the element is put together. -/
theorem element_end (tag : Nat) (ht : tag < 256) (n : Nat) (bs : List UInt8) (A1 A2 : Option Addr) (c1 c2 n1 n2 : Nat) (w0 : World) {w : World} {b0 b cap : Nat} {T : TypeId} {fr : Nat × Nat} (h : w.heap[b]? = some (.cells #[.slice (some ⟨b0, 0, none⟩) 1 1, .slice A1 n1 c1, .slice A2 n2 c2] T fr))
    (hb0 : w.heap[b0]? = some (.cells #[.int .u8 (tag : Int)] 5 (0, 0))) (hn : n = bs.length) (e1 : n1 = (lenB n).length) (e2 : n2 = n) (h1 : PartOk w ⟨A1, c1, lenB n⟩) (h2 : PartOk w ⟨A2, c2, bs⟩) (hbig : n ≤ 16777215) (hx : Ext w0 w) :
    Calls Tryz.prog 72 #[.slice (some ⟨b, 0, none⟩) 3 cap] w (Bytes (elB tag bs) w0) := by
  subst hn
  have hl := lenB_le bs.length
  refine (concat3 (some ⟨b0, 0, none⟩) A1 A2 1 c1 c2 1 n1 n2 [UInt8.ofNat tag] (lenB bs.length) bs h rfl e1 e2 (part_lit (by rw [u8_of tag ht]; exact hb0)) h1 h2 (by simp; omega)).mono ?_
  rintro e w' ⟨A', c', he, hb, hc, hnil, hx'⟩
  exact ⟨A', c', he, hb, hc, hnil, hx.trans hx'⟩
set_option maxRecDepth 4000 in
set_option maxHeartbeats 3200000 in
theorem element_any (tag : Nat) (ht : tag < 256) (ps : List Part) (b cap len : Nat) (w : World) (hlen : len = ps.length) (hc : PartsAt w b ps) (hok : ∀ p ∈ ps, PartOk w p) (hbig : (flatP ps).length ≤ 16777215) (hps : len ≤ 1099511627776) (z : Int) (hz : z = tag) :
    Calls Tryz.prog 47 #[.int .i64 z, .slice (some ⟨b, 0, none⟩) len cap] w (Bytes (elB tag (flatP ps)) w) := by
  subst hz
  have HL := Lib.hid hlen
  have HC := Lib.hid hc
  have HO := Lib.hid hok
  obtain ⟨i0, hi, hz0, hz1, hz2⟩ := info_parts info_u8
  clear hlen hc hok
  go_enter Tryz.func47, Tryz.ntmps47
  go_wp2_with fail
  (go_at_call 72; (with_reducible refine (concat_any ps b cap len w HL.out HC.out HO.out (by omega) hps).mono ?_); rintro e w1 ⟨A1, c1, rfl, hb1, hc1, hnil1, hx1⟩)
  have hP1 : PartOk w1 ⟨A1, c1, flatP ps⟩ := ⟨hb1.weak, hnil1⟩
  have HP := Lib.hid hP1
  have hmt : (tag : Int) % 256 = (tag : Int) := by omega
  obtain ⟨n, hn⟩ : ∃ n, (flatP ps).length = n := ⟨_, rfl⟩
  rw [hn] at hbig hc1
  have HN := Lib.hid hn
  clear hb1 hP1
  rw [hn]
  clear hn
  by_cases h128 : n < 128
  · have hmn : (n : Int) % 256 = (n : Int) := by omega
    have hlb : lenB n = [UInt8.ofNat n] := by unfold lenB; rw [if_pos h128]
    have HLB := Lib.hid hlb
    clear hlb
    go_wp2_with fail
    have k1 := heap_new w1 (.cells #[.int .u8 (n : Int)] 5)
    have k2 := heap_new2 w1 (.cells #[.int .u8 (n : Int)] 5) (.cells #[.int .u8 (tag : Int)] 5)
    have k3 := heap_new3 w1 (.cells #[.int .u8 (n : Int)] 5) (.cells #[.int .u8 (tag : Int)] 5) (.cells #[.slice (some ⟨w1.heap.size + 1, 0, none⟩) 1 1, .slice (some ⟨w1.heap.size, 0, none⟩) 1 1, .slice A1 n c1] 28)
    have x3 := (((Ext.refl w1).alloc (.cells #[.int .u8 (n : Int)] 5)).alloc (.cells #[.int .u8 (tag : Int)] 5)).alloc (.cells #[.slice (some ⟨w1.heap.size + 1, 0, none⟩) 1 1, .slice (some ⟨w1.heap.size, 0, none⟩) 1 1, .slice A1 n c1] 28)
    have k2' := ((Ext.refl _).alloc (.cells #[.slice (some ⟨w1.heap.size + 1, 0, none⟩) 1 1, .slice (some ⟨w1.heap.size, 0, none⟩) 1 1, .slice A1 n c1] 28)).heap k2
    have k1' := (((Ext.refl _).alloc (.cells #[.int .u8 (tag : Int)] 5)).alloc (.cells #[.slice (some ⟨w1.heap.size + 1, 0, none⟩) 1 1, .slice (some ⟨w1.heap.size, 0, none⟩) 1 1, .slice A1 n c1] 28)).heap k1
    (go_at_call 72; refine (element_end tag ht n (flatP ps) (some ⟨w1.heap.size, 0, none⟩) A1 1 c1 1 n w k3 k2' HN.out.symm (by rw [HLB.out]; rfl) rfl (by rw [HLB.out]; exact part_lit (by rw [u8_of n (by omega)]; exact k1')) (HP.out.ext x3) hbig (hx1.trans x3)).mono ?_)
    rintro e w' ⟨A', c', rfl, hb, hc, hnil, hx'⟩
    clear k1 k2 k3 k2' k1'
    go_wp2
    go_ret
    exact ⟨A', c', rfl, hb, hc, hnil, hx'⟩
  · have hlk : (lenK n = 1 ∧ n < 256) ∨ (lenK n = 2 ∧ 256 ≤ n ∧ n < 65536) ∨ (lenK n = 3 ∧ 65536 ≤ n) := by
      unfold lenK
      by_cases h1 : n < 256
      · exact .inl ⟨if_pos h1, h1⟩
      · by_cases h2 : n < 65536
        · exact .inr (.inl ⟨by rw [if_neg h1, if_pos h2], by omega, h2⟩)
        · exact .inr (.inr ⟨by rw [if_neg h1, if_neg h2], by omega⟩)
    have hlb : lenB n = UInt8.ofNat (128 + lenK n) :: numB n (lenK n) := by unfold lenB; rw [if_neg h128]
    have HLB := Lib.hid hlb
    clear hlb
    go_wp2_with fail
    go_loop [8] (fun v => ∃ k : Nat, v = .int .i64 k ∧ (k = 1 ∨ k = 2 ∧ 256 ≤ n ∨ k = 3 ∧ 65536 ≤ n)) (fun v => 3 - (intOf v).toNat)
    case atStart => exact ⟨1, rfl, .inl rfl⟩
    case round =>
      obtain ⟨k, rfl, hk⟩ := hrel
      by_cases hgo : k < lenK n
      · have HG := Lib.hid hgo
        rcases (by omega : (k = 1 ∧ 256 ≤ n) ∨ (k = 2 ∧ 65536 ≤ n)) with ⟨rfl, hq⟩ | ⟨rfl, hq⟩
        · have HQ := Lib.hid hq
          have hqi : (256 : Int) ≤ (n : Int) := by omega
          clear hk hgo hlk hq
          go_wp2
          go_round
          case rel => exact ⟨2, rfl, .inr (.inl ⟨rfl, HQ.out⟩)⟩
          case measure => simp [intOf]
        · have HQ := Lib.hid hq
          have hqi : (65536 : Int) ≤ (n : Int) := by omega
          clear hk hgo hlk hq
          go_wp2
          go_round
          case rel => exact ⟨3, rfl, .inr (.inr ⟨rfl, HQ.out⟩)⟩
          case measure => simp [intOf]
      · have hkl : k = lenK n := by omega
        rw [← hkl] at HLB
        have hnk : (k = 1 ∧ (n : Int) < 256) ∨ (k = 2 ∧ (n : Int) < 65536) ∨ (k = 3 ∧ (n : Int) < 16777216) := by omega
        have hk3 : 0 < k ∧ k ≤ 8 := by omega
        clear hk hgo hlk hkl
        have HBIG := Lib.hid hbig
        have hnk2 : (k = 1 ∧ decide ((256 : Int) ≤ (n : Int)) = false) ∨ (k = 2 ∧ decide ((65536 : Int) ≤ (n : Int)) = false) ∨ (k = 3 ∧ decide ((16777216 : Int) ≤ (n : Int)) = false) := by simpa using hnk
        clear hnk hbig
        rcases hnk2 with ⟨rfl, hq⟩ | ⟨rfl, hq⟩ | ⟨rfl, hq⟩
        all_goals
          go_wp2_with fail
          (go_at_call 48; (with_reducible refine (number_any (n : Int) _ hk3.1 hk3.2 _ (by first | rfl | decide) _).mono ?_); rintro e w2 ⟨rfl, hbN, hx2⟩)
          have hx12 := ((hx1.alloc _).alloc _).trans hx2
          have l0 := ownsRow_ext (World.ownsRow_lit (base := w.heap.size) (e := 5) (size := 1) (w1.alloc (.cells #[.int .u8 ((n : Int) % 256)] 5)) #[.int .u8 _] 1 (by simp; have := hx1.sz; omega) (by unfold maxLen; omega) rfl) hx2
          have hnw := BSw.news hbN.weak (by intro h; have := congrArg List.length h; rw [numB_len] at this; simp at this)
          have HNW := Lib.hid hnw
          have HL0 := Lib.hid l0
          have hbase := hx12.sz
          clear l0 hnw hbN
          simp only [World.size_alloc] at HNW HL0
          go_wp2_with (at_builtin; refine wpList_append_own _ rfl _ _ 28 rfl w.heap.size 5 i0 (.int .u8 0) 1 1 Tryz.underlying28 hi hz0 hz1 hz2 rfl (by decide) _ _ _ rfl HL0.out ⟨_, _, _⟩ _ _ (cellsOf (numB (n : Int) _)) rfl ?c2 HNW.out ?c4 ?c5 ?c6 hbase ?_)
          case c2 => simp [cellsOf, numB_len]
          case c4 => intro u hu; simp [cellsOf] at hu; obtain ⟨x, _, rfl⟩ := hu; rfl
          case c5 => unfold maxLen; omega
          case c6 => omega
          intro v' w3 hown' hgrow _
          have hx3 : Ext w w3 := Ext.of_grown_new hx12 hgrow (fun g hg => by simp [Value.ownBlock] at hg; have := hx1.sz; omega)
          have hlen2 := congrArg List.length HLB.out
          have hcells := congrArg cellsOf HLB.out
          rw [List.length_cons, numB_len] at hlen2
          obtain ⟨A7, c7, he7, hb7, hc7, hnil7, hx7⟩ := own_bytes (bs := lenB n) (n := (lenB n).length) (base := w.heap.size) (v := v') rfl (by rw [hcells, hlen2]; exact hown') hx3
          injection he7 with he7
          subst he7
          have hP7 : PartOk w3 ⟨A7, c7, lenB n⟩ := ⟨hb7.weak, hnil7⟩
          have HP7 := Lib.hid hP7
          have hx13 : Ext w1 w3 := Ext.of_grown_new ((((Ext.refl w1).alloc _).alloc _).trans hx2) hgrow (fun g hg => by simp [Value.ownBlock] at hg; omega)
          have hP3 : PartOk w3 ⟨A1, c1, flatP ps⟩ := HP.out.ext hx13
          have HP3 := Lib.hid hP3
          clear hlen2 hcells hown' hgrow hb7 hP7 hP3 HNW HL0
          go_wp2_with fail
          have k1 := heap_new w3 (.cells #[.int .u8 (tag : Int)] 5)
          have k2 := heap_new2 w3 (.cells #[.int .u8 (tag : Int)] 5) (.cells #[.slice (some ⟨w3.heap.size, 0, none⟩) 1 1, .slice A7 (lenB n).length c7, .slice A1 n c1] 28)
          have k1' := ((Ext.refl _).alloc (.cells #[.slice (some ⟨w3.heap.size, 0, none⟩) 1 1, .slice A7 (lenB n).length c7, .slice A1 n c1] 28)).heap k1
          have x3 := ((Ext.refl w3).alloc (.cells #[.int .u8 (tag : Int)] 5)).alloc (.cells #[.slice (some ⟨w3.heap.size, 0, none⟩) 1 1, .slice A7 (lenB n).length c7, .slice A1 n c1] 28)
          (go_at_call 72; refine (element_end tag ht n (flatP ps) A7 A1 c7 c1 _ n w k2 k1' HN.out.symm rfl rfl (HP7.out.ext x3) (HP3.out.ext x3) HBIG.out (hx3.trans x3)).mono ?_)
          rintro e w' ⟨A', c', rfl, hb, hc, hnil, hx'⟩
          clear k1 k2 k1'
          go_wp2
          go_ret
          exact ⟨A', c', rfl, hb, hc, hnil, hx'⟩
end Go.Proofs.YtdpjkocpdomkbaaGreatDoor
