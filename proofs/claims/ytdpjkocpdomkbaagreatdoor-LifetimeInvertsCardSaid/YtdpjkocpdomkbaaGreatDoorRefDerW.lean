/- Contracts of the reference's writing (watchwordref11): Make, Time, wrapped, Tagged, Sequence. -/
import Derived.Test.YtdpjkocpdomkbaaGreatDoorDerX
namespace Go.Proofs.YtdpjkocpdomkbaaGreatDoor
open Go.RowKit
theorem lit_news {w : World} {cs : List Value} {T : TypeId} : ∀ j u, cs[j]? = some u → (w.alloc (.cells cs.toArray T)).cell? ((⟨w.heap.size, 0, none⟩ : Addr).add j) = some u := by
  intro j u hu
  have h := cell_heap (heap_new w (.cells cs.toArray T)) j
  rw [Addr.add_lit, Nat.zero_add, h]
  simpa using hu
theorem cells_one {cs : List Value} (h : ∀ u ∈ cs, ∃ x, u = .int .u8 x) : ∀ u ∈ cs, u.oneCell' = true := by
  intro u hu
  obtain ⟨x, rfl⟩ := h u hu
  rfl
theorem lenB_cells (n : Nat) (h : n < 16777216) : (n < 128 ∧ cellsOf (lenB n) = [.int .u8 (n : Int)]) ∨ (128 ≤ n ∧ n < 256 ∧ cellsOf (lenB n) = [.int .u8 129, .int .u8 (n : Int)]) ∨
    (256 ≤ n ∧ n < 65536 ∧ cellsOf (lenB n) = [.int .u8 130, .int .u8 ((n : Int) / 256), .int .u8 ((n : Int) % 256)]) ∨
    (65536 ≤ n ∧ cellsOf (lenB n) = [.int .u8 131, .int .u8 ((n : Int) / 65536), .int .u8 ((n : Int) / 256 % 256), .int .u8 ((n : Int) % 256)]) := by
  have hk : ∀ k : Nat, k < 256 → ((UInt8.ofNat k).toNat : Int) = k := fun k hk => by rw [UInt8.toNat_ofNat']; omega
  have hb : ∀ m i, ((UInt8.ofNat (byteI (n : Int) m i).toNat).toNat : Int) = byteI (n : Int) m i := fun m i => by
    have := byteI_bd (n : Int) m i
    rw [UInt8.toNat_ofNat']; omega
  have hm : cellsOf = fun bs => bs.map fun b => .int .u8 (b.toNat : Int) := rfl
  by_cases h1 : n < 128
  · refine .inl ⟨h1, ?_⟩
    unfold lenB
    rw [if_pos h1, hm]
    simp only [List.map_cons, List.map_nil]
    rw [hk n (by omega)]
  refine .inr ?_
  have hl : lenB n = UInt8.ofNat (128 + lenK n) :: numB n (lenK n) := by unfold lenB; rw [if_neg h1]
  by_cases h2 : n < 256
  · have e : lenK n = 1 := by unfold lenK; rw [if_pos h2]
    refine .inl ⟨by omega, h2, ?_⟩
    rw [hl, e, hm, numB]
    simp only [List.map_cons, List.range_succ, List.range_zero, List.nil_append, List.map_nil]
    rw [hk _ (by decide), hb]
    have : byteI (n : Int) 1 0 = n := by unfold byteI; simp; omega
    rw [this]
    rfl
  refine .inr ?_
  by_cases h3 : n < 65536
  · have e : lenK n = 2 := by unfold lenK; rw [if_neg h2, if_pos h3]
    refine .inl ⟨by omega, h3, ?_⟩
    rw [hl, e, hm, numB]
    simp only [List.map_cons, List.range_succ, List.range_zero, List.nil_append, List.cons_append, List.map_nil]
    rw [hk _ (by decide), hb, hb]
    have a : byteI (n : Int) 2 0 = (n : Int) / 256 := by unfold byteI; simp; omega
    have b : byteI (n : Int) 2 1 = (n : Int) % 256 := by unfold byteI; simp
    rw [a, b]
    rfl
  · have e : lenK n = 3 := by unfold lenK; rw [if_neg h2, if_neg h3]
    refine .inr ⟨by omega, ?_⟩
    rw [hl, e, hm, numB]
    simp only [List.map_cons, List.range_succ, List.range_zero, List.nil_append, List.cons_append, List.map_nil]
    rw [hk _ (by decide), hb, hb, hb]
    have a : byteI (n : Int) 3 0 = (n : Int) / 65536 := by unfold byteI; simp; omega
    have b : byteI (n : Int) 3 1 = (n : Int) / 256 % 256 := by unfold byteI; simp
    have c : byteI (n : Int) 3 2 = (n : Int) % 256 := by unfold byteI; simp
    rw [a, b, c]
    rfl
set_option maxRecDepth 20000 in
set_option maxHeartbeats 3200000 in
theorem rMake_any (tag : Nat) (ht : tag < 256) (z : Int) (hz : z = tag) (A : Option Addr) (bs : List UInt8) (n c : Nat) (w : World) (hn : n = bs.length) (hP : PartOk w ⟨A, c, bs⟩) (hbig : n < 16777216) :
    Calls Tryz.prog 51 #[.int .i64 z, .slice A n c] w (Bytes (elB tag bs) w) := by
  subst hz
  have HN := Lib.hid hn
  have HP := Lib.hid hP
  clear hn hP
  obtain ⟨i0, hi, hz0, hz1, hz2⟩ := info_parts info_u8
  have hmt : (tag : Int) % 256 = (tag : Int) := by omega
  have hown := World.ownsRow_lit (base := w.heap.size) (e := 5) (size := 1) w #[.int .u8 (tag : Int)] 1 (Nat.le_refl _) (by unfold maxLen; omega) rfl
  have HO := Lib.hid hown
  clear hown
  have hle : (flatP [⟨A, c, bs⟩]).length = n := by simp [flatP, HN.out]
  have hmax : ∀ k, k ≤ 8 → k + n ≤ maxLen := fun k hk => by unfold maxLen; omega
  have HX := Lib.hid hmax
  have hby : ∀ k, k ≤ 8 → (k + n) * 1 ≤ 140737488355328 := fun k hk => by omega
  have HY := Lib.hid hby
  clear hmax hby hle
  rcases lenB_cells n hbig with ⟨h1, hc⟩ | ⟨h1, h2, hc⟩ | ⟨h1, h2, hc⟩ | ⟨h1, hc⟩
  all_goals
    have HC := Lib.hid hc
    clear hc
  · have d1 : decide ((n : Int) < 128) = true := by simp; omega
    have m1 : (n : Int) % 256 = (n : Int) := by omega
    clear h1 hbig
    have hnews : ∀ j u, (cellsOf (lenB n))[j]? = some u → ((w.alloc (.cells #[.int .u8 (tag : Int)] 5)).alloc (.cells #[.int .u8 (n : Int)] 5)).cell? ((⟨w.heap.size + 1, 0, none⟩ : Addr).add j) = some u := by
      rw [HC.out]
      have := lit_news (w := w.alloc (.cells #[.int .u8 (tag : Int)] 5)) (cs := [.int .u8 (n : Int)]) (T := 5)
      simpa only [World.size_alloc] using this
    have HNW := Lib.hid hnews
    have hlen1 : (lenB n).length = 1 := by have := congrArg List.length HC.out; simpa [cellsOf] using this
    have HLEN := Lib.hid hlen1
    clear hnews hlen1
    have hl2 : (cellsOf (lenB n)).length = 1 * 1 := by rw [HC.out]; rfl
    have hl4 : ∀ u ∈ cellsOf (lenB n), u.oneCell' = true := by intro u hu; simp [cellsOf] at hu; obtain ⟨x, _, rfl⟩ := hu; rfl
    have hl5 : 1 + 1 ≤ maxLen := by unfold maxLen; omega
    have hl6 : (1 + 1) * 1 ≤ 140737488355328 := by omega
    have hl7 : w.heap.size ≤ ((w.alloc (.cells #[.int .u8 (tag : Int)] 5)).alloc (.cells #[.int .u8 (n : Int)] 5)).heap.size := by simp only [World.size_alloc]; omega
    have H2 := Lib.hid hl2
    have H4 := Lib.hid hl4
    have H5 := Lib.hid hl5
    have H6 := Lib.hid hl6
    have H7 := Lib.hid hl7
    clear hl2 hl4 hl5 hl6 hl7
    go_enter Tryz.func51, Tryz.ntmps51
    go_wp2_with (at_builtin; (refine wpList_append_own _ rfl _ _ 28 rfl w.heap.size 5 i0 (.int .u8 0) 1 1 Tryz.underlying28 hi hz0 hz1 hz2 rfl (by decide) _ _ _ rfl (ownsRow_ext HO.out ((Ext.refl _).alloc _)) ⟨w.heap.size + 1, 0, none⟩ 1 1 (cellsOf (lenB n)) rfl H2.out HNW.out H4.out H5.out H6.out H7.out ?_))
    intro v1 w1 hown1 hgrow1 _
    have hx1 : Ext w w1 := Ext.of_grown_new (((Ext.refl w).alloc _).alloc _) hgrow1 (fun g hg => by simp [Value.ownBlock] at hg; omega)
    have hbase := hx1.sz
    have HP1 := Lib.hid (HP.out.ext hx1)
    have HO1 := Lib.hid hown1
    have hlt := (fun g hg => (hown1.lt g hg).1)
    clear hown1 hgrow1
    cases A with
    | none =>
      have hb0 := part_nil HP1.out rfl
      have hc0 := HP1.out.2 rfl
      simp only at hb0 hc0
      have hn0 : n = 0 := by rw [HN.out, hb0]; rfl
      subst hc0 hn0
      go_wp2_with (at_builtin; refine wpList_append_own_none rfl _ _ 28 rfl w.heap.size 5 i0 1 Tryz.underlying28 hi _ _ _ rfl HO1.out rfl ?_)
      go_wp2
      go_ret
      refine own_bytes (n := 1 + 1) (base := w.heap.size) ?_ ?_ hx1
      · rw [hb0]; simp [elB, HLEN.out]
      · rw [hb0]; simpa [elB, cellsOf, u8_of tag ht] using HO1.out
    | some ad =>
      have hnews := Lib.hid (part_news HP1.out rfl)
      go_wp2_with (at_builtin; refine wpList_append_own _ rfl _ _ 28 rfl w.heap.size 5 i0 (.int .u8 0) 1 1 Tryz.underlying28 hi hz0 hz1 hz2 rfl (by decide) _ _ _ rfl HO1.out ad n c (cellsOf bs) rfl ?e2 hnews.out ?e4 ?e5 ?e6 hbase ?_)
      case e2 => rw [HN.out]; simp [cellsOf]
      case e4 => intro u hu; simp [cellsOf] at hu; obtain ⟨x, _, rfl⟩ := hu; rfl
      case e5 => exact HX.out (1 + 1) (by decide)
      case e6 => have := HY.out (1 + 1) (by decide); omega
      intro v' w3 hown' hgrow _
      have hx3 : Ext w w3 := Ext.of_grown_new hx1 hgrow hlt
      clear hgrow
      go_wp2
      go_ret
      refine own_bytes (n := 1 + 1 + n) (base := w.heap.size) ?_ ?_ hx3
      · rw [HN.out]; simp [elB, ← HN.out, HLEN.out]; omega
      · have e : cellsOf (elB tag bs) = #[Value.int .u8 (tag : Int)].toList ++ cellsOf (lenB n) ++ cellsOf bs := by simp [elB, cellsOf, u8_of tag ht, ← HN.out]
        rw [e]; exact hown'
  · have d1 : decide ((n : Int) < 128) = false := by simp; omega
    have d2 : decide ((n : Int) < 256) = true := by simp; omega
    have m1 : (n : Int) % 256 = (n : Int) := by omega
    clear h1 h2 hbig
    have hnews : ∀ j u, (cellsOf (lenB n))[j]? = some u → ((w.alloc (.cells #[.int .u8 (tag : Int)] 5)).alloc (.cells #[.int .u8 129, .int .u8 (n : Int)] 5)).cell? ((⟨w.heap.size + 1, 0, none⟩ : Addr).add j) = some u := by
      rw [HC.out]
      have := lit_news (w := w.alloc (.cells #[.int .u8 (tag : Int)] 5)) (cs := [.int .u8 129, .int .u8 (n : Int)]) (T := 5)
      simpa only [World.size_alloc] using this
    have HNW := Lib.hid hnews
    have hlen1 : (lenB n).length = 2 := by have := congrArg List.length HC.out; simpa [cellsOf] using this
    have HLEN := Lib.hid hlen1
    clear hnews hlen1
    have hl2 : (cellsOf (lenB n)).length = 2 * 1 := by rw [HC.out]; rfl
    have hl4 : ∀ u ∈ cellsOf (lenB n), u.oneCell' = true := by intro u hu; simp [cellsOf] at hu; obtain ⟨x, _, rfl⟩ := hu; rfl
    have hl5 : 1 + 2 ≤ maxLen := by unfold maxLen; omega
    have hl6 : (1 + 2) * 1 ≤ 140737488355328 := by omega
    have hl7 : w.heap.size ≤ ((w.alloc (.cells #[.int .u8 (tag : Int)] 5)).alloc (.cells #[.int .u8 129, .int .u8 (n : Int)] 5)).heap.size := by simp only [World.size_alloc]; omega
    have H2 := Lib.hid hl2
    have H4 := Lib.hid hl4
    have H5 := Lib.hid hl5
    have H6 := Lib.hid hl6
    have H7 := Lib.hid hl7
    clear hl2 hl4 hl5 hl6 hl7
    go_enter Tryz.func51, Tryz.ntmps51
    go_wp2_with (at_builtin; (refine wpList_append_own _ rfl _ _ 28 rfl w.heap.size 5 i0 (.int .u8 0) 1 1 Tryz.underlying28 hi hz0 hz1 hz2 rfl (by decide) _ _ _ rfl (ownsRow_ext HO.out ((Ext.refl _).alloc _)) ⟨w.heap.size + 1, 0, none⟩ 2 2 (cellsOf (lenB n)) rfl H2.out HNW.out H4.out H5.out H6.out H7.out ?_))
    intro v1 w1 hown1 hgrow1 _
    have hx1 : Ext w w1 := Ext.of_grown_new (((Ext.refl w).alloc _).alloc _) hgrow1 (fun g hg => by simp [Value.ownBlock] at hg; omega)
    have hbase := hx1.sz
    have HP1 := Lib.hid (HP.out.ext hx1)
    have HO1 := Lib.hid hown1
    have hlt := (fun g hg => (hown1.lt g hg).1)
    clear hown1 hgrow1
    cases A with
    | none =>
      have hb0 := part_nil HP1.out rfl
      have hc0 := HP1.out.2 rfl
      simp only at hb0 hc0
      have hn0 : n = 0 := by rw [HN.out, hb0]; rfl
      subst hc0 hn0
      go_wp2_with (at_builtin; refine wpList_append_own_none rfl _ _ 28 rfl w.heap.size 5 i0 1 Tryz.underlying28 hi _ _ _ rfl HO1.out rfl ?_)
      go_wp2
      go_ret
      refine own_bytes (n := 1 + 2) (base := w.heap.size) ?_ ?_ hx1
      · rw [hb0]; simp [elB, HLEN.out]
      · rw [hb0]; simpa [elB, cellsOf, u8_of tag ht] using HO1.out
    | some ad =>
      have hnews := Lib.hid (part_news HP1.out rfl)
      go_wp2_with (at_builtin; refine wpList_append_own _ rfl _ _ 28 rfl w.heap.size 5 i0 (.int .u8 0) 1 1 Tryz.underlying28 hi hz0 hz1 hz2 rfl (by decide) _ _ _ rfl HO1.out ad n c (cellsOf bs) rfl ?e2 hnews.out ?e4 ?e5 ?e6 hbase ?_)
      case e2 => rw [HN.out]; simp [cellsOf]
      case e4 => intro u hu; simp [cellsOf] at hu; obtain ⟨x, _, rfl⟩ := hu; rfl
      case e5 => exact HX.out (1 + 2) (by decide)
      case e6 => have := HY.out (1 + 2) (by decide); omega
      intro v' w3 hown' hgrow _
      have hx3 : Ext w w3 := Ext.of_grown_new hx1 hgrow hlt
      clear hgrow
      go_wp2
      go_ret
      refine own_bytes (n := 1 + 2 + n) (base := w.heap.size) ?_ ?_ hx3
      · rw [HN.out]; simp [elB, ← HN.out, HLEN.out]; omega
      · have e : cellsOf (elB tag bs) = #[Value.int .u8 (tag : Int)].toList ++ cellsOf (lenB n) ++ cellsOf bs := by simp [elB, cellsOf, u8_of tag ht, ← HN.out]
        rw [e]; exact hown'
  · have d1 : decide ((n : Int) < 128) = false := by simp; omega
    have d2 : decide ((n : Int) < 256) = false := by simp; omega
    have d3 : decide ((n : Int) < 65536) = true := by simp; omega
    have mw : wrap64 ((n : Int) / 256) = (n : Int) / 256 := by unfold wrap64; omega
    have m1 : (n : Int) / 256 % 256 = (n : Int) / 256 := by omega
    clear h1 h2 hbig
    have hnews : ∀ j u, (cellsOf (lenB n))[j]? = some u → ((w.alloc (.cells #[.int .u8 (tag : Int)] 5)).alloc (.cells #[.int .u8 130, .int .u8 ((n : Int) / 256), .int .u8 ((n : Int) % 256)] 5)).cell? ((⟨w.heap.size + 1, 0, none⟩ : Addr).add j) = some u := by
      rw [HC.out]
      have := lit_news (w := w.alloc (.cells #[.int .u8 (tag : Int)] 5)) (cs := [.int .u8 130, .int .u8 ((n : Int) / 256), .int .u8 ((n : Int) % 256)]) (T := 5)
      simpa only [World.size_alloc] using this
    have HNW := Lib.hid hnews
    have hlen1 : (lenB n).length = 3 := by have := congrArg List.length HC.out; simpa [cellsOf] using this
    have HLEN := Lib.hid hlen1
    clear hnews hlen1
    have hl2 : (cellsOf (lenB n)).length = 3 * 1 := by rw [HC.out]; rfl
    have hl4 : ∀ u ∈ cellsOf (lenB n), u.oneCell' = true := by intro u hu; simp [cellsOf] at hu; obtain ⟨x, _, rfl⟩ := hu; rfl
    have hl5 : 1 + 3 ≤ maxLen := by unfold maxLen; omega
    have hl6 : (1 + 3) * 1 ≤ 140737488355328 := by omega
    have hl7 : w.heap.size ≤ ((w.alloc (.cells #[.int .u8 (tag : Int)] 5)).alloc (.cells #[.int .u8 130, .int .u8 ((n : Int) / 256), .int .u8 ((n : Int) % 256)] 5)).heap.size := by simp only [World.size_alloc]; omega
    have H2 := Lib.hid hl2
    have H4 := Lib.hid hl4
    have H5 := Lib.hid hl5
    have H6 := Lib.hid hl6
    have H7 := Lib.hid hl7
    clear hl2 hl4 hl5 hl6 hl7
    go_enter Tryz.func51, Tryz.ntmps51
    go_wp2_with (at_builtin; (refine wpList_append_own _ rfl _ _ 28 rfl w.heap.size 5 i0 (.int .u8 0) 1 1 Tryz.underlying28 hi hz0 hz1 hz2 rfl (by decide) _ _ _ rfl (ownsRow_ext HO.out ((Ext.refl _).alloc _)) ⟨w.heap.size + 1, 0, none⟩ 3 3 (cellsOf (lenB n)) rfl H2.out HNW.out H4.out H5.out H6.out H7.out ?_))
    intro v1 w1 hown1 hgrow1 _
    have hx1 : Ext w w1 := Ext.of_grown_new (((Ext.refl w).alloc _).alloc _) hgrow1 (fun g hg => by simp [Value.ownBlock] at hg; omega)
    have hbase := hx1.sz
    have HP1 := Lib.hid (HP.out.ext hx1)
    have HO1 := Lib.hid hown1
    have hlt := (fun g hg => (hown1.lt g hg).1)
    clear hown1 hgrow1
    cases A with
    | none =>
      have hb0 := part_nil HP1.out rfl
      have hc0 := HP1.out.2 rfl
      simp only at hb0 hc0
      have hn0 : n = 0 := by rw [HN.out, hb0]; rfl
      subst hc0 hn0
      go_wp2_with (at_builtin; refine wpList_append_own_none rfl _ _ 28 rfl w.heap.size 5 i0 1 Tryz.underlying28 hi _ _ _ rfl HO1.out rfl ?_)
      go_wp2
      go_ret
      refine own_bytes (n := 1 + 3) (base := w.heap.size) ?_ ?_ hx1
      · rw [hb0]; simp [elB, HLEN.out]
      · rw [hb0]; simpa [elB, cellsOf, u8_of tag ht] using HO1.out
    | some ad =>
      have hnews := Lib.hid (part_news HP1.out rfl)
      go_wp2_with (at_builtin; refine wpList_append_own _ rfl _ _ 28 rfl w.heap.size 5 i0 (.int .u8 0) 1 1 Tryz.underlying28 hi hz0 hz1 hz2 rfl (by decide) _ _ _ rfl HO1.out ad n c (cellsOf bs) rfl ?e2 hnews.out ?e4 ?e5 ?e6 hbase ?_)
      case e2 => rw [HN.out]; simp [cellsOf]
      case e4 => intro u hu; simp [cellsOf] at hu; obtain ⟨x, _, rfl⟩ := hu; rfl
      case e5 => exact HX.out (1 + 3) (by decide)
      case e6 => have := HY.out (1 + 3) (by decide); omega
      intro v' w3 hown' hgrow _
      have hx3 : Ext w w3 := Ext.of_grown_new hx1 hgrow hlt
      clear hgrow
      go_wp2
      go_ret
      refine own_bytes (n := 1 + 3 + n) (base := w.heap.size) ?_ ?_ hx3
      · rw [HN.out]; simp [elB, ← HN.out, HLEN.out]; omega
      · have e : cellsOf (elB tag bs) = #[Value.int .u8 (tag : Int)].toList ++ cellsOf (lenB n) ++ cellsOf bs := by simp [elB, cellsOf, u8_of tag ht, ← HN.out]
        rw [e]; exact hown'
  · have d1 : decide ((n : Int) < 128) = false := by simp; omega
    have d2 : decide ((n : Int) < 256) = false := by simp; omega
    have d3 : decide ((n : Int) < 65536) = false := by simp; omega
    have d4 : decide ((n : Int) < 16777216) = true := by simp; omega
    have mw : wrap64 ((n : Int) / 65536) = (n : Int) / 65536 := by unfold wrap64; omega
    have mw2 : wrap64 ((n : Int) / 256) = (n : Int) / 256 := by unfold wrap64; omega
    have m1 : (n : Int) / 65536 % 256 = (n : Int) / 65536 := by omega
    clear h1 hbig
    have hnews : ∀ j u, (cellsOf (lenB n))[j]? = some u → ((w.alloc (.cells #[.int .u8 (tag : Int)] 5)).alloc (.cells #[.int .u8 131, .int .u8 ((n : Int) / 65536), .int .u8 ((n : Int) / 256 % 256), .int .u8 ((n : Int) % 256)] 5)).cell? ((⟨w.heap.size + 1, 0, none⟩ : Addr).add j) = some u := by
      rw [HC.out]
      have := lit_news (w := w.alloc (.cells #[.int .u8 (tag : Int)] 5)) (cs := [.int .u8 131, .int .u8 ((n : Int) / 65536), .int .u8 ((n : Int) / 256 % 256), .int .u8 ((n : Int) % 256)]) (T := 5)
      simpa only [World.size_alloc] using this
    have HNW := Lib.hid hnews
    have hlen1 : (lenB n).length = 4 := by have := congrArg List.length HC.out; simpa [cellsOf] using this
    have HLEN := Lib.hid hlen1
    clear hnews hlen1
    have hl2 : (cellsOf (lenB n)).length = 4 * 1 := by rw [HC.out]; rfl
    have hl4 : ∀ u ∈ cellsOf (lenB n), u.oneCell' = true := by intro u hu; simp [cellsOf] at hu; obtain ⟨x, _, rfl⟩ := hu; rfl
    have hl5 : 1 + 4 ≤ maxLen := by unfold maxLen; omega
    have hl6 : (1 + 4) * 1 ≤ 140737488355328 := by omega
    have hl7 : w.heap.size ≤ ((w.alloc (.cells #[.int .u8 (tag : Int)] 5)).alloc (.cells #[.int .u8 131, .int .u8 ((n : Int) / 65536), .int .u8 ((n : Int) / 256 % 256), .int .u8 ((n : Int) % 256)] 5)).heap.size := by simp only [World.size_alloc]; omega
    have H2 := Lib.hid hl2
    have H4 := Lib.hid hl4
    have H5 := Lib.hid hl5
    have H6 := Lib.hid hl6
    have H7 := Lib.hid hl7
    clear hl2 hl4 hl5 hl6 hl7
    go_enter Tryz.func51, Tryz.ntmps51
    go_wp2_with (at_builtin; (refine wpList_append_own _ rfl _ _ 28 rfl w.heap.size 5 i0 (.int .u8 0) 1 1 Tryz.underlying28 hi hz0 hz1 hz2 rfl (by decide) _ _ _ rfl (ownsRow_ext HO.out ((Ext.refl _).alloc _)) ⟨w.heap.size + 1, 0, none⟩ 4 4 (cellsOf (lenB n)) rfl H2.out HNW.out H4.out H5.out H6.out H7.out ?_))
    intro v1 w1 hown1 hgrow1 _
    have hx1 : Ext w w1 := Ext.of_grown_new (((Ext.refl w).alloc _).alloc _) hgrow1 (fun g hg => by simp [Value.ownBlock] at hg; omega)
    have hbase := hx1.sz
    have HP1 := Lib.hid (HP.out.ext hx1)
    have HO1 := Lib.hid hown1
    have hlt := (fun g hg => (hown1.lt g hg).1)
    clear hown1 hgrow1
    cases A with
    | none =>
      have hb0 := part_nil HP1.out rfl
      have hc0 := HP1.out.2 rfl
      simp only at hb0 hc0
      have hn0 : n = 0 := by rw [HN.out, hb0]; rfl
      subst hc0 hn0
      go_wp2_with (at_builtin; refine wpList_append_own_none rfl _ _ 28 rfl w.heap.size 5 i0 1 Tryz.underlying28 hi _ _ _ rfl HO1.out rfl ?_)
      go_wp2
      go_ret
      refine own_bytes (n := 1 + 4) (base := w.heap.size) ?_ ?_ hx1
      · rw [hb0]; simp [elB, HLEN.out]
      · rw [hb0]; simpa [elB, cellsOf, u8_of tag ht] using HO1.out
    | some ad =>
      have hnews := Lib.hid (part_news HP1.out rfl)
      go_wp2_with (at_builtin; refine wpList_append_own _ rfl _ _ 28 rfl w.heap.size 5 i0 (.int .u8 0) 1 1 Tryz.underlying28 hi hz0 hz1 hz2 rfl (by decide) _ _ _ rfl HO1.out ad n c (cellsOf bs) rfl ?e2 hnews.out ?e4 ?e5 ?e6 hbase ?_)
      case e2 => rw [HN.out]; simp [cellsOf]
      case e4 => intro u hu; simp [cellsOf] at hu; obtain ⟨x, _, rfl⟩ := hu; rfl
      case e5 => exact HX.out (1 + 4) (by decide)
      case e6 => have := HY.out (1 + 4) (by decide); omega
      intro v' w3 hown' hgrow _
      have hx3 : Ext w w3 := Ext.of_grown_new hx1 hgrow hlt
      clear hgrow
      go_wp2
      go_ret
      refine own_bytes (n := 1 + 4 + n) (base := w.heap.size) ?_ ?_ hx3
      · rw [HN.out]; simp [elB, ← HN.out, HLEN.out]; omega
      · have e : cellsOf (elB tag bs) = #[Value.int .u8 (tag : Int)].toList ++ cellsOf (lenB n) ++ cellsOf bs := by simp [elB, cellsOf, u8_of tag ht, ← HN.out]
        rw [e]; exact hown'
set_option maxRecDepth 8000 in
set_option maxHeartbeats 1600000 in
theorem rTime_any (t : Int) (h0 : 0 ≤ t) (h1 : t ≤ 1099511627776) (w : World) : Calls Tryz.prog 29 #[.int .i64 t] w (Bytes (timeB t) w) := by
  have d1 : decide (t < 0) = false := by simp; omega
  have d2 : decide ((1099511627776 : Int) < t) = false := by simp; omega
  have m1 : t / 1099511627776 % 256 = t / 1099511627776 := by omega
  have hP : PartOk (w.alloc (.cells #[.int .u8 (t / 1099511627776), .int .u8 (t / 4294967296 % 256), .int .u8 (t / 16777216 % 256), .int .u8 (t / 65536 % 256), .int .u8 (t / 256 % 256), .int .u8 (t % 256)] 5)) ⟨some ⟨w.heap.size, 0, none⟩, 6, numB t 6⟩ := by
    refine ⟨fun _ => ⟨w.heap.size, 0, rfl, fun j hj => ?_⟩, fun h => by cases h⟩
    have hc := cell_heap (heap_new w (.cells #[.int .u8 (t / 1099511627776), .int .u8 (t / 4294967296 % 256), .int .u8 (t / 16777216 % 256), .int .u8 (t / 65536 % 256), .int .u8 (t / 256 % 256), .int .u8 (t % 256)] 5)) j
    rw [Nat.zero_add, hc]
    rw [numB_len] at hj
    have hb := byteI_bd t 6 j
    simp only [numB, List.getElem_map, List.getElem_range]
    have e : ((UInt8.ofNat (byteI t 6 j).toNat).toNat : Int) = byteI t 6 j := by rw [UInt8.toNat_ofNat']; omega
    rw [e]
    rcases (by omega : j = 0 ∨ j = 1 ∨ j = 2 ∨ j = 3 ∨ j = 4 ∨ j = 5) with rfl | rfl | rfl | rfl | rfl | rfl <;> simp [byteI] <;> omega
  have HP := Lib.hid hP
  clear hP h0 h1
  go_enter Tryz.func29, Tryz.ntmps29
  go_wp2_with fail
  (go_at_call 51; (with_reducible refine (rMake_any 24 (by decide) 24 rfl (some ⟨w.heap.size, 0, none⟩) (numB t 6) 6 6 _ (by rw [numB_len]) HP.out (by decide)).mono ?_); rintro e w' ⟨A', c', rfl, hb, hc, hnil, hx'⟩)
  go_wp2
  go_ret
  exact ⟨A', c', rfl, hb, hc, hnil, ((Ext.refl w).alloc _).trans hx'⟩
set_option maxHeartbeats 1600000 in
theorem rWrapped_any (tag n : Nat) (hn : n ≤ 30) (ht : tag ≤ 200) (z : Int) (hz : z = tag) (A : Option Addr) (bs : List UInt8) (len c : Nat) (w : World) (hlen : len = bs.length) (hne : bs ≠ []) (hP : PartOk w ⟨A, c, bs⟩) (hbig : decide (len < 16777216) = true) :
    Calls Tryz.prog 50 #[.int .i64 z, .int .i64 (n : Int), .slice A len c] w (Bytes (elB (tag + n) bs) w) := by
  subst hz
  have hpos : 0 < bs.length := List.length_pos_iff.2 hne
  have d1 : decide ((30 : Int) < (n : Int)) = false := by simp; omega
  have d2 : ((len : Int) == 0) = false := by simp; omega
  have d3 : (len == 0) = false := by simp; omega
  have HP := Lib.hid hP
  have HL := Lib.hid hlen
  have HB := Lib.hid hbig
  clear hP hlen hpos hbig
  go_enter Tryz.func50, Tryz.ntmps50
  go_wp2_with fail
  (go_at_call 51; (with_reducible refine (rMake_any (tag + n) (by omega) _ (by omega) A bs len c _ HL.out HP.out (of_decide_eq_true HB.out)).mono ?_); rintro e w' ⟨A', c', rfl, hb, hc, hnil, hx'⟩)
  go_wp2
  go_ret
  exact ⟨A', c', rfl, hb, hc, hnil, hx'⟩
set_option maxHeartbeats 1600000 in
theorem rTagged_any (n : Nat) (hn : n ≤ 30) (z : Int) (hz : z = n) (A : Option Addr) (bs : List UInt8) (len c : Nat) (w : World) (hlen : len = bs.length) (hne : bs ≠ []) (hP : PartOk w ⟨A, c, bs⟩) (hbig : decide (len < 16777216) = true) :
    Calls Tryz.prog 28 #[.int .i64 z, .slice A len c] w (Bytes (elB (160 + n) bs) w) := by
  subst hz
  have HP := Lib.hid hP
  have HN := Lib.hid hne
  have HL := Lib.hid hlen
  have HB := Lib.hid hbig
  clear hP hne hlen hbig
  go_enter Tryz.func28, Tryz.ntmps28
  go_wp2_with fail
  (go_at_call 50; (with_reducible refine (rWrapped_any 160 n hn (by decide) 160 rfl A bs len c w HL.out HN.out HP.out HB.out).mono ?_); rintro e w' ⟨A', c', rfl, hb, hc, hnil, hx'⟩)
  go_wp2
  go_ret
  exact ⟨A', c', rfl, hb, hc, hnil, hx'⟩
set_option maxRecDepth 4000 in
set_option maxHeartbeats 3200000 in
theorem rSeq_any (ps : List Part) (b cap len : Nat) (w : World) (hlen : len = ps.length) (hc : PartsAt w b ps) (hok : ∀ p ∈ ps, PartOk w p) (hbig : decide ((flatP ps).length < 16777216) = true) (hps : len ≤ 1099511627776) :
    Calls Tryz.prog 30 #[.slice (some ⟨b, 0, none⟩) len cap] w (Bytes (elB 48 (flatP ps)) w) := by
  subst hlen
  obtain ⟨i0, hi, hz0, hz1, hz2⟩ := info_parts info_u8
  have HC := Lib.hid hc
  have HO := Lib.hid hok
  have HB := Lib.hid hbig
  clear hc hok hbig
  obtain ⟨N, hN⟩ : ∃ N, (flatP ps).length = N := ⟨_, rfl⟩
  have HN := Lib.hid hN
  have hNb : N < 16777216 := by have := of_decide_eq_true HB.out; omega
  have HNB := Lib.hid hNb
  clear hN hNb
  go_enter Tryz.func30, Tryz.ntmps30
  go_wp2
  go_loopw [3, 4] (fun v i wr => ∃ k : Nat, k ≤ ps.length ∧ i = .int .i64 k ∧ Hid (wr.ownsRow w.heap.size 5 1 v (flatP (ps.take k)).length (cellsOf (flatP (ps.take k)))) ∧ Ext w wr) (fun _ i _ => ps.length - (intOf i).toNat)
  case atStart => exact ⟨0, Nat.zero_le _, rfl, Lib.hid (by simpa [flatP, cellsOf] using World.ownsRow_nil w w.heap.size 5 1), Ext.refl _⟩
  case round =>
    obtain ⟨k, hk, rfl, HR, hx⟩ := hrel
    by_cases hlt : k < ps.length
    · have hcell := hx.cell (HC.out k hlt)
      have hpk := (HO.out ps[k] (List.getElem_mem hlt)).ext hx
      have hle2 := flatP_le ps (k + 1)
      have hs := flatP_take ps k hlt
      have hs2 := congrArg List.length hs
      rw [List.length_append] at hs2
      have hle3 : (flatP (ps.take k)).length + ps[k].bs.length ≤ 1099511627776 := by have := HN.out; have := HNB.out; omega
      have hcs : cellsOf (flatP (ps.take (k + 1))) = cellsOf (flatP (ps.take k)) ++ cellsOf ps[k].bs := by rw [hs]; simp [cellsOf]
      have HS := Lib.hid hs2
      have HCS := Lib.hid hcs
      have hbase := hx.sz
      clear hs hs2 hle2 hcs
      generalize hpp : ps[k] = pk at *
      obtain ⟨A0, c0, bs0⟩ := pk
      simp only at hcell hpk hle3
      have HP := Lib.hid hpk
      clear hpk hpp
      cases A0 with
      | none =>
        have hb0 := part_nil HP.out rfl
        have hc0 := HP.out.2 rfl
        simp only at hb0 hc0
        subst hb0 hc0
        go_wp2_with (at_builtin; refine wpList_append_own_none rfl _ _ 28 rfl w.heap.size 5 i0 1 Tryz.underlying28 hi _ _ _ rfl HR.out rfl ?_)
        go_roundw
        case rel => exact ⟨k + 1, by omega, by go_num, by rw [HS.out, HCS.out]; simpa [cellsOf] using HR, hx⟩
        case measure => simp [intOf]; omega
      | some ad =>
        have hnews := Lib.hid (part_news HP.out rfl)
        go_wp2_with (at_builtin; refine wpList_append_own _ rfl _ _ 28 rfl w.heap.size 5 i0 (.int .u8 0) 1 1 Tryz.underlying28 hi hz0 hz1 hz2 rfl (by decide) _ _ _ rfl HR.out ad bs0.length c0 (cellsOf bs0) rfl ?c2 hnews.out ?c4 ?c5 ?c6 hbase ?_)
        case c2 => simp [cellsOf]
        case c4 => intro u hu; simp [cellsOf] at hu; obtain ⟨x, _, rfl⟩ := hu; rfl
        case c5 => unfold maxLen; omega
        case c6 => omega
        intro v' w3 hown' hgrow _
        have hx3 : Ext w w3 := Ext.of_grown_new hx hgrow (fun g hg => (HR.out.lt g hg).1)
        clear hgrow
        go_wp2
        go_roundw
        case rel => exact ⟨k + 1, by omega, by go_num, by rw [HS.out, HCS.out]; exact Lib.hid hown', hx3⟩
        case measure => simp [intOf]; omega
    · obtain rfl : k = ps.length := by omega
      have hR := HR.out
      rw [List.take_length] at hR
      obtain ⟨A1, c1, he1, hb1, hc1, hnil1, _⟩ := own_bytes rfl hR hx
      injection he1 with he1
      subst he1
      have HP1 : Hid (PartOk _ ⟨A1, c1, flatP ps⟩) := Lib.hid ⟨hb1.weak, hnil1⟩
      rw [HN.out] at hc1 ⊢
      clear hR hb1 HR
      go_wp2_with fail
      (go_at_call 51; (with_reducible refine (rMake_any 48 (by decide) 48 rfl A1 (flatP ps) N c1 _ HN.out.symm HP1.out HNB.out).mono ?_); rintro e w' ⟨A', c', rfl, hb, hc, hnil, hx'⟩)
      go_wp2
      go_ret
      exact ⟨A', c', rfl, hb, hc, hnil, hx.trans hx'⟩
end Go.Proofs.YtdpjkocpdomkbaaGreatDoor
