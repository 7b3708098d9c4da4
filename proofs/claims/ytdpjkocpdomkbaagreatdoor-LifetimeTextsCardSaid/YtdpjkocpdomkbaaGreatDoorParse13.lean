/- The contract of lifetime.Parse. Printed by tools/parse13.py. -/
import Derived.Test.YtdpjkocpdomkbaaGreatDoorPlainP
import Derived.Test.YtdpjkocpdomkbaaGreatDoorDag
import Derived.Test.YtdpjkocpdomkbaaGreatDoorLifeB
import Derived.Test.YtdpjkocpdomkbaaGreatDoorRefDerW
import Derived.Lib.AtoiErrMem
import Derived.Laws.OwnMore
namespace Go.Proofs.YtdpjkocpdomkbaaGreatDoor
open Go.RowKit
theorem info_int : (Tryz.prog.info? 3).map (fun i => (i.zero, i.size, i.bytes)) = some (some (.int .i64 0), 1, 8) := by kernel_rfl
/-- The library's variables hold what they hold from the program's start on: some error or nil; some number. -/
def VarsAt (w : World) : Prop := (∃ ev, w.cell? ⟨0, 0, none⟩ = some ev ∧ (ev = .nilIface ∨ ∃ te pe, ev = .iface te pe)) ∧ (∃ ev, w.cell? ⟨1, 0, none⟩ = some ev ∧ (ev = .nilIface ∨ ∃ te pe, ev = .iface te pe)) ∧ ∃ m, w.cell? ⟨3, 0, none⟩ = some (.int .i64 m)
theorem VarsAt.ext {w w' : World} (h : VarsAt w) (e : Ext w w') : VarsAt w' := by
  obtain ⟨⟨ev, h1, h2⟩, ⟨eu, h3, h4⟩, m, h5⟩ := h
  exact ⟨⟨ev, e.cell h1, h2⟩, ⟨eu, e.cell h3, h4⟩, m, e.cell h5⟩
theorem atoi_any (x : ByteArray) (hs : x.size ≤ 1000000) (w : World) (hv : VarsAt w) : Calls Tryz.prog 32 #[.string x] w fun e w' => Ext w w' ∧
    ((∃ v, Lib.atoiAll x.data.toList = .ok v ∧ -9223372036854775808 ≤ v ∧ v ≤ 9223372036854775807 ∧ e = .returned (.tuple #[.int .i64 v, .nilIface])) ∨ ((∀ v, Lib.atoiAll x.data.toList ≠ .ok v) ∧ ∃ z T p, e = .returned (.tuple #[.int .i64 z, .iface T p]))) := by
  obtain ⟨⟨ev, h1, h2⟩, ⟨eu, h3, h4⟩, _⟩ := hv
  cases h : Lib.atoiAll x.data.toList with
  | ok v =>
    refine (Tryz.strconv_Atoi_ok x (by omega) v h w).mono fun e w' ⟨he, hw⟩ => ⟨?_, .inl ⟨v, rfl, ?_, ?_, he⟩⟩
    · rcases hw with rfl | ⟨t, rfl⟩
      · exact Ext.refl _
      · exact Lib.bytesWorld_below _ _ _
    · have := Lib.atoiAll_bounds h; omega
    · have := Lib.atoiAll_bounds h; omega
  | «syntax» =>
    exact (Tryz.strconv_Atoi_syntax x (by omega) h ev w h1 h2).mono fun e w' ⟨N, he, _, _, hb⟩ => ⟨hb, .inr ⟨fun v hv => (by cases hv), _, _, _, he⟩⟩
  | range =>
    exact (Tryz.strconv_Atoi_range x (by omega) h eu w h3 h4).mono fun e w' ⟨N, he, _, _, hb⟩ => ⟨hb, .inr ⟨fun v hv => (by cases hv), _, _, _, he⟩⟩
/-- The words of a string. -/
def wordsB (s : ByteArray) : List ByteArray := Lib.splitB ⟨#[32]⟩ 0 (Lib.countB s ⟨#[32]⟩) s
theorem wordsB_len (s : ByteArray) : (wordsB s).length = Lib.countB s ⟨#[32]⟩ + 1 := Lib.splitB_all ⟨#[32]⟩ (by decide) 0 _ s rfl
theorem wordsB_size (s : ByteArray) : ∀ x ∈ wordsB s, x.size ≤ s.size := by
  intro x hx
  have h := join_sp s.data.toList
  rw [← words_eq] at h
  have hm : x.data.toList ∈ (wordsB s).map (·.data.toList) := List.mem_map.2 ⟨x, hx, rfl⟩
  have key : ∀ (l : List (List UInt8)), ∀ y ∈ l, y.length ≤ (Lib.join l [32]).length := by
    intro l
    induction l with
    | nil => intro y hy; cases hy
    | cons z l ih =>
      intro y hy
      cases l with
      | nil => simp only [List.mem_cons, List.not_mem_nil, or_false] at hy; subst hy; simp [Lib.join_one]
      | cons u l =>
        have e : (Lib.join (z :: u :: l) [32]).length = z.length + 1 + (Lib.join (u :: l) [32]).length := by simp [Lib.join_cons, Lib.joinTail]; omega
        rcases List.mem_cons.1 hy with rfl | hy
        · omega
        · have := ih y hy; omega
  have := key _ _ hm
  unfold wordsB at this
  rw [h] at this
  have e1 : x.size = x.data.toList.length := (Array.length_toList).symm
  have e2 : s.size = s.data.toList.length := (Array.length_toList).symm
  rw [e1, e2]; exact this
theorem split_x (s : ByteArray) (W : List ByteArray) (n : Nat) (hW : wordsB s = W) (hn : Lib.countB s ⟨#[32]⟩ + 1 = n) (m : Int) (hs : s.size ≤ 100000) (w : World) (hm : w.cell? ⟨3, 0, none⟩ = some (.int .i64 m)) :
    Calls Tryz.prog 31 #[.string s, .string ⟨#[32]⟩] w fun e w' => e = .returned (.slice (some ⟨w.heap.size, 0, none⟩) n n) ∧ w' = w.alloc (.cells (W.map Value.string).toArray 9) := by
  subst hW hn
  exact Tryz.strings_Split s ⟨#[32]⟩ m w (by omega) hm (by decide)
/-- The times of a string: the times, the error. -/
def parseR (s : ByteArray) : (Int × Int × Int × Int) × Int := match vals (wordsB s) [] with
  | some [a, b, c, d] => if validT a b c d = true then ((a, b, c, d), 0) else ((0, 0, 0, 0), 6)
  | _ => ((0, 0, 0, 0), 6)
def ParsePost (s : ByteArray) (w : World) (e : Ending) (w' : World) : Prop := ∃ a b c d er, parseR s = ((a, b, c, d), er) ∧ e = .returned (.tuple #[.agg #[.int .i64 a, .int .i64 b, .int .i64 c, .int .i64 d], .int .i64 er]) ∧ Ext w w'
def intVs (l : List Int) : List Value := l.map fun z => .int .i64 z
theorem parse_no {s : ByteArray} (h : vals (wordsB s) [] = none) : parseR s = ((0, 0, 0, 0), 6) := by unfold parseR; rw [h]
theorem parse_len {s : ByteArray} {l : List Int} (h : vals (wordsB s) [] = some l) (hl : l.length ≠ 4) : parseR s = ((0, 0, 0, 0), 6) := by
  unfold parseR
  rw [h]
  match l, hl with
  | [], _ => rfl
  | [_], _ => rfl
  | [_, _], _ => rfl
  | [_, _, _], _ => rfl
  | [a, b, c, d], h => exact absurd rfl h
  | _ :: _ :: _ :: _ :: _ :: _, _ => rfl
theorem parse_four {s : ByteArray} {a b c d : Int} (h : vals (wordsB s) [] = some [a, b, c, d]) : parseR s = if validT a b c d = true then ((a, b, c, d), 0) else ((0, 0, 0, 0), 6) := by unfold parseR; rw [h]
theorem str_ne {a b : ByteArray} (h : ¬ a = b) : (a.toList == b.toList) = false := by
  rw [ByteArray.toList_eq, ByteArray.toList_eq, beq_eq_false_iff_ne]
  intro e
  exact h (ByteArray.ext (Array.toList_inj.1 e))
theorem itoa_y (Y : ByteArray) (n : Int) (hY : (⟨(Lib.itoa n).toArray⟩ : ByteArray) = Y) (w : World) (h0 : -9223372036854775808 ≤ n) (h1 : n ≤ 9223372036854775807) (htab : Lib.TabIs Tryz.prog w "internal/strconv.uint64pow10" .u64 Lib.pow10Tab) :
    Calls Tryz.prog 21 #[.int .i64 n] w fun e w' => e = .returned (.string Y) ∧ Ext w w' := by subst hY; exact itoa_x n w h0 h1 htab
theorem res_times {W : World} {b : Nat} {x0 x1 x2 x3 er : Int} {T : TypeId} (tmps : Array Value) (h2 : tmps[2]?.getD undef = .pointer (some ⟨b, 0, none⟩)) (h3 : tmps[3]?.getD undef = .int .i64 er) (hb : W.heap[b]? = some (.cells #[.int .i64 x0, .int .i64 x1, .int .i64 x2, .int .i64 x3] T (0, 0))) :
    (results Tryz.f11 tmps).run Tryz.prog W = .ok (.tuple #[.agg #[.int .i64 x0, .int .i64 x1, .int .i64 x2, .int .i64 x3], .int .i64 er]) W := by
  have hr : (Tryz.f11).results = #[.cell 2 23, .tmp 3] := rfl
  obtain ⟨k0, k1, k2, k3, _, _, _, _⟩ := four_cells hb
  simp only [results, hr]
  simp [Sem.run_bind, Result.andThen, go_sem, h2, h3, k0, k1, k2, k3]
set_option maxRecDepth 8000 in
set_option maxHeartbeats 6400000 in
theorem parse13_any (s : ByteArray) (hs : s.size ≤ 100000) (w : World) (hV : VarsAt w) (htab : Lib.TabIs Tryz.prog w "internal/strconv.uint64pow10" .u64 Lib.pow10Tab) : Calls Tryz.prog 11 #[.string s] w (ParsePost s w) := by
  have HV := Lib.hid hV
  have Htab := Lib.hid htab
  obtain ⟨_, _, m, hm⟩ := hV
  have HM := Lib.hid hm
  clear htab hm
  obtain ⟨i0, hi, hz0, hz1, hz2⟩ := info_parts info_int
  have hn := wordsB_len s
  have hws := wordsB_size s
  obtain ⟨W, hW⟩ : ∃ W, wordsB s = W := ⟨_, rfl⟩
  rw [hW] at hn hws
  obtain ⟨n, hn2⟩ : ∃ n, Lib.countB s ⟨#[32]⟩ + 1 = n := ⟨_, rfl⟩
  rw [hn2] at hn
  have hnb : n ≤ 100001 := by have := Lib.countB_le ⟨#[32]⟩ (by decide) _ s (Nat.le_refl _); omega
  have HW := Lib.hid hW
  have HN2 := Lib.hid hn2
  have HNB := Lib.hid hnb
  clear hW hn2 hnb
  go_enter Tryz.func11, Tryz.ntmps11
  go_wp2_with fail
  have hx0 := (Ext.refl w).alloc (.cells #[.int .i64 0, .int .i64 0, .int .i64 0, .int .i64 0] 23)
  (go_at_call 31; refine (split_x s W n HW.out HN2.out m hs _ (hx0.cell HM.out)).mono ?_; rintro e w1 ⟨rfl, rfl⟩)
  have hx1 := hx0.alloc (.cells (W.map Value.string).toArray 9)
  have hwd : ∀ j (h : j < W.length), ((w.alloc (.cells #[.int .i64 0, .int .i64 0, .int .i64 0, .int .i64 0] 23)).alloc (.cells (W.map Value.string).toArray 9)).cell? ⟨w.heap.size + 1, j, none⟩ = some (.string W[j]) := fun j h => by
    have := cell_heap (heap_new (w.alloc (.cells #[.int .i64 0, .int .i64 0, .int .i64 0, .int .i64 0] 23)) (.cells (W.map Value.string).toArray 9)) j
    rw [World.size_alloc] at this
    rw [this]; simp [h]
  have hrs := hx1.sz
  have hr0 := ((Ext.refl _).alloc (.cells (W.map Value.string).toArray 9)).heap (heap_new w (.cells #[.int .i64 0, .int .i64 0, .int .i64 0, .int .i64 0] 23))
  have HR0 := Lib.hid hr0
  have HWD := Lib.hid hwd
  clear hr0 hwd
  have hsz2 : ((w.alloc (.cells #[.int .i64 0, .int .i64 0, .int .i64 0, .int .i64 0] 23)).alloc (.cells (W.map Value.string).toArray 9)).heap.size = w.heap.size + 2 := by simp
  generalize hW2 : (w.alloc (.cells #[.int .i64 0, .int .i64 0, .int .i64 0, .int .i64 0] 23)).alloc (.cells (W.map Value.string).toArray 9) = w2 at *
  clear hW2
  go_wp2
  go_loopw [4, 13] (fun v i wr => ∃ (k : Nat) (done : List Int), k ≤ n ∧ i = .int .i64 k ∧ done.length = k ∧ vals W [] = vals (W.drop k) done ∧ Hid (wr.ownsRow (w.heap.size + 2) 3 1 v k (intVs done)) ∧ Ext w2 wr) (fun _ i _ => n - (intOf i).toNat)
  case atStart => exact ⟨0, [], Nat.zero_le _, rfl, rfl, rfl, Lib.hid (World.ownsRow_nil _ _ _ _), Ext.refl _⟩
  case round =>
    obtain ⟨k, done, hk, rfl, hdl, hval, HO, hx⟩ := hrel
    by_cases hlt : k < n
    · have hkW : k < W.length := by omega
      have hc := hx.cell (HWD.out k hkW)
      have hwk := hws W[k] (List.getElem_mem hkW)
      have hdrop : W.drop k = W[k] :: W.drop (k + 1) := List.drop_eq_getElem_cons hkW
      rw [hdrop] at hval
      generalize W[k] = x at *
      have HVAL := Lib.hid hval
      have hzx : x.size ≤ 1000000 := by omega
      clear hval hdrop hwk
      go_wp2_with fail
      (go_at_call 32; refine (atoi_any x hzx _ (HV.out.ext (hx1.trans hx))).mono ?_; rintro e w3 ⟨hx3, (⟨v, hv, hv0, hv1, rfl⟩ | ⟨hno, z, T, p, rfl⟩)⟩)
      · obtain ⟨Y, hY⟩ : ∃ Y, (⟨(Lib.itoa v).toArray⟩ : ByteArray) = Y := ⟨_, rfl⟩
        have HY := Lib.hid hY
        by_cases hit : Y = x
        · have hsome : wordV x = some v := by unfold wordV; rw [hv]; simp only; rw [hY, if_pos hit]
          have hnext : vals W [] = vals (W.drop (k + 1)) (done ++ [v]) := by rw [HVAL.out, vals, hsome]
          have HNX := Lib.hid hnext
          clear hsome hnext hv hY
          go_wp2_with fail
          (go_at_call 21; (with_reducible refine (itoa_y Y v HY.out _ hv0 hv1 (Ext.tab ((hx1.trans hx).trans hx3) pow10_g Htab.out)).mono ?_); rintro e w4 ⟨rfl, hx4⟩)
          have hx24 := (hx.trans hx3).trans hx4
          have hO4 := Lib.hid (ownsRow_ext HO.out (hx3.trans hx4))
          have hx34 := (hx3.trans hx4).alloc (.cells [Value.int .i64 v].toArray 3)
          have hO5 := Lib.hid (ownsRow_ext HO.out hx34)
          have hbase : w.heap.size + 2 ≤ (w4.alloc (.cells [Value.int .i64 v].toArray 3)).heap.size := by have := hx.sz; have := hx34.sz; omega
          have hmx : k + 1 ≤ maxLen := by have := HNB.out; unfold maxLen; omega
          have hby : (k + 1) * 8 ≤ 140737488355328 := by have := HNB.out; omega
          have hnw := Lib.hid (lit_news (w := w4) (cs := [Value.int .i64 v]) (T := 3))
          have HB := Lib.hid hbase
          have HX := Lib.hid hmx
          have HY2 := Lib.hid hby
          clear hbase hmx hby hO4
          go_wp2_with (at_builtin; refine wpList_append_own _ rfl _ _ 55 rfl (w.heap.size + 2) 3 i0 (.int .i64 0) 1 8 Tryz.underlying55 hi hz0 hz1 hz2 rfl (by decide) _ _ _ rfl hO5.out ⟨w4.heap.size, 0, none⟩ 1 1 [.int .i64 v] rfl rfl hnw.out (by intro u hu; simp only [List.mem_cons, List.not_mem_nil, or_false] at hu; subst hu; rfl) HX.out HY2.out HB.out ?_)
          intro v' w5 hown' hgrow _
          have hwk2 : wrap64 ((k : Int) + 1) = (k : Int) + 1 := IntWalk.wrap64_in _ (by have := HNB.out; omega)
          have hx5 : Ext w2 w5 := Ext.of_grown_new (hx.trans hx34) hgrow (fun g hg => by have := (hO5.out.lt g hg).1; omega)
          clear hgrow
          go_wp2
          go_roundw
          case rel => exact ⟨k + 1, done ++ [v], hlt, by rw [hwk2]; rfl, by rw [List.length_append, hdl]; rfl, HNX.out, Lib.hid (by rw [intVs, List.map_append]; exact hown'), hx5⟩
          case measure => rw [hwk2]; exact Nat.sub_lt_sub_left hlt (Nat.lt_succ_self k)
        · have hnone : wordV x = none := by unfold wordV; rw [hv]; simp only; rw [hY, if_neg hit]
          have hres : parseR s = ((0, 0, 0, 0), 6) := parse_no (by rw [HW.out, HVAL.out, vals, hnone])
          have HRES := Lib.hid hres
          have hbq : (Y.toList == x.toList) = false := str_ne hit
          clear hnone hres hv hY
          go_wp2_with fail
          (go_at_call 21; (with_reducible refine (itoa_y Y v HY.out _ hv0 hv1 (Ext.tab ((hx1.trans hx).trans hx3) pow10_g Htab.out)).mono ?_); rintro e w4 ⟨rfl, hx4⟩)
          have hb3 := ((hx.trans hx3).trans hx4).heap HR0.out
          obtain ⟨k0, k1, k2, k3, z0, z1, z2, z3⟩ := four_cells hb3
          go_wp2_with fail
          have e3 := set_heap (i := 3) (set_heap (i := 2) (set_heap (i := 1) (set_heap (i := 0) hb3 (.int .i64 0)) (.int .i64 0)) (.int .i64 0)) (.int .i64 0)
          have hxx := hx1.trans ((hx.trans hx3).trans hx4)
          refine bodyPost_ret (res_times (b := w.heap.size) (T := 23) _ rfl rfl e3) rfl ⟨0, 0, 0, 0, 6, HRES.out, rfl, (by repeat (first | exact Ext.refl _ | assumption | refine Ext.drew ?_ | refine Ext.alloc ?_ _ | refine Ext.setCell ?_ (by first | exact Nat.le_refl _ | (simp; done) | (simp; omega)) _ | refine Ext.trans ?_ (by assumption)))⟩
      · have hnone : wordV x = none := by
          unfold wordV
          cases h : Lib.atoiAll x.data.toList with
          | ok v => exact absurd h (hno v)
          | «syntax» => rfl
          | range => rfl
        have hres : parseR s = ((0, 0, 0, 0), 6) := parse_no (by rw [HW.out, HVAL.out, vals, hnone])
        have HRES := Lib.hid hres
        clear hno hnone hres
        have hb3 := (hx.trans hx3).heap HR0.out
        obtain ⟨k0, k1, k2, k3, z0, z1, z2, z3⟩ := four_cells hb3
        go_wp2_with fail
        have e3 := set_heap (i := 3) (set_heap (i := 2) (set_heap (i := 1) (set_heap (i := 0) hb3 (.int .i64 0)) (.int .i64 0)) (.int .i64 0)) (.int .i64 0)
        have hxx := hx1.trans (hx.trans hx3)
        refine bodyPost_ret (res_times (b := w.heap.size) (T := 23) _ rfl rfl e3) rfl ⟨0, 0, 0, 0, 6, HRES.out, rfl, (by repeat (first | exact Ext.refl _ | assumption | refine Ext.drew ?_ | refine Ext.alloc ?_ _ | refine Ext.setCell ?_ (by first | exact Nat.le_refl _ | (simp; done) | (simp; omega)) _ | refine Ext.trans ?_ (by assumption)))⟩
    · obtain rfl : k = n := by omega
      have hnz : 0 < k := by have := HN2.out; omega
      obtain ⟨g, cap, rfl, hgs, hgB, hcp, hcm⟩ := ownsRow_some HO.out hnz
      have hv0 : vals W [] = some done := by rw [hval, ← hn, List.drop_length, vals]
      clear hval
      by_cases h4 : k = 4
      · subst h4
        obtain ⟨za, zb, zc, zd, rfl⟩ : ∃ a b c d, done = [a, b, c, d] := by
          match done, hdl with
          | [a, b, c, d], _ => exact ⟨a, b, c, d, rfl⟩
        have hP := parse_four (s := s) (by rw [HW.out]; exact hv0)
        have HP := Lib.hid hP
        have q0 : wr.cell? ⟨g, 0, none⟩ = some (.int .i64 za) := by rw [HO.out.cellAt 0 (by decide)]; rfl
        have q1 : wr.cell? ⟨g, 1, none⟩ = some (.int .i64 zb) := by rw [HO.out.cellAt 1 (by decide)]; rfl
        have q2 : wr.cell? ⟨g, 2, none⟩ = some (.int .i64 zc) := by rw [HO.out.cellAt 2 (by decide)]; rfl
        have q3 : wr.cell? ⟨g, 3, none⟩ = some (.int .i64 zd) := by rw [HO.out.cellAt 3 (by decide)]; rfl
        clear hP hv0 hws hdl
        go_wp2_with fail
        refine Dag.wp_region_store [.val (.slice (some ⟨g, 0, none⟩) 4 cap), .val (.pointer (some ⟨g, 0, none⟩)), .val (.int .i64 za), .val (.slice (some ⟨g, 0, none⟩) 4 cap), .val (.pointer (some ⟨g, 1, none⟩)), .val (.int .i64 zb), .val (.slice (some ⟨g, 0, none⟩) 4 cap), .val (.pointer (some ⟨g, 2, none⟩)), .val (.int .i64 zc), .val (.slice (some ⟨g, 0, none⟩) 4 cap), .val (.pointer (some ⟨g, 3, none⟩)), .val (.int .i64 zd), .val (.agg #[.int .i64 za, .int .i64 zb, .int .i64 zc, .int .i64 zd]), .var #[.int .i64 0, .int .i64 0, .int .i64 0, .int .i64 0] 23, .val (undef)] #[.int .i64 za, .int .i64 zb, .int .i64 zc, .int .i64 zd] 23 14 13 [some 40, some 41, some 42, some 43, some 44, some 45, some 46, some 47, some 48, some 49, some 50, some 51, some 52, some 9, none] (by kernel_rfl) (by kernel_rfl) (by kernel_rfl) ⟨?_, ?_, ?_, ?_, ?_, ?_, ?_, ?_, ?_, ?_, ?_, ?_, ?_, ?_, ?_, trivial⟩ ?_
        · rw [if_neg (by decide)]
          intro a' w' K hext hsees hK
          have y4 : a'.tmps[4]? = some (.slice (some ⟨g, 0, none⟩) 4 cap) := (hsees.old (t := 4) (by kernel_rfl) (by kernel_rfl)).trans rfl
          have e4 := Dag.eval_of y4
          refine Dag.wpOp_lit rfl ?_
          go_simp
          exact hK _ _ rfl (Ext.refl _)
        · rw [if_neg (by decide)]
          intro a' w' K hext hsees hK
          obtain ⟨v40, y40, f40⟩ := hsees.new (t := 40) (j := 0) (by kernel_rfl) (by kernel_rfl)
          obtain rfl : v40 = (.slice (some ⟨g, 0, none⟩) 4 cap) := f40
          have e40 := Dag.eval_of y40
          refine Dag.wpOp_lit rfl ?_
          go_simp
          exact hK _ _ rfl (Ext.refl _)
        · rw [if_neg (by decide)]
          intro a' w' K hext hsees hK
          obtain ⟨v41, y41, f41⟩ := hsees.new (t := 41) (j := 1) (by kernel_rfl) (by kernel_rfl)
          obtain rfl : v41 = (.pointer (some ⟨g, 0, none⟩)) := f41
          have e41 := Dag.eval_of y41
          refine Dag.wpOp_lit rfl ?_
          have hcc := hext.cell q0
          go_simp
          exact hK _ _ rfl (Ext.refl _)
        · rw [if_neg (by decide)]
          intro a' w' K hext hsees hK
          have y4 : a'.tmps[4]? = some (.slice (some ⟨g, 0, none⟩) 4 cap) := (hsees.old (t := 4) (by kernel_rfl) (by kernel_rfl)).trans rfl
          have e4 := Dag.eval_of y4
          refine Dag.wpOp_lit rfl ?_
          go_simp
          exact hK _ _ rfl (Ext.refl _)
        · rw [if_neg (by decide)]
          intro a' w' K hext hsees hK
          obtain ⟨v43, y43, f43⟩ := hsees.new (t := 43) (j := 3) (by kernel_rfl) (by kernel_rfl)
          obtain rfl : v43 = (.slice (some ⟨g, 0, none⟩) 4 cap) := f43
          have e43 := Dag.eval_of y43
          refine Dag.wpOp_lit rfl ?_
          go_simp
          exact hK _ _ rfl (Ext.refl _)
        · rw [if_neg (by decide)]
          intro a' w' K hext hsees hK
          obtain ⟨v44, y44, f44⟩ := hsees.new (t := 44) (j := 4) (by kernel_rfl) (by kernel_rfl)
          obtain rfl : v44 = (.pointer (some ⟨g, 1, none⟩)) := f44
          have e44 := Dag.eval_of y44
          refine Dag.wpOp_lit rfl ?_
          have hcc := hext.cell q1
          go_simp
          exact hK _ _ rfl (Ext.refl _)
        · rw [if_neg (by decide)]
          intro a' w' K hext hsees hK
          have y4 : a'.tmps[4]? = some (.slice (some ⟨g, 0, none⟩) 4 cap) := (hsees.old (t := 4) (by kernel_rfl) (by kernel_rfl)).trans rfl
          have e4 := Dag.eval_of y4
          refine Dag.wpOp_lit rfl ?_
          go_simp
          exact hK _ _ rfl (Ext.refl _)
        · rw [if_neg (by decide)]
          intro a' w' K hext hsees hK
          obtain ⟨v46, y46, f46⟩ := hsees.new (t := 46) (j := 6) (by kernel_rfl) (by kernel_rfl)
          obtain rfl : v46 = (.slice (some ⟨g, 0, none⟩) 4 cap) := f46
          have e46 := Dag.eval_of y46
          refine Dag.wpOp_lit rfl ?_
          go_simp
          exact hK _ _ rfl (Ext.refl _)
        · rw [if_neg (by decide)]
          intro a' w' K hext hsees hK
          obtain ⟨v47, y47, f47⟩ := hsees.new (t := 47) (j := 7) (by kernel_rfl) (by kernel_rfl)
          obtain rfl : v47 = (.pointer (some ⟨g, 2, none⟩)) := f47
          have e47 := Dag.eval_of y47
          refine Dag.wpOp_lit rfl ?_
          have hcc := hext.cell q2
          go_simp
          exact hK _ _ rfl (Ext.refl _)
        · rw [if_neg (by decide)]
          intro a' w' K hext hsees hK
          have y4 : a'.tmps[4]? = some (.slice (some ⟨g, 0, none⟩) 4 cap) := (hsees.old (t := 4) (by kernel_rfl) (by kernel_rfl)).trans rfl
          have e4 := Dag.eval_of y4
          refine Dag.wpOp_lit rfl ?_
          go_simp
          exact hK _ _ rfl (Ext.refl _)
        · rw [if_neg (by decide)]
          intro a' w' K hext hsees hK
          obtain ⟨v49, y49, f49⟩ := hsees.new (t := 49) (j := 9) (by kernel_rfl) (by kernel_rfl)
          obtain rfl : v49 = (.slice (some ⟨g, 0, none⟩) 4 cap) := f49
          have e49 := Dag.eval_of y49
          refine Dag.wpOp_lit rfl ?_
          go_simp
          exact hK _ _ rfl (Ext.refl _)
        · rw [if_neg (by decide)]
          intro a' w' K hext hsees hK
          obtain ⟨v50, y50, f50⟩ := hsees.new (t := 50) (j := 10) (by kernel_rfl) (by kernel_rfl)
          obtain rfl : v50 = (.pointer (some ⟨g, 3, none⟩)) := f50
          have e50 := Dag.eval_of y50
          refine Dag.wpOp_lit rfl ?_
          have hcc := hext.cell q3
          go_simp
          exact hK _ _ rfl (Ext.refl _)
        · rw [if_neg (by decide)]
          intro a' w' K hext hsees hK
          obtain ⟨v42, y42, f42⟩ := hsees.new (t := 42) (j := 2) (by kernel_rfl) (by kernel_rfl)
          obtain rfl : v42 = (.int .i64 za) := f42
          have e42 := Dag.eval_of y42
          obtain ⟨v45, y45, f45⟩ := hsees.new (t := 45) (j := 5) (by kernel_rfl) (by kernel_rfl)
          obtain rfl : v45 = (.int .i64 zb) := f45
          have e45 := Dag.eval_of y45
          obtain ⟨v48, y48, f48⟩ := hsees.new (t := 48) (j := 8) (by kernel_rfl) (by kernel_rfl)
          obtain rfl : v48 = (.int .i64 zc) := f48
          have e48 := Dag.eval_of y48
          obtain ⟨v51, y51, f51⟩ := hsees.new (t := 51) (j := 11) (by kernel_rfl) (by kernel_rfl)
          obtain rfl : v51 = (.int .i64 zd) := f51
          have e51 := Dag.eval_of y51
          refine Dag.wpOp_lit rfl ?_
          go_simp
          exact hK _ _ rfl (Ext.refl _)
        · rw [if_neg (by decide)]
          intro a' w' K hext hsees hK
          refine Dag.wpOp_lit rfl ?_
          go_simp
          exact hK _ _ ⟨_, rfl, heap_new _ _, hext.sz⟩ ((Ext.refl _).alloc _)
        · rw [if_pos rfl]
          intro a' w' K hext hsees hK
          obtain ⟨v9, y9, f9⟩ := hsees.new (t := 9) (j := 13) (by kernel_rfl) (by kernel_rfl)
          obtain ⟨b9, rfl, hb9, hB9⟩ := f9
          have hc9 := Dag.cell_of_heap hb9
          have hz9 := Dag.frozen_of_heap hb9
          have e9 := Dag.eval_of y9
          obtain ⟨v52, y52, f52⟩ := hsees.new (t := 52) (j := 12) (by kernel_rfl) (by kernel_rfl)
          obtain rfl : v52 = (.agg #[.int .i64 za, .int .i64 zb, .int .i64 zc, .int .i64 zd]) := f52
          have e52 := Dag.eval_of y52
          refine Dag.wpOp_lit rfl ?_
          go_simp
          exact hK _ _ _ (Ext.setCell (Ext.setCell (Ext.setCell (Ext.setCell hext hB9 _) hB9 _) hB9 _) hB9 _) rfl y9 hB9 (Dag.heap_setCell (Dag.heap_setCell (Dag.heap_setCell (Dag.heap_setCell hb9 _) _) _) _)
        intro vs w' hw' hv hk
        obtain ⟨b, hb0, hb1, hb2⟩ := hk
        simp only [Dag.putL, Act.put, List.setIfInBounds_toArray, List.set_cons_zero, List.set_cons_succ, hb0]
        clear q0 q1 q2 q3
        have hx6 := hx.drew.trans hw'
        have hb6 := Lib.hid hb1
        obtain ⟨k0, k1, k2, k3, z0, z1, z2, z3⟩ := four_cells hb1
        clear hb1
        go_wp2_with fail
        (go_at_call 13; (with_reducible refine (valid_any za zb zc zd _).mono ?_); rintro e w7 ⟨rfl, hx7⟩)
        clear k0 k1 k2 k3 z0 z1 z2 z3
        obtain ⟨j0, j1, j2, j3, y0, y1, y2, y3⟩ := four_cells (hx7.heap hb6.out)
        cases hvt : validT za zb zc zd
        · have hres : parseR s = ((0, 0, 0, 0), 6) := by rw [HP.out, hvt]; rfl
          have HRES := Lib.hid hres
          clear hres hvt
          have hb9 := (hx6.trans hx7).heap HR0.out
          obtain ⟨k0, k1, k2, k3, z0, z1, z2, z3⟩ := four_cells hb9
          go_wp2_with fail
          have e3 := set_heap (i := 3) (set_heap (i := 2) (set_heap (i := 1) (set_heap (i := 0) hb9 (.int .i64 0)) (.int .i64 0)) (.int .i64 0)) (.int .i64 0)
          have hxx := hx1.trans (hx6.trans hx7)
          refine bodyPost_ret (res_times (b := w.heap.size) (T := 23) _ rfl rfl e3) rfl ⟨0, 0, 0, 0, 6, HRES.out, rfl, (by repeat (first | exact Ext.refl _ | assumption | refine Ext.drew ?_ | refine Ext.alloc ?_ _ | refine Ext.setCell ?_ (by first | exact Nat.le_refl _ | (simp; done) | (simp; omega)) _ | refine Ext.trans ?_ (by assumption)))⟩
        · have hres : parseR s = ((za, zb, zc, zd), 0) := by rw [HP.out, hvt]; rfl
          have HRES := Lib.hid hres
          clear hres hvt
          have hb9 := (hx6.trans hx7).heap HR0.out
          obtain ⟨k0, k1, k2, k3, z0, z1, z2, z3⟩ := four_cells hb9
          go_wp2_with fail
          have e3 := set_heap (i := 3) (set_heap (i := 2) (set_heap (i := 1) (set_heap (i := 0) hb9 (.int .i64 za)) (.int .i64 zb)) (.int .i64 zc)) (.int .i64 zd)
          have hxx := hx1.trans (hx6.trans hx7)
          refine bodyPost_ret (res_times (b := w.heap.size) (T := 23) _ rfl rfl e3) rfl ⟨za, zb, zc, zd, 0, HRES.out, rfl, (by repeat (first | exact Ext.refl _ | assumption | refine Ext.drew ?_ | refine Ext.alloc ?_ _ | refine Ext.setCell ?_ (by first | exact Nat.le_refl _ | (simp; done) | (simp; omega)) _ | refine Ext.trans ?_ (by assumption)))⟩
      · have hres : parseR s = ((0, 0, 0, 0), 6) := parse_len (by rw [HW.out]; exact hv0) (by rw [hdl]; exact h4)
        have HRES := Lib.hid hres
        have d4 : ((k : Int) != 4) = true := by simp; omega
        clear hres hv0
        have hb9 := hx.heap HR0.out
        obtain ⟨k0, k1, k2, k3, z0, z1, z2, z3⟩ := four_cells hb9
        go_wp2_with fail
        have e3 := set_heap (i := 3) (set_heap (i := 2) (set_heap (i := 1) (set_heap (i := 0) hb9 (.int .i64 0)) (.int .i64 0)) (.int .i64 0)) (.int .i64 0)
        have hxx := hx1.trans hx
        refine bodyPost_ret (res_times (b := w.heap.size) (T := 23) _ rfl rfl e3) rfl ⟨0, 0, 0, 0, 6, HRES.out, rfl, (by repeat (first | exact Ext.refl _ | assumption | refine Ext.drew ?_ | refine Ext.alloc ?_ _ | refine Ext.setCell ?_ (by first | exact Nat.le_refl _ | (simp; done) | (simp; omega)) _ | refine Ext.trans ?_ (by assumption)))⟩
end Go.Proofs.YtdpjkocpdomkbaaGreatDoor
