/- Contracts of the reference's reading of times: Read, Decode. Bytes of at most 2^47. -/
import Derived.Test.YtdpjkocpdomkbaaDoorRefDerB
import Derived.Test.YtdpjkocpdomkbaaDoorLifeB
import Derived.Test.YtdpjkocpdomkbaaDoorRefA
namespace Go.Proofs.YtdpjkocpdomkbaaDoor
open Go.RowKit
theorem timeR_fits {bs : List UInt8} {p v q : Nat} (h : timeR bs p = (0, v, q)) : q ≤ bs.length := by
  unfold timeR at h
  split at h
  · rename_i h0
    split at h
    · rename_i h1
      rcases he : elR 24 bs p with ⟨er, fr, n⟩
      rw [he] at h0 h1 h
      simp only at h0 h1 h
      subst h0
      have := elR_fits he
      injection h with _ h
      injection h with _ h
      omega
    · injection h with h _; exact absurd h (by decide)
  · rename_i h0
    injection h with h _
    exact absurd h h0
theorem rTagged_z (k z : Int) (A : Option Addr) (bs : List UInt8) (L c p : Nat) (w : World) (hB : BSw w A bs) (hL : bs.length = L) (hb : L ≤ 140737488355328) (hcap : L ≤ c) (h0 : 0 ≤ k) (h1 : k ≤ 30) (hz : z = p) :
    Calls Tryd.prog 49 #[.slice A L c, .int .i64 z, .int .i64 k] w (RReadPost (160 + k) bs p w) := by
  subst hz; exact rTagged_any k A bs L c p w hB hL hb hcap h0 h1
theorem rTime_z (z : Int) (A : Option Addr) (bs : List UInt8) (L c p : Nat) (w : World) (hB : BSw w A bs) (hL : bs.length = L) (hb : L ≤ 140737488355328) (hcap : L ≤ c) (hz : z = p) :
    Calls Tryd.prog 50 #[.slice A L c, .int .i64 z] w (RTimePost bs p w) := by
  subst hz; exact rTime_any A bs L c p w hB hL hb hcap
theorem rWhole_z (A : Option Addr) (L c q : Nat) (er z x : Int) (w : World) (hz : z = q) (hx : wholeR L q er = x) :
    Calls Tryd.prog 51 #[.slice A L c, .int .i64 z, .int .i64 er] w fun e w' => e = .returned (.int .i64 x) ∧ w = w' := by
  subst hz hx; exact rWhole_any A L c q er w
def RRead13Post (bs : List UInt8) (p : Nat) (w : World) (e : Ending) (w' : World) : Prop :=
  Ext w w' ∧ ((∃ (a s t r q : Nat), bodyR bs p = (0, (a, s, t, r), q) ∧ e = .returned (.tuple #[.agg #[.int .i64 (a : Int), .int .i64 (s : Int), .int .i64 (t : Int), .int .i64 (r : Int)], .int .i64 (q : Int), .int .i64 0])) ∨
    (∃ er, bodyR bs p = (er, (0, 0, 0, 0), 0) ∧ er ≠ 0 ∧ e = .returned (.tuple #[.agg #[.int .i64 0, .int .i64 0, .int .i64 0, .int .i64 0], .int .i64 (p : Int), .int .i64 er])))
set_option maxRecDepth 8000 in
set_option maxHeartbeats 12800000 in
theorem rRead13_any (A : Option Addr) (bs : List UInt8) (L c p : Nat) (w : World) (hB : BSw w A bs) (hL : bs.length = L) (hb : L ≤ 140737488355328) (hcap : L ≤ c) :
    Calls Tryd.prog 31 #[.slice A L c, .int .i64 (p : Int)] w (RRead13Post bs p w) := by
  have HB := Lib.hid (hB.ext ((Ext.refl w).alloc (.cells #[.int .i64 0, .int .i64 0, .int .i64 0, .int .i64 0] 27)))
  have HL := Lib.hid hL
  clear hB hL
  go_enter Tryd.func31, Tryd.ntmps31
  go_wp2_with fail
  (go_at_call 48; (with_reducible refine (rRead_any 48 A bs L c p _ HB.out HL.out hb hcap (by omega)).mono ?_); rintro e w1 ⟨rfl, (⟨fr, n, A', c', hr, rfl, hs, hc', hfn⟩ | ⟨er, hr, hne, rfl⟩)⟩)
  · have HP0 := Lib.hid (bindR_ok (f := fun fr n => partsR ((bs.drop fr).take n) fr n) (z := (0, 0, 0, 0)) hr)
    have hln : ((bs.drop fr).take n).length = n := by simp; omega
    have Hln := Lib.hid hln
    have hfb : fr + n ≤ 140737488355328 := by rw [HL.out] at hfn; omega
    clear hln hr hfn
    generalize (bs.drop fr).take n = sub at *
    have HS := Lib.hid (fun (x0 x1 x2 x3 : Value) => hs.ext ((Ext.refl _).alloc (.cells #[x0, x1, x2, x3] 83)))
    clear hs
    go_wp2_with fail
    refine wp_loop_rounds 5 ?_
    rw [rounds_succ]
    go_wp2_with fail
    (go_at_call 49; (with_reducible refine (rTagged_z 0 0 A' sub n c' 0 _ (HS.out _ _ _ _) Hln.out (by omega) hc' (by decide) (by decide) (by omega)).mono ?_); rintro e w1 ⟨rfl, (⟨fr0, n0, A0, c0, hr, rfl, hs, hcc0, hff⟩ | ⟨er, hr, hne, rfl⟩)⟩)
    rotate_left
    · have HO := Lib.hid (HP0.out.trans (bindR_no (oneR_el_no (fun h => by cases h.2) hr hne) hne))
      have d1 : ((er : Int) != 0) = true := by simpa using hne
      have HN := Lib.hid hne
      clear hr hne
      go_wp2
      refine bodyPost_ret (v := .tuple #[.agg #[.int .i64 0, .int .i64 0, .int .i64 0, .int .i64 0], .int .i64 (p : Int), .int .i64 er]) (by simp [results, Tryd.results31, go_sem]) rfl ⟨(by repeat (first | exact Ext.refl _ | assumption | refine Ext.drew ?_ | refine Ext.alloc ?_ _ | refine Ext.setCell ?_ (by first | exact Nat.le_refl _ | (simp; done) | (simp; omega)) _ | refine Ext.trans ?_ (by assumption))), .inr ⟨_, HO.out, HN.out, rfl⟩⟩
    have HO0 := Lib.hid (oneR_el (needed := true) (fun h => by cases h.2) hr)
    have hln : ((sub.drop fr0).take n0).length = n0 := by simp; omega
    have Hln0 := Lib.hid hln
    have hfb0 : fr0 + n0 ≤ n := by rw [Hln.out] at hff; exact hff
    clear hln hr hff
    generalize (sub.drop fr0).take n0 = x0 at *
    have HX0 := Lib.hid hs
    clear hs
    go_wp2_with fail
    (go_at_call 50; (with_reducible refine (rTime_z 0 A0 x0 n0 c0 0 _ HX0.out Hln0.out (by omega) hcc0 (by omega)).mono ?_); rintro e w1 ⟨rfl, (⟨a, y0, hr, rfl⟩ | ⟨er, hr, hne, rfl⟩)⟩)
    rotate_left
    · have HQ : Hid (oneR 0 true sub 0 = (er, 0, 0)) := by refine HO0.out.trans ?_; rw [hr]; exact if_neg hne
      have HO := Lib.hid (HP0.out.trans (bindR_no HQ.out hne))
      have d1 : ((er : Int) != 0) = true := by simpa using hne
      have HW : Hid (wholeR n0 0 er = er) := if_neg (fun h => hne h.1)
      have HN := Lib.hid hne
      clear hr hne
      go_wp2_with (go_at_call 51; (with_reducible refine (rWhole_z _ _ _ 0 _ _ _ _ (by omega) HW.out).mono ?_); rintro e w' ⟨rfl, rfl⟩)
      refine bodyPost_ret (v := .tuple #[.agg #[.int .i64 0, .int .i64 0, .int .i64 0, .int .i64 0], .int .i64 (p : Int), .int .i64 er]) (by simp [results, Tryd.results31, go_sem]) rfl ⟨(by repeat (first | exact Ext.refl _ | assumption | refine Ext.drew ?_ | refine Ext.alloc ?_ _ | refine Ext.setCell ?_ (by first | exact Nat.le_refl _ | (simp; done) | (simp; omega)) _ | refine Ext.trans ?_ (by assumption))), .inr ⟨_, HO.out, HN.out, rfl⟩⟩
    have hyf : y0 ≤ n0 := by have := timeR_fits hr; rw [Hln0.out] at this; exact this
    have HQ0 : Hid (oneR 0 true sub 0 = if y0 = n0 ∧ (true = true ∨ a ≠ 0) then (0, a, fr0 + n0) else (6, 0, 0)) := by refine HO0.out.trans ?_; rw [hr]; first | exact rfl | (simp; done)
    clear hr
    by_cases hy : y0 = n0
    rotate_left
    · have HO := Lib.hid (HP0.out.trans (bindR_no (HQ0.out.trans (if_neg (fun h => hy h.1))) (by decide)))
      have HW : Hid (wholeR n0 y0 0 = 6) := if_pos ⟨rfl, by omega⟩
      clear hy
      go_wp2_with (go_at_call 51; (with_reducible refine (rWhole_z _ _ _ y0 _ _ _ _ (by omega) HW.out).mono ?_); rintro e w' ⟨rfl, rfl⟩)
      refine bodyPost_ret (v := .tuple #[.agg #[.int .i64 0, .int .i64 0, .int .i64 0, .int .i64 0], .int .i64 (p : Int), .int .i64 6]) (by simp [results, Tryd.results31, go_sem]) rfl ⟨(by repeat (first | exact Ext.refl _ | assumption | refine Ext.drew ?_ | refine Ext.alloc ?_ _ | refine Ext.setCell ?_ (by first | exact Nat.le_refl _ | (simp; done) | (simp; omega)) _ | refine Ext.trans ?_ (by assumption))), .inr ⟨_, HO.out, by decide, rfl⟩⟩
    have HW0 : Hid (wholeR n0 y0 0 = 0) := if_neg (fun h => by omega)
    have HP1 := Lib.hid (HP0.out.trans (bindR_ok (HQ0.out.trans (if_pos ⟨hy, .inl rfl⟩))))
    clear hy hyf
    go_wp2_with (go_at_call 51; (with_reducible refine (rWhole_z _ _ _ y0 _ _ _ _ (by omega) HW0.out).mono ?_); rintro e w' ⟨rfl, rfl⟩)
    rw [rounds_succ]
    go_wp2_with fail
    (go_at_call 49; (with_reducible refine (rTagged_z 1 ((fr0 : Int) + n0) A' sub n c' (fr0 + n0) _ (HS.out _ _ _ _) Hln.out (by omega) hc' (by decide) (by decide) (by omega)).mono ?_); rintro e w1 ⟨rfl, (⟨fr1, n1, A1, c1, hr, rfl, hs, hcc1, hff⟩ | ⟨er, hr, hne, rfl⟩)⟩)
    rotate_left
    · have HO := Lib.hid (HP1.out.trans (bindR_no (oneR_el_no (fun h => by cases h.2) hr hne) hne))
      have d1 : ((er : Int) != 0) = true := by simpa using hne
      have HN := Lib.hid hne
      clear hr hne
      go_wp2
      refine bodyPost_ret (v := .tuple #[.agg #[.int .i64 0, .int .i64 0, .int .i64 0, .int .i64 0], .int .i64 (p : Int), .int .i64 er]) (by simp [results, Tryd.results31, go_sem]) rfl ⟨(by repeat (first | exact Ext.refl _ | assumption | refine Ext.drew ?_ | refine Ext.alloc ?_ _ | refine Ext.setCell ?_ (by first | exact Nat.le_refl _ | (simp; done) | (simp; omega)) _ | refine Ext.trans ?_ (by assumption))), .inr ⟨_, HO.out, HN.out, rfl⟩⟩
    have HO1 := Lib.hid (oneR_el (needed := true) (fun h => by cases h.2) hr)
    have hln : ((sub.drop fr1).take n1).length = n1 := by simp; omega
    have Hln1 := Lib.hid hln
    have hfb1 : fr1 + n1 ≤ n := by rw [Hln.out] at hff; exact hff
    clear hln hr hff
    generalize (sub.drop fr1).take n1 = x1 at *
    have HX1 := Lib.hid hs
    clear hs
    go_wp2_with fail
    (go_at_call 50; (with_reducible refine (rTime_z 0 A1 x1 n1 c1 0 _ HX1.out Hln1.out (by omega) hcc1 (by omega)).mono ?_); rintro e w1 ⟨rfl, (⟨s, y1, hr, rfl⟩ | ⟨er, hr, hne, rfl⟩)⟩)
    rotate_left
    · have HQ : Hid (oneR 1 true sub (fr0 + n0) = (er, 0, 0)) := by refine HO1.out.trans ?_; rw [hr]; exact if_neg hne
      have HO := Lib.hid (HP1.out.trans (bindR_no HQ.out hne))
      have d1 : ((er : Int) != 0) = true := by simpa using hne
      have HW : Hid (wholeR n1 0 er = er) := if_neg (fun h => hne h.1)
      have HN := Lib.hid hne
      clear hr hne
      go_wp2_with (go_at_call 51; (with_reducible refine (rWhole_z _ _ _ 0 _ _ _ _ (by omega) HW.out).mono ?_); rintro e w' ⟨rfl, rfl⟩)
      refine bodyPost_ret (v := .tuple #[.agg #[.int .i64 0, .int .i64 0, .int .i64 0, .int .i64 0], .int .i64 (p : Int), .int .i64 er]) (by simp [results, Tryd.results31, go_sem]) rfl ⟨(by repeat (first | exact Ext.refl _ | assumption | refine Ext.drew ?_ | refine Ext.alloc ?_ _ | refine Ext.setCell ?_ (by first | exact Nat.le_refl _ | (simp; done) | (simp; omega)) _ | refine Ext.trans ?_ (by assumption))), .inr ⟨_, HO.out, HN.out, rfl⟩⟩
    have hyf : y1 ≤ n1 := by have := timeR_fits hr; rw [Hln1.out] at this; exact this
    have HQ1 : Hid (oneR 1 true sub (fr0 + n0) = if y1 = n1 ∧ (true = true ∨ s ≠ 0) then (0, s, fr1 + n1) else (6, 0, 0)) := by refine HO1.out.trans ?_; rw [hr]; first | exact rfl | (simp; done)
    clear hr
    by_cases hy : y1 = n1
    rotate_left
    · have HO := Lib.hid (HP1.out.trans (bindR_no (HQ1.out.trans (if_neg (fun h => hy h.1))) (by decide)))
      have HW : Hid (wholeR n1 y1 0 = 6) := if_pos ⟨rfl, by omega⟩
      clear hy
      go_wp2_with (go_at_call 51; (with_reducible refine (rWhole_z _ _ _ y1 _ _ _ _ (by omega) HW.out).mono ?_); rintro e w' ⟨rfl, rfl⟩)
      refine bodyPost_ret (v := .tuple #[.agg #[.int .i64 0, .int .i64 0, .int .i64 0, .int .i64 0], .int .i64 (p : Int), .int .i64 6]) (by simp [results, Tryd.results31, go_sem]) rfl ⟨(by repeat (first | exact Ext.refl _ | assumption | refine Ext.drew ?_ | refine Ext.alloc ?_ _ | refine Ext.setCell ?_ (by first | exact Nat.le_refl _ | (simp; done) | (simp; omega)) _ | refine Ext.trans ?_ (by assumption))), .inr ⟨_, HO.out, by decide, rfl⟩⟩
    have HW1 : Hid (wholeR n1 y1 0 = 0) := if_neg (fun h => by omega)
    have HP2 := Lib.hid (HP1.out.trans (bindR_ok (HQ1.out.trans (if_pos ⟨hy, .inl rfl⟩))))
    clear hy hyf
    go_wp2_with (go_at_call 51; (with_reducible refine (rWhole_z _ _ _ y1 _ _ _ _ (by omega) HW1.out).mono ?_); rintro e w' ⟨rfl, rfl⟩)
    rw [rounds_succ]
    go_wp2_with fail
    (go_at_call 49; (with_reducible refine (rTagged_z 2 ((fr1 : Int) + n1) A' sub n c' (fr1 + n1) _ (HS.out _ _ _ _) Hln.out (by omega) hc' (by decide) (by decide) (by omega)).mono ?_); rintro e w1 ⟨rfl, (⟨fr2, n2, A2, c2, hr, rfl, hs, hcc2, hff⟩ | ⟨er, hr, hne, rfl⟩)⟩)
    rotate_left
    · have HO := Lib.hid (HP2.out.trans (bindR_no (oneR_el_no (fun h => by cases h.2) hr hne) hne))
      have d1 : ((er : Int) != 0) = true := by simpa using hne
      have HN := Lib.hid hne
      clear hr hne
      go_wp2
      refine bodyPost_ret (v := .tuple #[.agg #[.int .i64 0, .int .i64 0, .int .i64 0, .int .i64 0], .int .i64 (p : Int), .int .i64 er]) (by simp [results, Tryd.results31, go_sem]) rfl ⟨(by repeat (first | exact Ext.refl _ | assumption | refine Ext.drew ?_ | refine Ext.alloc ?_ _ | refine Ext.setCell ?_ (by first | exact Nat.le_refl _ | (simp; done) | (simp; omega)) _ | refine Ext.trans ?_ (by assumption))), .inr ⟨_, HO.out, HN.out, rfl⟩⟩
    have HO2 := Lib.hid (oneR_el (needed := true) (fun h => by cases h.2) hr)
    have hln : ((sub.drop fr2).take n2).length = n2 := by simp; omega
    have Hln2 := Lib.hid hln
    have hfb2 : fr2 + n2 ≤ n := by rw [Hln.out] at hff; exact hff
    clear hln hr hff
    generalize (sub.drop fr2).take n2 = x2 at *
    have HX2 := Lib.hid hs
    clear hs
    go_wp2_with fail
    (go_at_call 50; (with_reducible refine (rTime_z 0 A2 x2 n2 c2 0 _ HX2.out Hln2.out (by omega) hcc2 (by omega)).mono ?_); rintro e w1 ⟨rfl, (⟨t, y2, hr, rfl⟩ | ⟨er, hr, hne, rfl⟩)⟩)
    rotate_left
    · have HQ : Hid (oneR 2 true sub (fr1 + n1) = (er, 0, 0)) := by refine HO2.out.trans ?_; rw [hr]; exact if_neg hne
      have HO := Lib.hid (HP2.out.trans (bindR_no HQ.out hne))
      have d1 : ((er : Int) != 0) = true := by simpa using hne
      have HW : Hid (wholeR n2 0 er = er) := if_neg (fun h => hne h.1)
      have HN := Lib.hid hne
      clear hr hne
      go_wp2_with (go_at_call 51; (with_reducible refine (rWhole_z _ _ _ 0 _ _ _ _ (by omega) HW.out).mono ?_); rintro e w' ⟨rfl, rfl⟩)
      refine bodyPost_ret (v := .tuple #[.agg #[.int .i64 0, .int .i64 0, .int .i64 0, .int .i64 0], .int .i64 (p : Int), .int .i64 er]) (by simp [results, Tryd.results31, go_sem]) rfl ⟨(by repeat (first | exact Ext.refl _ | assumption | refine Ext.drew ?_ | refine Ext.alloc ?_ _ | refine Ext.setCell ?_ (by first | exact Nat.le_refl _ | (simp; done) | (simp; omega)) _ | refine Ext.trans ?_ (by assumption))), .inr ⟨_, HO.out, HN.out, rfl⟩⟩
    have hyf : y2 ≤ n2 := by have := timeR_fits hr; rw [Hln2.out] at this; exact this
    have HQ2 : Hid (oneR 2 true sub (fr1 + n1) = if y2 = n2 ∧ (true = true ∨ t ≠ 0) then (0, t, fr2 + n2) else (6, 0, 0)) := by refine HO2.out.trans ?_; rw [hr]; first | exact rfl | (simp; done)
    clear hr
    by_cases hy : y2 = n2
    rotate_left
    · have HO := Lib.hid (HP2.out.trans (bindR_no (HQ2.out.trans (if_neg (fun h => hy h.1))) (by decide)))
      have HW : Hid (wholeR n2 y2 0 = 6) := if_pos ⟨rfl, by omega⟩
      clear hy
      go_wp2_with (go_at_call 51; (with_reducible refine (rWhole_z _ _ _ y2 _ _ _ _ (by omega) HW.out).mono ?_); rintro e w' ⟨rfl, rfl⟩)
      refine bodyPost_ret (v := .tuple #[.agg #[.int .i64 0, .int .i64 0, .int .i64 0, .int .i64 0], .int .i64 (p : Int), .int .i64 6]) (by simp [results, Tryd.results31, go_sem]) rfl ⟨(by repeat (first | exact Ext.refl _ | assumption | refine Ext.drew ?_ | refine Ext.alloc ?_ _ | refine Ext.setCell ?_ (by first | exact Nat.le_refl _ | (simp; done) | (simp; omega)) _ | refine Ext.trans ?_ (by assumption))), .inr ⟨_, HO.out, by decide, rfl⟩⟩
    have HW2 : Hid (wholeR n2 y2 0 = 0) := if_neg (fun h => by omega)
    have HP3 := Lib.hid (HP2.out.trans (bindR_ok (HQ2.out.trans (if_pos ⟨hy, .inl rfl⟩))))
    clear hy hyf
    go_wp2_with (go_at_call 51; (with_reducible refine (rWhole_z _ _ _ y2 _ _ _ _ (by omega) HW2.out).mono ?_); rintro e w' ⟨rfl, rfl⟩)
    rw [rounds_succ]
    cases ht3 : hasTag (160 + 3) sub (fr2 + n2)
    · have HP4 := Lib.hid (HP3.out.trans (bindR_ok (show oneR 3 false sub (fr2 + n2) = (0, 0, fr2 + n2) by unfold oneR; rw [if_pos ⟨ht3, rfl⟩])))
      by_cases hk : fr2 + n2 < n
      · have hk2 : fr2 + n2 < sub.length := by rw [Hln.out]; exact hk
        have hb3 := ht3
        rw [hasTag_at _ _ _ hk2] at hb3
        obtain ⟨bb, ob, hA', hcs⟩ := (HS.out (.int .i64 (a : Int)) (.int .i64 (s : Int)) (.int .i64 (t : Int)) (.int .i64 0)).at_ hk2
        have hcell := hcs _ hk2
        have hx := sub[fr2 + n2].toNat_lt
        generalize sub[fr2 + n2].toNat = xb at *
        have d1 : ((xb : Int) != 163) = true := by have := of_decide_eq_false hb3; simp; omega
        have i0 : (0 : Int) ≤ (fr2 : Int) + n2 := by omega
        have i1 : (fr2 : Int) + n2 < (n : Int) := by omega
        have i2 : ((fr2 : Int) + n2).toNat = fr2 + n2 := by omega
        clear hb3 ht3 hcs hk2
        subst hA'
        have HO := Lib.hid (HP4.out.trans (if_neg (fun h => by omega)))
        go_wp2_with fail
        refine bodyPost_ret (v := .tuple #[.agg #[.int .i64 0, .int .i64 0, .int .i64 0, .int .i64 0], .int .i64 (p : Int), .int .i64 6]) (by simp [results, Tryd.results31, go_sem]) rfl ⟨(by repeat (first | exact Ext.refl _ | assumption | refine Ext.drew ?_ | refine Ext.alloc ?_ _ | refine Ext.setCell ?_ (by first | exact Nat.le_refl _ | (simp; done) | (simp; omega)) _ | refine Ext.trans ?_ (by assumption))), .inr ⟨_, HO.out, by decide, rfl⟩⟩
      · have i1 : (n : Int) ≤ (fr2 : Int) + n2 := by omega
        clear ht3
        have hq : fr2 + n2 = n := by omega
        · cases hv : validT a s t 0
          · have HO := Lib.hid (HP4.out.trans (if_neg (fun h => by have h2 : validT (a : Int) s t 0 = true := h.2; rw [hv] at h2; cases h2)))
            have HV := Lib.hid hv
            have e1 : ¬ (((fr2 : Int) + n2) < (n : Int)) := by omega
            clear hv hq
            go_wp2_with (go_at_call 23; (with_reducible refine (refValid_any _ _ _ _ _).mono ?_); rintro e wv ⟨rfl, hxv⟩; rw [HV.out]; obtain ⟨a0, a1, a2, a3, z0, z1, z2, z3⟩ := four_cells (hxv.heap (((Ext.refl _).alloc _).heap (((Ext.refl _).alloc _).heap (heap_new w _)))))
            have y9 := heap_set4 (v0 := .int .i64 0) (v1 := .int .i64 0) (v2 := .int .i64 0) (v3 := .int .i64 0) (hxv.heap (((Ext.refl _).alloc _).heap (((Ext.refl _).alloc _).heap (heap_new w _))))
            obtain ⟨y0', y1', y2', y3', _, _, _, _⟩ := four_cells y9
            refine bodyPost_ret (v := .tuple #[.agg #[.int .i64 0, .int .i64 0, .int .i64 0, .int .i64 0], .int .i64 (p : Int), .int .i64 6]) (by simp [results, Tryd.results31, go_sem, y0', y1', y2', y3']) rfl ⟨?_, .inr ⟨_, HO.out, by decide, rfl⟩⟩
            exact (gr_set4 wv w.heap.size _ _ _ _).ext ((((((Ext.refl w).alloc _).alloc _).alloc _)).trans hxv) (Nat.le_refl _)
          · have HO := Lib.hid (HP4.out.trans (if_pos ⟨hq, hv⟩))
            have HV := Lib.hid hv
            have e1 : ¬ (((fr2 : Int) + n2) < (n : Int)) := by omega
            clear hv hq
            go_wp2_with (go_at_call 23; (with_reducible refine (refValid_any _ _ _ _ _).mono ?_); rintro e wv ⟨rfl, hxv⟩; rw [HV.out]; obtain ⟨a0, a1, a2, a3, z0, z1, z2, z3⟩ := four_cells (hxv.heap (((Ext.refl _).alloc _).heap (((Ext.refl _).alloc _).heap (heap_new w _)))); obtain ⟨b0, b1, b2, b3, _, _, _, _⟩ := four_cells (hxv.heap (heap_new3 w _ _ _)))
            have y9 := heap_set4 (v0 := .int .i64 (a : Int)) (v1 := .int .i64 (s : Int)) (v2 := .int .i64 (t : Int)) (v3 := .int .i64 (0 : Int)) (hxv.heap (((Ext.refl _).alloc _).heap (((Ext.refl _).alloc _).heap (heap_new w _))))
            obtain ⟨y0', y1', y2', y3', _, _, _, _⟩ := four_cells y9
            refine bodyPost_ret (v := .tuple #[.agg #[.int .i64 (a : Int), .int .i64 (s : Int), .int .i64 (t : Int), .int .i64 (0 : Int)], .int .i64 ((fr : Int) + n), .int .i64 0]) (by simp [results, Tryd.results31, go_sem, y0', y1', y2', y3']) rfl ⟨?_, .inl ⟨_, _, _, _, _, HO.out, rfl⟩⟩
            exact (gr_set4 wv w.heap.size _ _ _ _).ext ((((((Ext.refl w).alloc _).alloc _).alloc _)).trans hxv) (Nat.le_refl _)
    · have hk2 : fr2 + n2 < sub.length := by
        by_cases h : fr2 + n2 < sub.length
        · exact h
        · rw [hasTag_end _ _ _ h] at ht3; cases ht3
      have hb3 := ht3
      rw [hasTag_at _ _ _ hk2] at hb3
      obtain ⟨bb, ob, hA', hcs⟩ := (HS.out (.int .i64 (a : Int)) (.int .i64 (s : Int)) (.int .i64 (t : Int)) (.int .i64 0)).at_ hk2
      have hcell := hcs _ hk2
      have hb4 : (sub[fr2 + n2].toNat : Int) = 163 := of_decide_eq_true hb3
      rw [hb4] at hcell
      have i0 : (0 : Int) ≤ (fr2 : Int) + n2 := by omega
      have i1 : (fr2 : Int) + n2 < (n : Int) := by rw [Hln.out] at hk2; omega
      have i2 : ((fr2 : Int) + n2).toNat = fr2 + n2 := by omega
      clear hb3 hb4 hcs hk2
      subst hA'
      go_wp2_with fail
      (go_at_call 49; (with_reducible refine (rTagged_z 3 ((fr2 : Int) + n2) _ sub n c' (fr2 + n2) _ (HS.out _ _ _ _) Hln.out (by omega) hc' (by decide) (by decide) (by omega)).mono ?_); rintro e w1 ⟨rfl, (⟨fr3, n3, A3, c3, hr, rfl, hs, hcc3, hff⟩ | ⟨er, hr, hne, rfl⟩)⟩)
      rotate_left
      · have HO := Lib.hid (HP3.out.trans (bindR_no (oneR_el_no (fun h => by rw [ht3] at h; cases h.1) hr hne) hne))
        have d1 : ((er : Int) != 0) = true := by simpa using hne
        have HN := Lib.hid hne
        clear hr hne
        go_wp2
        refine bodyPost_ret (v := .tuple #[.agg #[.int .i64 0, .int .i64 0, .int .i64 0, .int .i64 0], .int .i64 (p : Int), .int .i64 er]) (by simp [results, Tryd.results31, go_sem]) rfl ⟨(by repeat (first | exact Ext.refl _ | assumption | refine Ext.drew ?_ | refine Ext.alloc ?_ _ | refine Ext.setCell ?_ (by first | exact Nat.le_refl _ | (simp; done) | (simp; omega)) _ | refine Ext.trans ?_ (by assumption))), .inr ⟨_, HO.out, HN.out, rfl⟩⟩
      have HO3 := Lib.hid (oneR_el (needed := false) (fun h => by rw [ht3] at h; cases h.1) hr)
      have hln : ((sub.drop fr3).take n3).length = n3 := by simp; omega
      have Hln3 := Lib.hid hln
      have hfb3 : fr3 + n3 ≤ n := by rw [Hln.out] at hff; exact hff
      clear hln hr hff
      generalize (sub.drop fr3).take n3 = x3 at *
      have HX3 := Lib.hid hs
      clear hs
      go_wp2_with fail
      (go_at_call 50; (with_reducible refine (rTime_z 0 A3 x3 n3 c3 0 _ HX3.out Hln3.out (by omega) hcc3 (by omega)).mono ?_); rintro e w1 ⟨rfl, (⟨r, y3, hr, rfl⟩ | ⟨er, hr, hne, rfl⟩)⟩)
      rotate_left
      · have HQ : Hid (oneR 3 false sub (fr2 + n2) = (er, 0, 0)) := by refine HO3.out.trans ?_; rw [hr]; exact if_neg hne
        have HO := Lib.hid (HP3.out.trans (bindR_no HQ.out hne))
        have d1 : ((er : Int) != 0) = true := by simpa using hne
        have HW : Hid (wholeR n3 0 er = er) := if_neg (fun h => hne h.1)
        have HN := Lib.hid hne
        clear hr hne
        go_wp2_with (go_at_call 51; (with_reducible refine (rWhole_z _ _ _ 0 _ _ _ _ (by omega) HW.out).mono ?_); rintro e w' ⟨rfl, rfl⟩)
        refine bodyPost_ret (v := .tuple #[.agg #[.int .i64 0, .int .i64 0, .int .i64 0, .int .i64 0], .int .i64 (p : Int), .int .i64 er]) (by simp [results, Tryd.results31, go_sem]) rfl ⟨(by repeat (first | exact Ext.refl _ | assumption | refine Ext.drew ?_ | refine Ext.alloc ?_ _ | refine Ext.setCell ?_ (by first | exact Nat.le_refl _ | (simp; done) | (simp; omega)) _ | refine Ext.trans ?_ (by assumption))), .inr ⟨_, HO.out, HN.out, rfl⟩⟩
      have hyf : y3 ≤ n3 := by have := timeR_fits hr; rw [Hln3.out] at this; exact this
      have HQ3 : Hid (oneR 3 false sub (fr2 + n2) = if y3 = n3 ∧ (false = true ∨ r ≠ 0) then (0, r, fr3 + n3) else (6, 0, 0)) := by refine HO3.out.trans ?_; rw [hr]; first | exact rfl | (simp; done)
      clear hr
      by_cases hy : y3 = n3
      rotate_left
      · have HO := Lib.hid (HP3.out.trans (bindR_no (HQ3.out.trans (if_neg (fun h => hy h.1))) (by decide)))
        have HW : Hid (wholeR n3 y3 0 = 6) := if_pos ⟨rfl, by omega⟩
        clear hy
        go_wp2_with (go_at_call 51; (with_reducible refine (rWhole_z _ _ _ y3 _ _ _ _ (by omega) HW.out).mono ?_); rintro e w' ⟨rfl, rfl⟩)
        refine bodyPost_ret (v := .tuple #[.agg #[.int .i64 0, .int .i64 0, .int .i64 0, .int .i64 0], .int .i64 (p : Int), .int .i64 6]) (by simp [results, Tryd.results31, go_sem]) rfl ⟨(by repeat (first | exact Ext.refl _ | assumption | refine Ext.drew ?_ | refine Ext.alloc ?_ _ | refine Ext.setCell ?_ (by first | exact Nat.le_refl _ | (simp; done) | (simp; omega)) _ | refine Ext.trans ?_ (by assumption))), .inr ⟨_, HO.out, by decide, rfl⟩⟩
      have HW3 : Hid (wholeR n3 y3 0 = 0) := if_neg (fun h => by omega)
      by_cases hr0 : r = 0
      · have HO := Lib.hid (HP3.out.trans (bindR_no (HQ3.out.trans (if_neg (fun h => h.2.elim (fun h => by cases h) (fun h => h hr0)))) (by decide)))
        subst hr0
        clear hy
        go_wp2_with (go_at_call 51; (with_reducible refine (rWhole_z _ _ _ y3 _ _ _ _ (by omega) HW3.out).mono ?_); rintro e w' ⟨rfl, rfl⟩)
        refine bodyPost_ret (v := .tuple #[.agg #[.int .i64 0, .int .i64 0, .int .i64 0, .int .i64 0], .int .i64 (p : Int), .int .i64 6]) (by simp [results, Tryd.results31, go_sem]) rfl ⟨(by repeat (first | exact Ext.refl _ | assumption | refine Ext.drew ?_ | refine Ext.alloc ?_ _ | refine Ext.setCell ?_ (by first | exact Nat.le_refl _ | (simp; done) | (simp; omega)) _ | refine Ext.trans ?_ (by assumption))), .inr ⟨_, HO.out, by decide, rfl⟩⟩
      have d9 : ((r : Int) == 0) = false := by simp; omega
      have HP4 := Lib.hid (HP3.out.trans (bindR_ok (HQ3.out.trans (if_pos ⟨hy, .inr hr0⟩))))
      clear hr0 hy hyf
      go_wp2_with (go_at_call 51; (with_reducible refine (rWhole_z _ _ _ y3 _ _ _ _ (by omega) HW3.out).mono ?_); rintro e w' ⟨rfl, rfl⟩)
      rw [rounds_succ]
      by_cases hq : fr3 + n3 = n
      · cases hv : validT a s t r
        · have HO := Lib.hid (HP4.out.trans (if_neg (fun h => by have h2 : validT (a : Int) s t r = true := h.2; rw [hv] at h2; cases h2)))
          have HV := Lib.hid hv
          have e1 : ¬ (((fr3 : Int) + n3) < (n : Int)) := by omega
          clear hv hq
          go_wp2_with (go_at_call 23; (with_reducible refine (refValid_any _ _ _ _ _).mono ?_); rintro e wv ⟨rfl, hxv⟩; rw [HV.out]; obtain ⟨a0, a1, a2, a3, z0, z1, z2, z3⟩ := four_cells (hxv.heap (((Ext.refl _).alloc _).heap (((Ext.refl _).alloc _).heap (heap_new w _)))))
          have y9 := heap_set4 (v0 := .int .i64 0) (v1 := .int .i64 0) (v2 := .int .i64 0) (v3 := .int .i64 0) (hxv.heap (((Ext.refl _).alloc _).heap (((Ext.refl _).alloc _).heap (heap_new w _))))
          obtain ⟨y0', y1', y2', y3', _, _, _, _⟩ := four_cells y9
          refine bodyPost_ret (v := .tuple #[.agg #[.int .i64 0, .int .i64 0, .int .i64 0, .int .i64 0], .int .i64 (p : Int), .int .i64 6]) (by simp [results, Tryd.results31, go_sem, y0', y1', y2', y3']) rfl ⟨?_, .inr ⟨_, HO.out, by decide, rfl⟩⟩
          exact (gr_set4 wv w.heap.size _ _ _ _).ext ((((((Ext.refl w).alloc _).alloc _).alloc _)).trans hxv) (Nat.le_refl _)
        · have HO := Lib.hid (HP4.out.trans (if_pos ⟨hq, hv⟩))
          have HV := Lib.hid hv
          have e1 : ¬ (((fr3 : Int) + n3) < (n : Int)) := by omega
          clear hv hq
          go_wp2_with (go_at_call 23; (with_reducible refine (refValid_any _ _ _ _ _).mono ?_); rintro e wv ⟨rfl, hxv⟩; rw [HV.out]; obtain ⟨a0, a1, a2, a3, z0, z1, z2, z3⟩ := four_cells (hxv.heap (((Ext.refl _).alloc _).heap (((Ext.refl _).alloc _).heap (heap_new w _)))); obtain ⟨b0, b1, b2, b3, _, _, _, _⟩ := four_cells (hxv.heap (heap_new3 w _ _ _)))
          have y9 := heap_set4 (v0 := .int .i64 (a : Int)) (v1 := .int .i64 (s : Int)) (v2 := .int .i64 (t : Int)) (v3 := .int .i64 (r : Int)) (hxv.heap (((Ext.refl _).alloc _).heap (((Ext.refl _).alloc _).heap (heap_new w _))))
          obtain ⟨y0', y1', y2', y3', _, _, _, _⟩ := four_cells y9
          refine bodyPost_ret (v := .tuple #[.agg #[.int .i64 (a : Int), .int .i64 (s : Int), .int .i64 (t : Int), .int .i64 (r : Int)], .int .i64 ((fr : Int) + n), .int .i64 0]) (by simp [results, Tryd.results31, go_sem, y0', y1', y2', y3']) rfl ⟨?_, .inl ⟨_, _, _, _, _, HO.out, rfl⟩⟩
          exact (gr_set4 wv w.heap.size _ _ _ _).ext ((((((Ext.refl w).alloc _).alloc _).alloc _)).trans hxv) (Nat.le_refl _)
      · have HO := Lib.hid (HP4.out.trans (if_neg (fun h => hq h.1)))
        have e1 : ((fr3 : Int) + n3) < (n : Int) := by omega
        clear hq
        go_wp2
        refine bodyPost_ret (v := .tuple #[.agg #[.int .i64 0, .int .i64 0, .int .i64 0, .int .i64 0], .int .i64 (p : Int), .int .i64 6]) (by simp [results, Tryd.results31, go_sem]) rfl ⟨(by repeat (first | exact Ext.refl _ | assumption | refine Ext.drew ?_ | refine Ext.alloc ?_ _ | refine Ext.setCell ?_ (by first | exact Nat.le_refl _ | (simp; done) | (simp; omega)) _ | refine Ext.trans ?_ (by assumption))), .inr ⟨_, HO.out, by decide, rfl⟩⟩
  · have HO := Lib.hid (bindR_no (f := fun fr n => partsR ((bs.drop fr).take n) fr n) (z := (0, 0, 0, 0)) hr hne)
    have d1 : ((er : Int) != 0) = true := by simpa using hne
    have HN := Lib.hid hne
    clear hr hne
    go_wp2
    refine bodyPost_ret (v := .tuple #[.agg #[.int .i64 0, .int .i64 0, .int .i64 0, .int .i64 0], .int .i64 (p : Int), .int .i64 er]) (by simp [results, Tryd.results31, go_sem]) rfl ⟨(by repeat (first | exact Ext.refl _ | assumption | refine Ext.drew ?_ | refine Ext.alloc ?_ _ | refine Ext.setCell ?_ (by first | exact Nat.le_refl _ | (simp; done) | (simp; omega)) _ | refine Ext.trans ?_ (by assumption))), .inr ⟨_, HO.out, HN.out, rfl⟩⟩
end Go.Proofs.YtdpjkocpdomkbaaDoor
