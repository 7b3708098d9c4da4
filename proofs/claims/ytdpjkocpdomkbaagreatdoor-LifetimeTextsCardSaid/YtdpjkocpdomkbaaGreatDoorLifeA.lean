/- Contracts of package lifetime's reading: must, fine, one. Bytes of at most 2^47. -/
import Derived.Test.YtdpjkocpdomkbaaGreatDoorDerF
import Derived.Test.YtdpjkocpdomkbaaGreatDoorValid
namespace Go.Proofs.YtdpjkocpdomkbaaGreatDoor
open Go.RowKit
set_option maxHeartbeats 400000 in
theorem mustR_ok (A : Option Addr) (w : World) : Calls Tryz.prog 82 #[.pointer A, .int .i64 0] w fun e w' => e = .returned (.pointer A) ∧ w = w' := by
  go_enter Tryz.func82, Tryz.ntmps82
  go_wp2
  go_ret
  exact ⟨rfl, rfl⟩
set_option maxHeartbeats 400000 in
theorem mustR_no (A : Option Addr) (er : Int) (h : er ≠ 0) (w : World) : Calls Tryz.prog 82 #[.pointer A, .int .i64 er] w fun e w' => e = .panicked [{ v := .iface 25 (.int .i64 er), recovered := false }] ∧ w = w' := by
  have d : ((er : Int) != 0) = true := by simpa using h
  clear h
  go_enter Tryz.func82, Tryz.ntmps82
  go_wp2
  exact ⟨rfl, rfl, rfl⟩
set_option maxHeartbeats 400000 in
theorem mustI_ok (v : Int) (w : World) : Calls Tryz.prog 102 #[.int .i64 v, .int .i64 0] w fun e w' => e = .returned (.int .i64 v) ∧ w = w' := by
  go_enter Tryz.func102, Tryz.ntmps102
  go_wp2
  go_ret
  exact ⟨rfl, rfl⟩
set_option maxHeartbeats 400000 in
theorem mustI_no (v : Int) (er : Int) (h : er ≠ 0) (w : World) : Calls Tryz.prog 102 #[.int .i64 v, .int .i64 er] w fun e w' => e = .panicked [{ v := .iface 25 (.int .i64 er), recovered := false }] ∧ w = w' := by
  have d : ((er : Int) != 0) = true := by simpa using h
  clear h
  go_enter Tryz.func102, Tryz.ntmps102
  go_wp2
  exact ⟨rfl, rfl, rfl⟩
set_option maxHeartbeats 400000 in
theorem fine_t (w : World) : Calls Tryz.prog 85 #[.bool true] w fun e w' => e = .returned (.tuple #[]) ∧ w = w' := by
  go_enter Tryz.func85, Tryz.ntmps85
  go_wp2
  go_end0
  exact ⟨rfl, rfl⟩
set_option maxHeartbeats 400000 in
theorem fine_f (w : World) : Calls Tryz.prog 85 #[.bool false] w fun e w' => e = .panicked [{ v := .iface 25 (.int .i64 6), recovered := false }] ∧ w = w' := by
  go_enter Tryz.func85, Tryz.ntmps85
  go_wp2
  exact ⟨rfl, rfl, rfl⟩
/-- The tagged time at an offset: the error, the time, the offset behind it. -/
def oneR (k : Int) (needed : Bool) (bs : List UInt8) (p : Nat) : Int × Nat × Nat :=
  if hasTag (160 + k) bs p = false ∧ needed = false then (0, 0, p)
  else if (elR (160 + k) bs p).1 = 0 then
    if (timeR ((bs.drop (elR (160 + k) bs p).2.1).take (elR (160 + k) bs p).2.2) 0).1 = 0 then
      if (timeR ((bs.drop (elR (160 + k) bs p).2.1).take (elR (160 + k) bs p).2.2) 0).2.2 = (elR (160 + k) bs p).2.2 ∧ (needed = true ∨ (timeR ((bs.drop (elR (160 + k) bs p).2.1).take (elR (160 + k) bs p).2.2) 0).2.1 ≠ 0)
      then (0, (timeR ((bs.drop (elR (160 + k) bs p).2.1).take (elR (160 + k) bs p).2.2) 0).2.1, (elR (160 + k) bs p).2.1 + (elR (160 + k) bs p).2.2) else (6, 0, 0)
    else ((timeR ((bs.drop (elR (160 + k) bs p).2.1).take (elR (160 + k) bs p).2.2) 0).1, 0, 0)
  else ((elR (160 + k) bs p).1, 0, 0)
theorem oneR_el {k : Int} {needed : Bool} {bs : List UInt8} {p fr n : Nat} (h1 : ¬ (hasTag (160 + k) bs p = false ∧ needed = false)) (h2 : elR (160 + k) bs p = (0, fr, n)) :
    oneR k needed bs p = if (timeR ((bs.drop fr).take n) 0).1 = 0 then if (timeR ((bs.drop fr).take n) 0).2.2 = n ∧ (needed = true ∨ (timeR ((bs.drop fr).take n) 0).2.1 ≠ 0) then (0, (timeR ((bs.drop fr).take n) 0).2.1, fr + n) else (6, 0, 0) else ((timeR ((bs.drop fr).take n) 0).1, 0, 0) := by
  unfold oneR; rw [if_neg h1, h2]; rfl
theorem oneR_el_no {k : Int} {needed : Bool} {bs : List UInt8} {p : Nat} {er : Int} (h1 : ¬ (hasTag (160 + k) bs p = false ∧ needed = false)) (h2 : elR (160 + k) bs p = (er, 0, 0)) (h3 : er ≠ 0) : oneR k needed bs p = (er, 0, 0) := by
  unfold oneR; rw [if_neg h1, h2, if_neg h3]
theorem elR_no_tag {tag : Int} {bs : List UInt8} {p : Nat} (h : hasTag tag bs p = false) : elR tag bs p = if p < bs.length then (6, 0, 0) else (4, 0, 0) := by
  unfold elR
  by_cases hp : p < bs.length
  · rw [hasTag_at _ _ _ hp] at h
    rw [dif_pos hp, if_neg (of_decide_eq_false h), if_pos hp]
  · rw [dif_neg hp, if_neg hp]
theorem Gr.of_new {X R : Nat} {a b c : World} (h : Gr X a b) (k : Gr R b c) (hR : a.heap.size ≤ R) : Gr X a c :=
  ⟨k.os.trans h.os, k.tape.trans h.tape, k.output.trans h.output, Nat.le_trans h.size k.size, fun i hi hn => (k.block i (Nat.lt_of_lt_of_le hi h.size) (fun e => by injection e with e; omega)).trans (h.block i hi hn)⟩
def OnePost (k : Int) (needed : Bool) (R : Nat) (A : Option Addr) (bs : List UInt8) (c p : Nat) (w : World) (e : Ending) (w' : World) : Prop :=
  Gr R w w' ∧ ((∃ (t q : Nat), oneR k needed bs p = (0, t, q) ∧ e = .returned (.int .i64 (t : Int)) ∧ Rd w' R A bs c q) ∨ (∃ er, oneR k needed bs p = (er, 0, 0) ∧ er ≠ 0 ∧ e = .panicked [{ v := .iface 25 (.int .i64 er), recovered := false }]))
set_option maxRecDepth 8000 in
set_option maxHeartbeats 3200000 in
theorem one_any (k : Int) (needed : Bool) (hk0 : 0 ≤ k) (hk1 : k ≤ 30) (R : Nat) (A : Option Addr) (bs : List UInt8) (c p : Nat) (w : World) (h : Rd w R A bs c p) :
    Calls Tryz.prog 84 #[.pointer (some ⟨R, 0, none⟩), .int .i64 k, .bool needed] w (OnePost k needed R A bs c p w) := by
  have HH := Lib.hid h
  go_enter Tryz.func84, Tryz.ntmps84
  go_wp2_with fail
  (go_at_call 101; (with_reducible refine (tagged_any k hk0 hk1 R A bs c p w h).mono ?_); rintro e w1 (⟨ht, rfl, hx⟩ | ⟨fr, n, R', A', c', ht, hr, rfl, hrd', hR', hfn, hrd, hg⟩ | ⟨er, ht, hr, hne, rfl, hx⟩))
  · have HT := Lib.hid ht
    have HX := Lib.hid hx
    have h1 := h.ext hx
    clear ht h hx
    cases needed
    · have HO : Hid (oneR k false bs p = (0, 0, p)) := by unfold oneR; rw [if_pos ⟨HT.out, rfl⟩]; exact rfl
      go_wp2_with (first | (go_at_call 85; (with_reducible refine (fine_t _).mono ?_); rintro e w' ⟨rfl, rfl⟩))
      go_ret
      exact ⟨Gr.of_ext HX.out, .inl ⟨_, _, HO.out, rfl, h1⟩⟩
    · have hE := elR_no_tag HT.out
      by_cases hp : p < bs.length
      · rw [if_pos hp] at hE
        have HO : Hid (oneR k true bs p = (6, 0, 0)) := oneR_el_no (fun q => by cases q.2) hE (by decide)
        have d3 : ((bs.length : Int) - (p : Int) == 0) = false := by simp; omega
        clear hE
        go_wp2_with (first | (go_at_call 85; (with_reducible refine (fine_f _).mono ?_); rintro e w' ⟨rfl, rfl⟩) | (go_at_call 36; (with_reducible refine (rleft_any R A bs c p _ h1).mono ?_); rintro e w' ⟨rfl, n1, rfl⟩))
        exact ⟨rfl, (Gr.of_ext HX.out).drewN _, .inr ⟨_, HO.out, by decide, rfl⟩⟩
      · rw [if_neg hp] at hE
        have HO : Hid (oneR k true bs p = (4, 0, 0)) := oneR_el_no (fun q => by cases q.2) hE (by decide)
        have hpe : (p : Int) = bs.length := by have := h1.2.2.2.2; omega
        have d3 : ((bs.length : Int) - (p : Int) == 0) = true := by simp; omega
        clear hE hpe
        go_wp2_with (first | (go_at_call 36; (with_reducible refine (rleft_any R A bs c p _ h1).mono ?_); rintro e w' ⟨rfl, n1, rfl⟩))
        exact ⟨rfl, (Gr.of_ext HX.out).drewN _, .inr ⟨_, HO.out, by decide, rfl⟩⟩
  · have HO := Lib.hid (oneR_el (needed := needed) (fun q => by rw [ht] at q; cases q.1) hr)
    have hln : ((bs.drop fr).take n).length = n := by simp; omega
    have Hln := Lib.hid hln
    clear hln ht hr h
    generalize (bs.drop fr).take n = sub at *
    have hlt := HH.out.lt
    go_wp2_with (first | (go_at_call 82; (with_reducible refine (mustR_ok _ _).mono ?_); rintro e w' ⟨rfl, rfl⟩))
    (go_at_call 103; (with_reducible refine (time_any R' A' _ c' 0 w1 hrd').mono ?_); rintro e w2 (⟨v, q, hr2, rfl, hrd2, hg2⟩ | ⟨er, hr2, hne, rfl, hx2⟩))
    · have hq := hrd2.2.2.2.2
      have hrd3 : Rd w2 R A bs c (fr + n) := hrd.gr hg2 (by omega) hrd'.type (by decide)
      have hg3 : Gr R w w2 := Gr.of_new hg hg2 hR'
      have HO2 : Hid (oneR k needed bs p = if q = n ∧ (needed = true ∨ v ≠ 0) then (0, v, fr + n) else (6, 0, 0)) := by refine HO.out.trans ?_; rw [hr2]; exact rfl
      clear HO hr2 hrd hg hg2 hrd'
      by_cases hqn : q = sub.length
      · have d1 : ((sub.length : Int) - (q : Int) == 0) = true := by simp; omega
        have HQ := Lib.hid (hqn.trans Hln.out)
        clear hqn
        cases needed
        · by_cases hv : v = 0
          · have HO3 := Lib.hid (HO2.out.trans (if_neg (fun h => h.2.elim (fun h => by cases h) (fun h => h hv))))
            subst hv
            go_wp2_with (first | (go_at_call 102; (with_reducible refine (mustI_ok _ _).mono ?_); rintro e w' ⟨rfl, rfl⟩) | (go_at_call 85; (with_reducible refine (fine_f _).mono ?_); rintro e w' ⟨rfl, rfl⟩) | (go_at_call 36; (with_reducible refine (rleft_any R' A' sub c' q _ hrd2).mono ?_); rintro e w' ⟨rfl, n1, rfl⟩))
            exact ⟨rfl, hg3.drewN _, .inr ⟨_, HO3.out, by decide, rfl⟩⟩
          · have HO3 := Lib.hid (HO2.out.trans (if_pos ⟨HQ.out, .inr hv⟩))
            have d2 : ((v : Int) != 0) = true := by simp; omega
            clear hv
            go_wp2_with (first | (go_at_call 102; (with_reducible refine (mustI_ok _ _).mono ?_); rintro e w' ⟨rfl, rfl⟩) | (go_at_call 85; (with_reducible refine (fine_t _).mono ?_); rintro e w' ⟨rfl, rfl⟩) | (go_at_call 36; (with_reducible refine (rleft_any R' A' sub c' q _ hrd2).mono ?_); rintro e w' ⟨rfl, n1, rfl⟩))
            go_ret
            exact ⟨hg3.drewN _, .inl ⟨_, _, HO3.out, rfl, hrd3.ext (ext_drewN _ _)⟩⟩
        · have HO3 := Lib.hid (HO2.out.trans (if_pos ⟨HQ.out, .inl rfl⟩))
          go_wp2_with (first | (go_at_call 102; (with_reducible refine (mustI_ok _ _).mono ?_); rintro e w' ⟨rfl, rfl⟩) | (go_at_call 85; (with_reducible refine (fine_t _).mono ?_); rintro e w' ⟨rfl, rfl⟩) | (go_at_call 36; (with_reducible refine (rleft_any R' A' sub c' q _ hrd2).mono ?_); rintro e w' ⟨rfl, n1, rfl⟩))
          go_ret
          exact ⟨hg3.drewN _, .inl ⟨_, _, HO3.out, rfl, hrd3.ext (ext_drewN _ _)⟩⟩
      · have d1 : ((sub.length : Int) - (q : Int) == 0) = false := by simp; omega
        have HO3 := Lib.hid (HO2.out.trans (if_neg (fun h => hqn (h.1.trans Hln.out.symm))))
        go_wp2_with (first | (go_at_call 102; (with_reducible refine (mustI_ok _ _).mono ?_); rintro e w' ⟨rfl, rfl⟩) | (go_at_call 85; (with_reducible refine (fine_f _).mono ?_); rintro e w' ⟨rfl, rfl⟩) | (go_at_call 36; (with_reducible refine (rleft_any R' A' sub c' q _ hrd2).mono ?_); rintro e w' ⟨rfl, n1, rfl⟩))
        exact ⟨rfl, hg3.drewN _, .inr ⟨_, HO3.out, by decide, rfl⟩⟩
    · have HO2 : Hid (oneR k needed bs p = (er, 0, 0)) := by refine HO.out.trans ?_; rw [hr2]; exact if_neg hne
      clear HO hr2
      go_wp2_with (first | (go_at_call 102; (with_reducible refine (mustI_no _ _ hne _).mono ?_); rintro e w' ⟨rfl, rfl⟩))
      exact ⟨rfl, hg.trans (Gr.of_ext hx2), .inr ⟨_, HO2.out, hne, rfl⟩⟩
  · have HO := Lib.hid (oneR_el_no (needed := needed) (fun q => by rw [ht] at q; cases q.1) hr hne)
    have d : ((er : Int) == 0) = false := by simpa using hne
    have HN := Lib.hid hne
    clear hr ht hne
    go_wp2_with (first | (go_at_call 82; (with_reducible refine (mustR_no _ _ HN.out _).mono ?_); rintro e w' ⟨rfl, rfl⟩))
    exact ⟨rfl, Gr.of_ext hx, .inr ⟨_, HO.out, HN.out, rfl⟩⟩
end Go.Proofs.YtdpjkocpdomkbaaGreatDoor
