/- The law LifetimeHolds: every call returns true. The table of powers of ten as the program lays it. -/
import Derived.Test.YtdpjkocpdomkbaaDoorKnown
import Derived.Test.YtdpjkocpdomkbaaDoorHolds
import Derived.Test.YtdpjkocpdomkbaaDoorLawInitial
import Derived.Test.YtdpjkocpdomkbaaDoorLawDerives
import Derived.Test.YtdpjkocpdomkbaaDoorLawRenews
namespace Go.Proofs.YtdpjkocpdomkbaaDoor
open Go.RowKit
theorem valid_t (a s t r : Int) (h : validT a s t r = true) (w : World) : Calls Tryd.prog 17 #[.agg #[.int .i64 a, .int .i64 s, .int .i64 t, .int .i64 r]] w fun e w' => e = .returned (.bool true) ∧ Ext w w' :=
  (valid_any a s t r w).mono fun e w' q => by rw [← h]; exact q
theorem usable_z (a s t r now k : Int) (h : usableR a s t r now k = 0) (w : World) : Calls Tryd.prog 18 #[.agg #[.int .i64 a, .int .i64 s, .int .i64 t, .int .i64 r], .int .i64 now, .int .i64 k] w fun e w' => e = .returned (.int .i64 0) ∧ Ext w w' :=
  (usable_r a s t r now k w).mono fun e w' q => by rw [← h]; exact q
theorem renewable_t (a s t r now k : Int) (h : renewableR a s t r now k = true) (w : World) : Calls Tryd.prog 19 #[.agg #[.int .i64 a, .int .i64 s, .int .i64 t, .int .i64 r], .int .i64 now, .int .i64 k] w fun e w' => e = .returned (.bool true) ∧ Ext w w' :=
  (renewable_any a s t r now k w).mono fun e w' q => by rw [← h]; exact q
set_option maxRecDepth 8000 in
set_option maxHeartbeats 12800000 in
theorem lawHolds_any (a s t r f till wish life renew now k : Int) (w : World) (htab : Lib.TabIs Tryd.prog w "internal/strconv.uint64pow10" .u64 Lib.pow10Tab) :
    Calls Tryd.prog 6 #[.agg #[.int .i64 a, .int .i64 s, .int .i64 t, .int .i64 r], .agg #[.int .i64 f, .int .i64 till, .int .i64 wish], .agg #[.int .i64 life, .int .i64 renew], .int .i64 now, .int .i64 k] w fun e w' => e = .returned (.bool true) ∧ Ext w w' := by
  have Htab := Lib.hid htab
  clear htab
  go_enter Tryd.func6, Tryd.ntmps6
  rcases hI : initialR f till wish life renew now k with ⟨⟨i1, i2, i3, i4⟩, ie⟩
  rcases hD : deriveR a s t r f till wish life renew now k with ⟨⟨d1, d2, d3, d4⟩, de⟩
  rcases hN : renewR a s t r now k with ⟨⟨n1, n2, n3, n4⟩, ne⟩
  have HI := Lib.hid hI
  have HD := Lib.hid hD
  have HN := Lib.hid hN
  clear hI hD hN
  go_upto_region 0 with fail
  go_cut [5, 6, 7] (fun s5 s6 s7 wx => s5 = .pointer (some ⟨w.heap.size, 0, none⟩) ∧ s6 = .pointer (some ⟨w.heap.size + 1, 0, none⟩) ∧ s7 = .pointer (some ⟨w.heap.size + 1 + 1, 0, none⟩) ∧ BoxAt wx w.heap.size #[.int .i64 a, .int .i64 s, .int .i64 t, .int .i64 r] ∧ BoxAt wx (w.heap.size + 1) #[.int .i64 f, .int .i64 till, .int .i64 wish] ∧ BoxAt wx (w.heap.size + 1 + 1) #[.int .i64 life, .int .i64 renew] ∧ Ext w wx)
  case first => as_aux_lemma =>
    go_wp2_with fail
    go_meet
    exact ⟨rfl, by first | rfl | (simp; done), by first | rfl | (simp; done), (BoxAt.new _ _ _).ext (by repeat (first | exact Ext.refl _ | assumption | refine Ext.drew ?_ | refine Ext.alloc ?_ _ | refine Ext.setCell ?_ (by first | exact Nat.le_refl _ | (simp; done) | (simp; omega)) _ | refine Ext.trans ?_ (by assumption))), (BoxAt.of (heap_new2 w _ _)).ext (by repeat (first | exact Ext.refl _ | assumption | refine Ext.drew ?_ | refine Ext.alloc ?_ _ | refine Ext.setCell ?_ (by first | exact Nat.le_refl _ | (simp; done) | (simp; omega)) _ | refine Ext.trans ?_ (by assumption))), BoxAt.of (heap_new3 w _ _ _), (by repeat (first | exact Ext.refl _ | assumption | refine Ext.drew ?_ | refine Ext.alloc ?_ _ | refine Ext.setCell ?_ (by first | exact Nat.le_refl _ | (simp; done) | (simp; omega)) _ | refine Ext.trans ?_ (by assumption)))⟩
  case rest =>
    obtain ⟨rfl, rfl, rfl, hB5, hB6, hB7, hxw⟩ := hcut
    generalize wc = wq at *
    have hr5 := hB5.2
    have hr6 := hB6.2
    have hr7 := hB7.2
    go_upto_region 1 with fail
    go_cut [11, 12] (fun s11 s12 wx => ∃ b, s11 = .pointer (some ⟨b, 0, none⟩) ∧ s12 = .int .i64 ie ∧ BoxAt wx b #[.int .i64 i1, .int .i64 i2, .int .i64 i3, .int .i64 i4] ∧ Ext wq wx)
    case first => as_aux_lemma =>
      go_wp2_with (first | (go_at_call 10; (with_reducible refine (initial_eq _ _ _ _ _ _ _ _ _ _ _ _ HI.out _).mono ?_); rintro e w_initial ⟨rfl, hx_initial⟩; have hc_initial := hx_initial.cells; have hf_initial := hx_initial.frozens))
      go_meet
      exact ⟨_, rfl, rfl, BoxAt.new _ _ _, (by repeat (first | exact Ext.refl _ | assumption | refine Ext.drew ?_ | refine Ext.alloc ?_ _ | refine Ext.setCell ?_ (by first | exact Nat.le_refl _ | (simp; done) | (simp; omega)) _ | refine Ext.trans ?_ (by assumption)))⟩
    case rest =>
      obtain ⟨b, rfl, rfl, hB, hxc⟩ := hcut
      clear hr5 hr6 hr7
      replace hB5 := hB5.ext hxc
      replace hB6 := hB6.ext hxc
      replace hB7 := hB7.ext hxc
      replace hxw := hxw.trans hxc
      clear hxc
      generalize wc = wr at *
      go_upto_if 26 with fail
      go_cut [] (fun wx => Ext wr wx)
      case first => as_aux_lemma =>
        by_cases he : ie = 0
        · subst he
          have hr5 := hB5.2
          have hr6 := hB6.2
          have hr7 := hB7.2
          have hr := hB.2
          have hb5 := hB5.1
          have hb6 := hB6.1
          have hb7 := hB7.1
          have hb := hB.1
          obtain ⟨hV, q1, q2, q3, q4, q5, q6, q7, q8, q9⟩ := initial_holds HI.out
          subst q2
          obtain ⟨⟨_, _⟩, ⟨_, _⟩, ⟨_, _⟩, ⟨_, _⟩, _, _, _⟩ := validT_true hV
          have HV := Lib.hid hV
          clear hV
          by_cases h0 : till = 0
          case' pos => (subst h0; clear q4)
          case' neg => have q4 := q4 h0
          all_goals
            go_wp2_with (first | (go_at_call 17; (with_reducible refine (valid_t _ _ _ _ HV.out _).mono ?_); rintro e w_valid ⟨rfl, hx_valid⟩; try (have hz0_valid : w.heap.size < w_valid.heap.size := (by have := hx_valid.sz; (try simp at this); omega)); try (have hr0_valid := fun i => hx_valid.cells (w.heap.size) i (by first | assumption | (simp; done) | (simp; omega))); try (have hf0_valid := fun i => hx_valid.frozens (w.heap.size) i (by first | assumption | (simp; done) | (simp; omega))); try (have hz1_valid : w.heap.size + 1 < w_valid.heap.size := (by have := hx_valid.sz; (try simp at this); omega)); try (have hr1_valid := fun i => hx_valid.cells (w.heap.size + 1) i (by first | assumption | (simp; done) | (simp; omega))); try (have hf1_valid := fun i => hx_valid.frozens (w.heap.size + 1) i (by first | assumption | (simp; done) | (simp; omega))); try (have hz2_valid : w.heap.size + 1 + 1 < w_valid.heap.size := (by have := hx_valid.sz; (try simp at this); omega)); try (have hr2_valid := fun i => hx_valid.cells (w.heap.size + 1 + 1) i (by first | assumption | (simp; done) | (simp; omega))); try (have hf2_valid := fun i => hx_valid.frozens (w.heap.size + 1 + 1) i (by first | assumption | (simp; done) | (simp; omega))); try (have hz3_valid : b < w_valid.heap.size := (by have := hx_valid.sz; (try simp at this); omega)); try (have hr3_valid := fun i => hx_valid.cells (b) i (by first | assumption | (simp; done) | (simp; omega))); try (have hf3_valid := fun i => hx_valid.frozens (b) i (by first | assumption | (simp; done) | (simp; omega)))))
          all_goals
            go_meet
            exact (by repeat (first | exact Ext.refl _ | assumption | refine Ext.drew ?_ | refine Ext.alloc ?_ _ | refine Ext.setCell ?_ (by first | exact Nat.le_refl _ | (simp; done) | (simp; omega)) _ | refine Ext.trans ?_ (by assumption)))
        · go_wp2_with fail
          go_meet
          exact (by repeat (first | exact Ext.refl _ | assumption | refine Ext.drew ?_ | refine Ext.alloc ?_ _ | refine Ext.setCell ?_ (by first | exact Nat.le_refl _ | (simp; done) | (simp; omega)) _ | refine Ext.trans ?_ (by assumption)))
      case rest =>
        replace hB5 := hB5.ext hcut
        replace hB6 := hB6.ext hcut
        replace hB7 := hB7.ext hcut
        replace hxw := hxw.trans hcut
        clear hcut hB
        generalize wc = wq at *
        have hr5 := hB5.2
        have hr6 := hB6.2
        have hr7 := hB7.2
        go_upto_region 5 with fail
        go_cut [13, 14] (fun s13 s14 wx => ∃ b, s13 = .pointer (some ⟨b, 0, none⟩) ∧ s14 = .int .i64 de ∧ BoxAt wx b #[.int .i64 d1, .int .i64 d2, .int .i64 d3, .int .i64 d4] ∧ Ext wq wx)
        case first => as_aux_lemma =>
          go_wp2_with (first | (go_at_call 13; (with_reducible refine (derive_eq _ _ _ _ _ _ _ _ _ _ _ _ _ _ _ _ HD.out _).mono ?_); rintro e w_derive ⟨rfl, hx_derive⟩; have hc_derive := hx_derive.cells; have hf_derive := hx_derive.frozens))
          go_meet
          exact ⟨_, rfl, rfl, BoxAt.new _ _ _, (by repeat (first | exact Ext.refl _ | assumption | refine Ext.drew ?_ | refine Ext.alloc ?_ _ | refine Ext.setCell ?_ (by first | exact Nat.le_refl _ | (simp; done) | (simp; omega)) _ | refine Ext.trans ?_ (by assumption)))⟩
        case rest =>
          obtain ⟨b, rfl, rfl, hB, hxc⟩ := hcut
          clear hr5 hr6 hr7
          replace hB5 := hB5.ext hxc
          replace hB6 := hB6.ext hxc
          replace hB7 := hB7.ext hxc
          replace hxw := hxw.trans hxc
          clear hxc
          generalize wc = wr at *
          go_upto_if 85 with fail
          go_cut [] (fun wx => Ext wr wx)
          case first => as_aux_lemma =>
            by_cases he : de = 0
            · subst he
              have hr5 := hB5.2
              have hr6 := hB6.2
              have hr7 := hB7.2
              have hr := hB.2
              have hb5 := hB5.1
              have hb6 := hB6.1
              have hb7 := hB7.1
              have hb := hB.1
              obtain ⟨hV, q1, q2, q3, q4, hU⟩ := derive_holds HD.out
              subst q2
              obtain ⟨⟨_, _⟩, ⟨_, _⟩, ⟨_, _⟩, ⟨_, _⟩, _, _, _⟩ := validT_true hV
              have HV := Lib.hid hV
              have HU := Lib.hid hU
              clear hV hU
              go_wp2_with (first | (go_at_call 17; (with_reducible refine (valid_t _ _ _ _ HV.out _).mono ?_); rintro e w_valid ⟨rfl, hx_valid⟩; try (have hz0_valid : w.heap.size < w_valid.heap.size := (by have := hx_valid.sz; (try simp at this); omega)); try (have hr0_valid := fun i => hx_valid.cells (w.heap.size) i (by first | assumption | (simp; done) | (simp; omega))); try (have hf0_valid := fun i => hx_valid.frozens (w.heap.size) i (by first | assumption | (simp; done) | (simp; omega))); try (have hz1_valid : w.heap.size + 1 < w_valid.heap.size := (by have := hx_valid.sz; (try simp at this); omega)); try (have hr1_valid := fun i => hx_valid.cells (w.heap.size + 1) i (by first | assumption | (simp; done) | (simp; omega))); try (have hf1_valid := fun i => hx_valid.frozens (w.heap.size + 1) i (by first | assumption | (simp; done) | (simp; omega))); try (have hz2_valid : w.heap.size + 1 + 1 < w_valid.heap.size := (by have := hx_valid.sz; (try simp at this); omega)); try (have hr2_valid := fun i => hx_valid.cells (w.heap.size + 1 + 1) i (by first | assumption | (simp; done) | (simp; omega))); try (have hf2_valid := fun i => hx_valid.frozens (w.heap.size + 1 + 1) i (by first | assumption | (simp; done) | (simp; omega))); try (have hz3_valid : b < w_valid.heap.size := (by have := hx_valid.sz; (try simp at this); omega)); try (have hr3_valid := fun i => hx_valid.cells (b) i (by first | assumption | (simp; done) | (simp; omega))); try (have hf3_valid := fun i => hx_valid.frozens (b) i (by first | assumption | (simp; done) | (simp; omega)))) | (go_at_call 18; (with_reducible refine (usable_z _ _ _ _ _ _ HU.out _).mono ?_); rintro e w_usable ⟨rfl, hx_usable⟩; try (have hz0_usable : w.heap.size < w_usable.heap.size := (by have := hx_usable.sz; (try simp at this); omega)); try (have hr0_usable := fun i => hx_usable.cells (w.heap.size) i (by first | assumption | (simp; done) | (simp; omega))); try (have hf0_usable := fun i => hx_usable.frozens (w.heap.size) i (by first | assumption | (simp; done) | (simp; omega))); try (have hz1_usable : w.heap.size + 1 < w_usable.heap.size := (by have := hx_usable.sz; (try simp at this); omega)); try (have hr1_usable := fun i => hx_usable.cells (w.heap.size + 1) i (by first | assumption | (simp; done) | (simp; omega))); try (have hf1_usable := fun i => hx_usable.frozens (w.heap.size + 1) i (by first | assumption | (simp; done) | (simp; omega))); try (have hz2_usable : w.heap.size + 1 + 1 < w_usable.heap.size := (by have := hx_usable.sz; (try simp at this); omega)); try (have hr2_usable := fun i => hx_usable.cells (w.heap.size + 1 + 1) i (by first | assumption | (simp; done) | (simp; omega))); try (have hf2_usable := fun i => hx_usable.frozens (w.heap.size + 1 + 1) i (by first | assumption | (simp; done) | (simp; omega))); try (have hz3_usable : b < w_usable.heap.size := (by have := hx_usable.sz; (try simp at this); omega)); try (have hr3_usable := fun i => hx_usable.cells (b) i (by first | assumption | (simp; done) | (simp; omega))); try (have hf3_usable := fun i => hx_usable.frozens (b) i (by first | assumption | (simp; done) | (simp; omega)))))
              all_goals
                go_meet
                exact (by repeat (first | exact Ext.refl _ | assumption | refine Ext.drew ?_ | refine Ext.alloc ?_ _ | refine Ext.setCell ?_ (by first | exact Nat.le_refl _ | (simp; done) | (simp; omega)) _ | refine Ext.trans ?_ (by assumption)))
            · go_wp2_with fail
              go_meet
              exact (by repeat (first | exact Ext.refl _ | assumption | refine Ext.drew ?_ | refine Ext.alloc ?_ _ | refine Ext.setCell ?_ (by first | exact Nat.le_refl _ | (simp; done) | (simp; omega)) _ | refine Ext.trans ?_ (by assumption)))
          case rest =>
            replace hB5 := hB5.ext hcut
            replace hB6 := hB6.ext hcut
            replace hB7 := hB7.ext hcut
            replace hxw := hxw.trans hcut
            clear hcut hB
            generalize wc = wq at *
            have hr5 := hB5.2
            have hr6 := hB6.2
            have hr7 := hB7.2
            go_upto_region 9 with fail
            go_cut [15, 16] (fun s15 s16 wx => ∃ b, s15 = .pointer (some ⟨b, 0, none⟩) ∧ s16 = .int .i64 ne ∧ BoxAt wx b #[.int .i64 n1, .int .i64 n2, .int .i64 n3, .int .i64 n4] ∧ Ext wq wx)
            case first => as_aux_lemma =>
              go_wp2_with (first | (go_at_call 15; (with_reducible refine (renew_eq _ _ _ _ _ _ _ _ _ _ _ HN.out _).mono ?_); rintro e w_renew ⟨rfl, hx_renew⟩; have hc_renew := hx_renew.cells; have hf_renew := hx_renew.frozens))
              go_meet
              exact ⟨_, rfl, rfl, BoxAt.new _ _ _, (by repeat (first | exact Ext.refl _ | assumption | refine Ext.drew ?_ | refine Ext.alloc ?_ _ | refine Ext.setCell ?_ (by first | exact Nat.le_refl _ | (simp; done) | (simp; omega)) _ | refine Ext.trans ?_ (by assumption)))⟩
            case rest =>
              obtain ⟨b, rfl, rfl, hB, hxc⟩ := hcut
              clear hr5 hr6 hr7
              replace hB5 := hB5.ext hxc
              replace hB6 := hB6.ext hxc
              replace hB7 := hB7.ext hxc
              replace hxw := hxw.trans hxc
              clear hxc
              generalize wc = wr at *
              go_upto_if 135 with fail
              go_cut [] (fun wx => Ext wr wx)
              case first => as_aux_lemma =>
                by_cases he : ne = 0
                · subst he
                  have hr5 := hB5.2
                  have hr6 := hB6.2
                  have hr7 := hB7.2
                  have hr := hB.2
                  have hb5 := hB5.1
                  have hb6 := hB6.1
                  have hb7 := hB7.1
                  have hb := hB.1
                  obtain ⟨hV, q1, q2, q3, q4, hU, hVb⟩ := renew_holds HN.out
                  subst q3 q4
                  obtain ⟨⟨_, _⟩, ⟨_, _⟩, ⟨_, _⟩, ⟨_, _⟩, _, _, _⟩ := validT_true hV
                  obtain ⟨⟨_, _⟩, ⟨_, _⟩, ⟨_, _⟩, ⟨_, _⟩, _, _, _⟩ := validT_true hVb
                  have HV := Lib.hid hV
                  have HU := Lib.hid hU
                  clear hV hVb hU
                  go_wp2_with (first | (go_at_call 17; (with_reducible refine (valid_t _ _ _ _ HV.out _).mono ?_); rintro e w_valid ⟨rfl, hx_valid⟩; try (have hz0_valid : w.heap.size < w_valid.heap.size := (by have := hx_valid.sz; (try simp at this); omega)); try (have hr0_valid := fun i => hx_valid.cells (w.heap.size) i (by first | assumption | (simp; done) | (simp; omega))); try (have hf0_valid := fun i => hx_valid.frozens (w.heap.size) i (by first | assumption | (simp; done) | (simp; omega))); try (have hz1_valid : w.heap.size + 1 < w_valid.heap.size := (by have := hx_valid.sz; (try simp at this); omega)); try (have hr1_valid := fun i => hx_valid.cells (w.heap.size + 1) i (by first | assumption | (simp; done) | (simp; omega))); try (have hf1_valid := fun i => hx_valid.frozens (w.heap.size + 1) i (by first | assumption | (simp; done) | (simp; omega))); try (have hz2_valid : w.heap.size + 1 + 1 < w_valid.heap.size := (by have := hx_valid.sz; (try simp at this); omega)); try (have hr2_valid := fun i => hx_valid.cells (w.heap.size + 1 + 1) i (by first | assumption | (simp; done) | (simp; omega))); try (have hf2_valid := fun i => hx_valid.frozens (w.heap.size + 1 + 1) i (by first | assumption | (simp; done) | (simp; omega))); try (have hz3_valid : b < w_valid.heap.size := (by have := hx_valid.sz; (try simp at this); omega)); try (have hr3_valid := fun i => hx_valid.cells (b) i (by first | assumption | (simp; done) | (simp; omega))); try (have hf3_valid := fun i => hx_valid.frozens (b) i (by first | assumption | (simp; done) | (simp; omega)))) | (go_at_call 19; (with_reducible refine (renewable_t _ _ _ _ _ _ HU.out _).mono ?_); rintro e w_renewable ⟨rfl, hx_renewable⟩; try (have hz0_renewable : w.heap.size < w_renewable.heap.size := (by have := hx_renewable.sz; (try simp at this); omega)); try (have hr0_renewable := fun i => hx_renewable.cells (w.heap.size) i (by first | assumption | (simp; done) | (simp; omega))); try (have hf0_renewable := fun i => hx_renewable.frozens (w.heap.size) i (by first | assumption | (simp; done) | (simp; omega))); try (have hz1_renewable : w.heap.size + 1 < w_renewable.heap.size := (by have := hx_renewable.sz; (try simp at this); omega)); try (have hr1_renewable := fun i => hx_renewable.cells (w.heap.size + 1) i (by first | assumption | (simp; done) | (simp; omega))); try (have hf1_renewable := fun i => hx_renewable.frozens (w.heap.size + 1) i (by first | assumption | (simp; done) | (simp; omega))); try (have hz2_renewable : w.heap.size + 1 + 1 < w_renewable.heap.size := (by have := hx_renewable.sz; (try simp at this); omega)); try (have hr2_renewable := fun i => hx_renewable.cells (w.heap.size + 1 + 1) i (by first | assumption | (simp; done) | (simp; omega))); try (have hf2_renewable := fun i => hx_renewable.frozens (w.heap.size + 1 + 1) i (by first | assumption | (simp; done) | (simp; omega))); try (have hz3_renewable : b < w_renewable.heap.size := (by have := hx_renewable.sz; (try simp at this); omega)); try (have hr3_renewable := fun i => hx_renewable.cells (b) i (by first | assumption | (simp; done) | (simp; omega))); try (have hf3_renewable := fun i => hx_renewable.frozens (b) i (by first | assumption | (simp; done) | (simp; omega)))))
                  all_goals
                    go_meet
                    exact (by repeat (first | exact Ext.refl _ | assumption | refine Ext.drew ?_ | refine Ext.alloc ?_ _ | refine Ext.setCell ?_ (by first | exact Nat.le_refl _ | (simp; done) | (simp; omega)) _ | refine Ext.trans ?_ (by assumption)))
                · go_wp2_with fail
                  go_meet
                  exact (by repeat (first | exact Ext.refl _ | assumption | refine Ext.drew ?_ | refine Ext.alloc ?_ _ | refine Ext.setCell ?_ (by first | exact Nat.le_refl _ | (simp; done) | (simp; omega)) _ | refine Ext.trans ?_ (by assumption)))
              case rest =>
                replace hB5 := hB5.ext hcut
                replace hB6 := hB6.ext hcut
                replace hB7 := hB7.ext hcut
                replace hxw := hxw.trans hcut
                clear hcut hB
                go_wp2_with (go_at_call 12; refine (known_any _ (Ext.tab ((by repeat (first | exact Ext.refl _ | assumption | refine Ext.drew ?_ | refine Ext.alloc ?_ _ | refine Ext.setCell ?_ (by first | exact Nat.le_refl _ | (simp; done) | (simp; omega)) _ | refine Ext.trans ?_ (by assumption)))) pow10_g Htab.out)).mono ?_; rintro e w_known ⟨rfl, hx_known⟩)
                go_ret
                exact ⟨rfl, (by repeat (first | exact Ext.refl _ | assumption | refine Ext.drew ?_ | refine Ext.alloc ?_ _ | refine Ext.setCell ?_ (by first | exact Nat.le_refl _ | (simp; done) | (simp; omega)) _ | refine Ext.trans ?_ (by assumption)))⟩
end Go.Proofs.YtdpjkocpdomkbaaDoor
