/- The walk of FlagsHolds: true at every argument. The table of the lowest bits as the program lays it. -/
import Derived.Test.YtbgiciijiopklaaDoorKnown
import Derived.Test.YtbgiciijiopklaaDoorPlainC
import Derived.Deep.DeepCutAuto
namespace Go.Proofs.YtbgiciijiopklaaDoor
open Go.RowKit Go.Shelf
theorem initial_r (o a x : Nat) (pre : Bool) (er : Int) (h : initR o a pre = (x, er)) (ho : o < 4294967296) (ha : a < 4294967296) (w : World) : Calls Tryd.prog 25 #[.int .u32 (o : Int), .int .u32 (a : Int), .bool pre] w fun e w' => e = .returned (.tuple #[.int .u32 (x : Int), .int .i64 er]) ∧ Ext w w' := initial_at o a x pre _ _ _ er h ho ha rfl rfl rfl w
theorem grant_r (o t a y : Nat) (er : Int) (h : grantRules o t a = (y, er)) (ho : o < 4294967296) (ht : t < 4294967296) (ha : a < 4294967296) (w : World) : Calls Tryd.prog 27 #[.int .u32 (o : Int), .int .u32 (t : Int), .int .u32 (a : Int)] w fun e w' => e = .returned (.tuple #[.int .u32 (y : Int), .int .i64 er]) ∧ Ext w w' := grant_at o t a y _ _ _ _ er h ho ht ha rfl rfl rfl rfl w
theorem ticket_t (f : Nat) (b : Bool) (hf : f < 4294967296) (h : ticketB f = b) (w : World) : Calls Tryd.prog 11 #[.int .u32 (f : Int)] w fun e w' => e = .returned (.bool b) ∧ w = w' := by subst h; exact ticket_any f hf w
theorem has_t (f g : Nat) (b : Bool) (hf : f < 4294967296) (hg : g < 4294967296) (h : hasB f g = b) (z : Int) (hz : z = g) (w : World) : Calls Tryd.prog 15 #[.int .u32 (f : Int), .int .u32 z] w fun e w' => e = .returned (.bool b) ∧ w = w' := by subst h; exact has_any f g hf hg z hz w
set_option maxRecDepth 8000 in
set_option maxHeartbeats 12800000 in
theorem lawHolds_any (o t a f : Nat) (pre : Bool) (w : World) (hT : TabAt 0 Lib.deBruijn32tab w) (ho : o < 4294967296) (ht : t < 4294967296) (ha : a < 4294967296) (hf : f < 4294967296) :
    Calls Tryd.prog 8 #[.int .u32 (o : Int), .int .u32 (t : Int), .int .u32 (a : Int), .int .u32 (f : Int), .bool pre] w fun e w' => e = .returned (.bool true) ∧ Ext w w' := by
  have HT := Lib.hid hT
  clear hT
  have hand := u32_and_nat a f ha hf
  have haf : a &&& f < 4294967296 := and32 ha
  have IF := fun u => init_fewer o a f pre u ho
  have GF := fun v => grant_fewer o t a f v ho ht ha
  have HIF := Lib.hid IF
  have HGF := Lib.hid GF
  clear IF GF
  generalize a &&& f = b at *
  rcases hI : initR o a pre with ⟨x, ie⟩
  rcases hG : grantRules o t a with ⟨y, ge⟩
  rcases hU : initR o b pre with ⟨u, ue⟩
  rcases hV : grantRules o t b with ⟨v, ve⟩
  have HI := Lib.hid hI
  have HG := Lib.hid hG
  have HU := Lib.hid hU
  have HV := Lib.hid hV
  clear hI hG hU hV
  go_enter Tryd.func8, Tryd.ntmps8
  go_upto_region 4 with (first | (go_at_call 25; (with_reducible refine (initial_r o a x pre ie HI.out ho ha _).mono ?_); rintro e w1 ⟨rfl, hx1⟩))
  go_cut [58] (fun s58 wx => s58 = .bool false ∧ w1 = wx)
  case first =>
    by_cases he : ie = 0
    · subst he
      obtain ⟨k1, k2, k3, k4, k5⟩ := init_holds o a pre x ho ha HI.out
      have b1 := andI x 149 k1 (by decide) 149 rfl
      have b2 := offI' (x &&& 149) a (and32 k1) ha
      rw [k5] at b2
      have K2 := Lib.hid k2
      have K3 := Lib.hid k3
      have K4 := Lib.hid k4
      clear k2 k3 k4 k5
      generalize x &&& 149 = p at *
      go_wp2_with (first | (go_at_call 11; (with_reducible refine (ticket_t x _ k1 K2.out _).mono ?_); rintro e w' ⟨rfl, rfl⟩) | (go_at_call 15; (with_reducible refine (has_t x 256 _ k1 (by decide) K3.out _ (by decide) _).mono ?_); rintro e w' ⟨rfl, rfl⟩) | (go_at_call 15; (with_reducible refine (has_t x 512 _ k1 (by decide) K4.out _ (by decide) _).mono ?_); rintro e w' ⟨rfl, rfl⟩))
      go_meet
      exact ⟨by simp, rfl⟩
    · have d : ((ie : Int) == 0) = false := by simpa using he
      clear he
      go_wp2
      go_meet
      exact ⟨rfl, rfl⟩
  case rest =>
    obtain ⟨rfl, rfl⟩ := hcut
    go_upto_region 7 with (first | (go_at_call 27; (with_reducible refine (grant_r o t a y ge HG.out ho ht ha _).mono ?_); rintro e w2 ⟨rfl, hx2⟩))
    go_cut [80] (fun s80 wx => s80 = .bool false ∧ w2 = wx)
    case first =>
      by_cases he : ge = 0
      · subst he
        obtain ⟨k1, k2, k3, k4⟩ := grant_holds o t a y ho ht ha HG.out
        have b1 := andI y 149 k1 (by decide) 149 rfl
        have b2 := offI' (y &&& 149) t (and32 k1) ht
        rw [k3] at b2
        have K2 := Lib.hid k2
        clear k2 k3 k4
        generalize y &&& 149 = p at *
        go_wp2_with (first | (go_at_call 11; (with_reducible refine (ticket_t y _ k1 K2.out _).mono ?_); rintro e w' ⟨rfl, rfl⟩))
        go_meet
        exact ⟨by simp, rfl⟩
      · have d : ((ge : Int) == 0) = false := by simpa using he
        clear he
        go_wp2
        go_meet
        exact ⟨rfl, rfl⟩
    case rest =>
      obtain ⟨rfl, rfl⟩ := hcut
      go_upto_region 9 with fail
      go_cut [96] (fun s96 wx => s96 = .bool false ∧ w2 = wx)
      case first =>
        by_cases he : ge = 0
        · subst he
          obtain ⟨k1, _, _, k4⟩ := grant_holds o t a y ho ht ha HG.out
          have b1 := andI o 196608 ho (by decide) 196608 rfl
          have b2 := beq_zero (o &&& 196608)
          cases h8 : hasB y 256
          · have H8 := Lib.hid h8
            clear h8 k4
            go_wp2_with (first | (go_at_call 15; (with_reducible refine (has_t y 256 _ k1 (by decide) H8.out _ (by decide) _).mono ?_); rintro e w' ⟨rfl, rfl⟩))
            go_meet
            exact ⟨by simp, rfl⟩
          · have H8 := Lib.hid h8
            obtain ⟨k5, k6⟩ := k4 h8
            have K5 := Lib.hid k5
            rw [decide_eq_false k6] at b2
            clear h8 k4 k5 k6
            generalize o &&& 196608 = p at *
            go_wp2_with (first | (go_at_call 15; (with_reducible refine (has_t y 256 _ k1 (by decide) H8.out _ (by decide) _).mono ?_); rintro e w' ⟨rfl, rfl⟩) | (go_at_call 15; (with_reducible refine (has_t t 256 _ ht (by decide) K5.out _ (by decide) _).mono ?_); rintro e w' ⟨rfl, rfl⟩))
            go_meet
            exact ⟨by simp, rfl⟩
        · have d : ((ge : Int) == 0) = false := by simpa using he
          clear he
          go_wp2
          go_meet
          exact ⟨rfl, rfl⟩
      case rest =>
        obtain ⟨rfl, rfl⟩ := hcut
        go_upto_region 13 with (first | (go_at_call 25; (with_reducible refine (initial_r o b u pre ue HU.out ho haf _).mono ?_); rintro e w3 ⟨rfl, hx3⟩) | (go_at_call 27; (with_reducible refine (grant_r o t b v ve HV.out ho ht haf _).mono ?_); rintro e w4 ⟨rfl, hx4⟩))
        go_cut [144] (fun s144 wx => s144 = .bool false ∧ w4 = wx)
        case first =>
          cases hta : ticketB a
          · have TA := Lib.hid hta
            clear hta
            go_wp2_with (first | (go_at_call 11; (with_reducible refine (ticket_t a _ ha TA.out _).mono ?_); rintro e w' ⟨rfl, rfl⟩))
            go_meet
            exact ⟨by simp, rfl⟩
          · have TA := Lib.hid hta
            have A1 : Hid (ue = 0 → ie = 0 ∧ x < 4294967296 ∧ u < 4294967296 ∧ hasB x u = true) := fun h => by
              subst h
              obtain ⟨x', h1, h2⟩ := HIF.out u hta HU.out
              rw [HI.out] at h1
              obtain ⟨rfl, rfl⟩ := Prod.mk.inj h1
              exact ⟨rfl, (init_holds o a pre x ho ha HI.out).1, (init_holds o b pre u ho haf HU.out).1, h2⟩
            have A2 : Hid (ve = 0 → ge = 0 ∧ y < 4294967296 ∧ v < 4294967296 ∧ hasB y v = true) := fun h => by
              subst h
              obtain ⟨x', h1, h2⟩ := HGF.out v hta HV.out
              rw [HG.out] at h1
              obtain ⟨rfl, rfl⟩ := Prod.mk.inj h1
              exact ⟨rfl, (grant_holds o t a y ho ht ha HG.out).1, (grant_holds o t b v ho ht haf HV.out).1, h2⟩
            clear hta
            by_cases hu : ue = 0
            · obtain ⟨i1, i2, i3, i4⟩ := A1.out hu
              have I4 := Lib.hid i4
              subst hu i1
              clear i4
              by_cases hv : ve = 0
              · obtain ⟨j1, j2, j3, j4⟩ := A2.out hv
                have J4 := Lib.hid j4
                subst hv j1
                clear j4
                go_wp2_with (first | (go_at_call 11; (with_reducible refine (ticket_t a _ ha TA.out _).mono ?_); rintro e w' ⟨rfl, rfl⟩) | (go_at_call 15; (with_reducible refine (has_t x u _ i2 i3 I4.out _ rfl _).mono ?_); rintro e w' ⟨rfl, rfl⟩) | (go_at_call 15; (with_reducible refine (has_t y v _ j2 j3 J4.out _ rfl _).mono ?_); rintro e w' ⟨rfl, rfl⟩))
                go_meet
                exact ⟨by simp, rfl⟩
              · have d : ((ve : Int) == 0) = false := by simpa using hv
                clear hv
                go_wp2_with (first | (go_at_call 11; (with_reducible refine (ticket_t a _ ha TA.out _).mono ?_); rintro e w' ⟨rfl, rfl⟩) | (go_at_call 15; (with_reducible refine (has_t x u _ i2 i3 I4.out _ rfl _).mono ?_); rintro e w' ⟨rfl, rfl⟩))
                go_meet
                exact ⟨by simp, rfl⟩
            · have d0 : ((ue : Int) == 0) = false := by simpa using hu
              clear hu
              by_cases hv : ve = 0
              · obtain ⟨j1, j2, j3, j4⟩ := A2.out hv
                have J4 := Lib.hid j4
                subst hv j1
                clear j4
                go_wp2_with (first | (go_at_call 11; (with_reducible refine (ticket_t a _ ha TA.out _).mono ?_); rintro e w' ⟨rfl, rfl⟩) | (go_at_call 15; (with_reducible refine (has_t y v _ j2 j3 J4.out _ rfl _).mono ?_); rintro e w' ⟨rfl, rfl⟩))
                go_meet
                exact ⟨by simp, rfl⟩
              · have d : ((ve : Int) == 0) = false := by simpa using hv
                clear hv
                go_wp2_with (first | (go_at_call 11; (with_reducible refine (ticket_t a _ ha TA.out _).mono ?_); rintro e w' ⟨rfl, rfl⟩))
                go_meet
                exact ⟨by simp, rfl⟩
        case rest =>
          obtain ⟨rfl, rfl⟩ := hcut
          go_wp2_with (first | (go_at_call 16; (with_reducible refine (known_any _ (TabAt.ext HT.out (by repeat (first | exact Ext.refl _ | assumption | refine Ext.drew ?_ | refine Ext.alloc ?_ _ | refine Ext.setCell ?_ (by first | exact Nat.le_refl _ | (simp; done) | (simp; omega)) _ | refine Ext.trans ?_ (by assumption))))).mono ?_); rintro e w9 ⟨rfl, hx9⟩))
          go_ret
          exact ⟨rfl, (by repeat (first | exact Ext.refl _ | assumption | refine Ext.drew ?_ | refine Ext.alloc ?_ _ | refine Ext.setCell ?_ (by first | exact Nat.le_refl _ | (simp; done) | (simp; omega)) _ | refine Ext.trans ?_ (by assumption)))⟩
end Go.Proofs.YtbgiciijiopklaaDoor
