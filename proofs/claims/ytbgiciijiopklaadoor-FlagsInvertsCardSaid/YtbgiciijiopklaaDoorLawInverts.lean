/- The walk of FlagsInverts: true at every argument. The table of the lowest bits as the program lays it. -/
import Derived.Test.YtbgiciijiopklaaDoorLawDecodes
import Derived.Test.YtbgiciijiopklaaDoorPlainD
namespace Go.Proofs.YtbgiciijiopklaaDoor
open Go.RowKit Go.Shelf
theorem textB_size (f : Nat) : (textB f).size ≤ 1000000 := by
  unfold textB
  split
  · decide
  · have h := join_len ((eachL f).map fun i => (nameOf i).data.toList) (by intro x hx; rw [List.mem_map] at hx; obtain ⟨i, _, rfl⟩ := hx; exact nameOf_le i)
    have := eachL_len f
    rw [List.length_map] at h
    show (Lib.join ((eachL f).map fun i => (nameOf i).data.toList) [44]).toArray.size ≤ _
    rw [List.size_toArray]
    omega
theorem parse_own (f : Nat) (hf : f < 4294967296) (hn : namedB f = true) (w : World) (hT : TabAt 0 Lib.deBruijn32tab w) : Calls Tryd.prog 20 #[.string (textB f)] w fun e w' => e = .returned (.tuple #[.int .u32 (f : Int), .int .i64 0]) ∧ Ext w w' :=
  parse_at _ f _ _ (parse_text f hf hn) rfl (textB_size f) _ hT
theorem dec_own (f : Nat) (hf : f < 4294967296) (hn : namedB f = true) (A : Option Addr) (c : Nat) (w : World) (hB : BS w A (encB f)) : Calls Tryd.prog 30 #[.slice A 7 c] w fun e w' => e = .returned (.tuple #[.int .u32 (f : Int), .int .i64 0]) ∧ Ext w w' :=
  dec_at (dec_enc f hf hn) A 7 c w hB.weak (encB_len f) (by decide)
set_option maxRecDepth 8000 in
set_option maxHeartbeats 12800000 in
theorem lawInverts_any (f : Nat) (s : ByteArray) (A : Option Addr) (bs : List UInt8) (L c : Nat) (w : World) (hB : BSw w A bs) (hL : bs.length = L) (_hcap : L ≤ c) (hT : TabAt 0 Lib.deBruijn32tab w) (hf : f < 4294967296) : Calls Tryd.prog 10 #[.int .u32 (f : Int), .string s, .slice A L c] w fun e w' => e = .returned (.bool true) ∧ Ext w w' := by
  have HT := Lib.hid hT
  have HB := Lib.hid hB
  have HL := Lib.hid hL
  clear hT hB hL
  by_cases hs : (200 : Int) < (s.size : Int)
  · go_enter Tryd.func10, Tryd.ntmps10
    go_wp2_with (go_at_call 16; (with_reducible refine (known_any _ (TabAt.ext HT.out (by repeat (first | exact Ext.refl _ | assumption | refine Ext.drew ?_ | refine Ext.alloc ?_ _ | refine Ext.setCell ?_ (by first | exact Nat.le_refl _ | (simp; done) | (simp; omega)) _ | refine Ext.trans ?_ (by assumption))))).mono ?_); rintro e w9 ⟨rfl, hx9⟩)
    go_ret
    exact ⟨rfl, (by repeat (first | exact Ext.refl _ | assumption | refine Ext.drew ?_ | refine Ext.alloc ?_ _ | refine Ext.setCell ?_ (by first | exact Nat.le_refl _ | (simp; done) | (simp; omega)) _ | refine Ext.trans ?_ (by assumption)))⟩
  by_cases h100 : (100 : Int) < (L : Int)
  · go_enter Tryd.func10, Tryd.ntmps10
    go_wp2_with (go_at_call 16; (with_reducible refine (known_any _ (TabAt.ext HT.out (by repeat (first | exact Ext.refl _ | assumption | refine Ext.drew ?_ | refine Ext.alloc ?_ _ | refine Ext.setCell ?_ (by first | exact Nat.le_refl _ | (simp; done) | (simp; omega)) _ | refine Ext.trans ?_ (by assumption))))).mono ?_); rintro e w9 ⟨rfl, hx9⟩)
    go_ret
    exact ⟨rfl, (by repeat (first | exact Ext.refl _ | assumption | refine Ext.drew ?_ | refine Ext.alloc ?_ _ | refine Ext.setCell ?_ (by first | exact Nat.le_refl _ | (simp; done) | (simp; omega)) _ | refine Ext.trans ?_ (by assumption)))⟩
  have hb : L ≤ 140737488355328 := by omega
  have hs6 : s.size ≤ 1000000 := by omega
  have bs1 : decide ((200 : Int) < (s.size : Int)) = false := by simpa using hs
  have bs2 : decide (200 < s.size) = false := by simp; omega
  rcases hP : parseR s with ⟨v, pe⟩
  rcases hD : decF bs with ⟨de, u⟩
  have HP := Lib.hid hP
  have HD := Lib.hid hD
  clear hP hD
  by_cases hn : namedB f = true
  · have HN := Lib.hid hn
    have HX : Hid (textR f = (textB f, 0)) := by unfold textR; rw [hn]; exact rfl
    clear hn
    by_cases hpe : pe = 0
    · subst hpe
      obtain ⟨hv, hvn, hvt⟩ := text_parse s v HP.out
      have HG : Hid (textR v = (s, 0)) := by unfold textR; rw [hvn, hvt]; exact rfl
      clear hvn hvt
      by_cases hde : de = 0
      · subst hde
        obtain ⟨hu, hun, hue⟩ := enc_dec bs u HD.out
        have HU := Lib.hid hun
        have HE := Lib.hid hue
        clear hun hue
        go_enter Tryd.func10, Tryd.ntmps10
        go_wp2_with fail
        (go_at_call 17; (with_reducible refine (text_at f _ _ HX.out hf _ rfl _ (TabAt.ext HT.out (by repeat (first | exact Ext.refl _ | assumption | refine Ext.drew ?_ | refine Ext.alloc ?_ _ | refine Ext.setCell ?_ (by first | exact Nat.le_refl _ | (simp; done) | (simp; omega)) _ | refine Ext.trans ?_ (by assumption))))).mono ?_); rintro e w1 ⟨rfl, hx1⟩)
        go_wp2_with fail
        (go_at_call 20; (with_reducible refine (parse_own f hf HN.out _ (TabAt.ext HT.out (by repeat (first | exact Ext.refl _ | assumption | refine Ext.drew ?_ | refine Ext.alloc ?_ _ | refine Ext.setCell ?_ (by first | exact Nat.le_refl _ | (simp; done) | (simp; omega)) _ | refine Ext.trans ?_ (by assumption))))).mono ?_); rintro e w2 ⟨rfl, hx2⟩)
        go_wp2_with fail
        (go_at_call 29; (with_reducible refine (encode_yes f hf HN.out _).mono ?_); rintro e w3 ⟨Ax, cx, rfl, hbx, hcx, hx3⟩)
        go_wp2_with fail
        (go_at_call 30; (with_reducible refine (dec_own f hf HN.out Ax cx _ hbx).mono ?_); rintro e w4 ⟨rfl, hx4⟩)
        have X4 := Lib.hid (((hx1.trans hx2).trans hx3).trans hx4)
        clear hx1 hx2 hx3 hx4 hbx
        go_wp2_with fail
        (go_at_call 20; (with_reducible refine (parse_at s v _ _ HP.out rfl hs6 _ (TabAt.ext HT.out X4.out)).mono ?_); rintro e w5 ⟨rfl, hx5⟩)
        have X5 := Lib.hid (X4.out.trans hx5)
        clear hx5
        go_wp2_with fail
        (go_at_call 17; (with_reducible refine (text_at v _ _ HG.out hv _ rfl _ (TabAt.ext HT.out X5.out)).mono ?_); rintro e w6 ⟨rfl, hx6⟩)
        have X6 := Lib.hid (X5.out.trans hx6)
        clear hx6
        go_wp2_with fail
        (go_at_call 30; (with_reducible refine (dec_at HD.out A L c _ (HB.out.ext X6.out) HL.out hb).mono ?_); rintro e w7 ⟨rfl, hx7⟩)
        have X7 := Lib.hid (X6.out.trans hx7)
        clear hx7
        go_wp2_with fail
        (go_at_call 29; (with_reducible refine (encode_yes u hu HU.out _).mono ?_); rintro e w8 ⟨Ay, cy, rfl, hby, hcy, hx8⟩)
        have X8 := X7.out.trans hx8
        have hva := conv_bs 7 cy hby.weak (encB_len u)
        have hvb := conv_bs L c (HB.out.ext X8) HL.out
        rw [HE.out] at hva
        clear hby
        go_wp2_with (go_at_call 16; (with_reducible refine (known_any _ (TabAt.ext HT.out (by repeat (first | exact Ext.refl _ | assumption | refine Ext.drew ?_ | refine Ext.alloc ?_ _ | refine Ext.setCell ?_ (by first | exact Nat.le_refl _ | (simp; done) | (simp; omega)) _ | refine Ext.trans ?_ (by assumption))))).mono ?_); rintro e w9 ⟨rfl, hx9⟩)
        go_ret
        exact ⟨rfl, (by repeat (first | exact Ext.refl _ | assumption | refine Ext.drew ?_ | refine Ext.alloc ?_ _ | refine Ext.setCell ?_ (by first | exact Nat.le_refl _ | (simp; done) | (simp; omega)) _ | refine Ext.trans ?_ (by assumption)))⟩
      · have dd : ((de : Int) == 0) = false := by simpa using hde
        clear hde
        go_enter Tryd.func10, Tryd.ntmps10
        go_wp2_with fail
        (go_at_call 17; (with_reducible refine (text_at f _ _ HX.out hf _ rfl _ (TabAt.ext HT.out (by repeat (first | exact Ext.refl _ | assumption | refine Ext.drew ?_ | refine Ext.alloc ?_ _ | refine Ext.setCell ?_ (by first | exact Nat.le_refl _ | (simp; done) | (simp; omega)) _ | refine Ext.trans ?_ (by assumption))))).mono ?_); rintro e w1 ⟨rfl, hx1⟩)
        go_wp2_with fail
        (go_at_call 20; (with_reducible refine (parse_own f hf HN.out _ (TabAt.ext HT.out (by repeat (first | exact Ext.refl _ | assumption | refine Ext.drew ?_ | refine Ext.alloc ?_ _ | refine Ext.setCell ?_ (by first | exact Nat.le_refl _ | (simp; done) | (simp; omega)) _ | refine Ext.trans ?_ (by assumption))))).mono ?_); rintro e w2 ⟨rfl, hx2⟩)
        go_wp2_with fail
        (go_at_call 29; (with_reducible refine (encode_yes f hf HN.out _).mono ?_); rintro e w3 ⟨Ax, cx, rfl, hbx, hcx, hx3⟩)
        go_wp2_with fail
        (go_at_call 30; (with_reducible refine (dec_own f hf HN.out Ax cx _ hbx).mono ?_); rintro e w4 ⟨rfl, hx4⟩)
        have X4 := Lib.hid (((hx1.trans hx2).trans hx3).trans hx4)
        clear hx1 hx2 hx3 hx4 hbx
        go_wp2_with fail
        (go_at_call 20; (with_reducible refine (parse_at s v _ _ HP.out rfl hs6 _ (TabAt.ext HT.out X4.out)).mono ?_); rintro e w5 ⟨rfl, hx5⟩)
        have X5 := Lib.hid (X4.out.trans hx5)
        clear hx5
        go_wp2_with fail
        (go_at_call 17; (with_reducible refine (text_at v _ _ HG.out hv _ rfl _ (TabAt.ext HT.out X5.out)).mono ?_); rintro e w6 ⟨rfl, hx6⟩)
        have X6 := Lib.hid (X5.out.trans hx6)
        clear hx6
        go_wp2_with fail
        (go_at_call 30; (with_reducible refine (dec_at HD.out A L c _ (HB.out.ext X6.out) HL.out hb).mono ?_); rintro e w7 ⟨rfl, hx7⟩)
        have X7 := Lib.hid (X6.out.trans hx7)
        clear hx7
        have hx7 := X7.out
        go_wp2_with (go_at_call 16; (with_reducible refine (known_any _ (TabAt.ext HT.out (by repeat (first | exact Ext.refl _ | assumption | refine Ext.drew ?_ | refine Ext.alloc ?_ _ | refine Ext.setCell ?_ (by first | exact Nat.le_refl _ | (simp; done) | (simp; omega)) _ | refine Ext.trans ?_ (by assumption))))).mono ?_); rintro e w9 ⟨rfl, hx9⟩)
        go_ret
        exact ⟨rfl, (by repeat (first | exact Ext.refl _ | assumption | refine Ext.drew ?_ | refine Ext.alloc ?_ _ | refine Ext.setCell ?_ (by first | exact Nat.le_refl _ | (simp; done) | (simp; omega)) _ | refine Ext.trans ?_ (by assumption)))⟩
    · have dp : ((pe : Int) == 0) = false := by simpa using hpe
      clear hpe
      by_cases hde : de = 0
      · subst hde
        obtain ⟨hu, hun, hue⟩ := enc_dec bs u HD.out
        have HU := Lib.hid hun
        have HE := Lib.hid hue
        clear hun hue
        go_enter Tryd.func10, Tryd.ntmps10
        go_wp2_with fail
        (go_at_call 17; (with_reducible refine (text_at f _ _ HX.out hf _ rfl _ (TabAt.ext HT.out (by repeat (first | exact Ext.refl _ | assumption | refine Ext.drew ?_ | refine Ext.alloc ?_ _ | refine Ext.setCell ?_ (by first | exact Nat.le_refl _ | (simp; done) | (simp; omega)) _ | refine Ext.trans ?_ (by assumption))))).mono ?_); rintro e w1 ⟨rfl, hx1⟩)
        go_wp2_with fail
        (go_at_call 20; (with_reducible refine (parse_own f hf HN.out _ (TabAt.ext HT.out (by repeat (first | exact Ext.refl _ | assumption | refine Ext.drew ?_ | refine Ext.alloc ?_ _ | refine Ext.setCell ?_ (by first | exact Nat.le_refl _ | (simp; done) | (simp; omega)) _ | refine Ext.trans ?_ (by assumption))))).mono ?_); rintro e w2 ⟨rfl, hx2⟩)
        go_wp2_with fail
        (go_at_call 29; (with_reducible refine (encode_yes f hf HN.out _).mono ?_); rintro e w3 ⟨Ax, cx, rfl, hbx, hcx, hx3⟩)
        go_wp2_with fail
        (go_at_call 30; (with_reducible refine (dec_own f hf HN.out Ax cx _ hbx).mono ?_); rintro e w4 ⟨rfl, hx4⟩)
        have X4 := Lib.hid (((hx1.trans hx2).trans hx3).trans hx4)
        clear hx1 hx2 hx3 hx4 hbx
        go_wp2_with fail
        (go_at_call 20; (with_reducible refine (parse_at s v _ _ HP.out rfl hs6 _ (TabAt.ext HT.out X4.out)).mono ?_); rintro e w6 ⟨rfl, hx5⟩)
        have X6 := Lib.hid (X4.out.trans hx5)
        clear hx5
        go_wp2_with fail
        (go_at_call 30; (with_reducible refine (dec_at HD.out A L c _ (HB.out.ext X6.out) HL.out hb).mono ?_); rintro e w7 ⟨rfl, hx7⟩)
        have X7 := Lib.hid (X6.out.trans hx7)
        clear hx7
        go_wp2_with fail
        (go_at_call 29; (with_reducible refine (encode_yes u hu HU.out _).mono ?_); rintro e w8 ⟨Ay, cy, rfl, hby, hcy, hx8⟩)
        have X8 := X7.out.trans hx8
        have hva := conv_bs 7 cy hby.weak (encB_len u)
        have hvb := conv_bs L c (HB.out.ext X8) HL.out
        rw [HE.out] at hva
        clear hby
        go_wp2_with (go_at_call 16; (with_reducible refine (known_any _ (TabAt.ext HT.out (by repeat (first | exact Ext.refl _ | assumption | refine Ext.drew ?_ | refine Ext.alloc ?_ _ | refine Ext.setCell ?_ (by first | exact Nat.le_refl _ | (simp; done) | (simp; omega)) _ | refine Ext.trans ?_ (by assumption))))).mono ?_); rintro e w9 ⟨rfl, hx9⟩)
        go_ret
        exact ⟨rfl, (by repeat (first | exact Ext.refl _ | assumption | refine Ext.drew ?_ | refine Ext.alloc ?_ _ | refine Ext.setCell ?_ (by first | exact Nat.le_refl _ | (simp; done) | (simp; omega)) _ | refine Ext.trans ?_ (by assumption)))⟩
      · have dd : ((de : Int) == 0) = false := by simpa using hde
        clear hde
        go_enter Tryd.func10, Tryd.ntmps10
        go_wp2_with fail
        (go_at_call 17; (with_reducible refine (text_at f _ _ HX.out hf _ rfl _ (TabAt.ext HT.out (by repeat (first | exact Ext.refl _ | assumption | refine Ext.drew ?_ | refine Ext.alloc ?_ _ | refine Ext.setCell ?_ (by first | exact Nat.le_refl _ | (simp; done) | (simp; omega)) _ | refine Ext.trans ?_ (by assumption))))).mono ?_); rintro e w1 ⟨rfl, hx1⟩)
        go_wp2_with fail
        (go_at_call 20; (with_reducible refine (parse_own f hf HN.out _ (TabAt.ext HT.out (by repeat (first | exact Ext.refl _ | assumption | refine Ext.drew ?_ | refine Ext.alloc ?_ _ | refine Ext.setCell ?_ (by first | exact Nat.le_refl _ | (simp; done) | (simp; omega)) _ | refine Ext.trans ?_ (by assumption))))).mono ?_); rintro e w2 ⟨rfl, hx2⟩)
        go_wp2_with fail
        (go_at_call 29; (with_reducible refine (encode_yes f hf HN.out _).mono ?_); rintro e w3 ⟨Ax, cx, rfl, hbx, hcx, hx3⟩)
        go_wp2_with fail
        (go_at_call 30; (with_reducible refine (dec_own f hf HN.out Ax cx _ hbx).mono ?_); rintro e w4 ⟨rfl, hx4⟩)
        have X4 := Lib.hid (((hx1.trans hx2).trans hx3).trans hx4)
        clear hx1 hx2 hx3 hx4 hbx
        go_wp2_with fail
        (go_at_call 20; (with_reducible refine (parse_at s v _ _ HP.out rfl hs6 _ (TabAt.ext HT.out X4.out)).mono ?_); rintro e w6 ⟨rfl, hx5⟩)
        have X6 := Lib.hid (X4.out.trans hx5)
        clear hx5
        go_wp2_with fail
        (go_at_call 30; (with_reducible refine (dec_at HD.out A L c _ (HB.out.ext X6.out) HL.out hb).mono ?_); rintro e w7 ⟨rfl, hx7⟩)
        have X7 := Lib.hid (X6.out.trans hx7)
        clear hx7
        have hx7 := X7.out
        go_wp2_with (go_at_call 16; (with_reducible refine (known_any _ (TabAt.ext HT.out (by repeat (first | exact Ext.refl _ | assumption | refine Ext.drew ?_ | refine Ext.alloc ?_ _ | refine Ext.setCell ?_ (by first | exact Nat.le_refl _ | (simp; done) | (simp; omega)) _ | refine Ext.trans ?_ (by assumption))))).mono ?_); rintro e w9 ⟨rfl, hx9⟩)
        go_ret
        exact ⟨rfl, (by repeat (first | exact Ext.refl _ | assumption | refine Ext.drew ?_ | refine Ext.alloc ?_ _ | refine Ext.setCell ?_ (by first | exact Nat.le_refl _ | (simp; done) | (simp; omega)) _ | refine Ext.trans ?_ (by assumption)))⟩
  · have HN := Lib.hid hn
    have HX : Hid (textR f = (⟨#[]⟩, 2)) := by unfold textR; rw [if_neg hn]; exact rfl
    clear hn
    by_cases hpe : pe = 0
    · subst hpe
      obtain ⟨hv, hvn, hvt⟩ := text_parse s v HP.out
      have HG : Hid (textR v = (s, 0)) := by unfold textR; rw [hvn, hvt]; exact rfl
      clear hvn hvt
      by_cases hde : de = 0
      · subst hde
        obtain ⟨hu, hun, hue⟩ := enc_dec bs u HD.out
        have HU := Lib.hid hun
        have HE := Lib.hid hue
        clear hun hue
        go_enter Tryd.func10, Tryd.ntmps10
        go_wp2_with fail
        (go_at_call 17; (with_reducible refine (text_at f _ _ HX.out hf _ rfl _ (TabAt.ext HT.out (by repeat (first | exact Ext.refl _ | assumption | refine Ext.drew ?_ | refine Ext.alloc ?_ _ | refine Ext.setCell ?_ (by first | exact Nat.le_refl _ | (simp; done) | (simp; omega)) _ | refine Ext.trans ?_ (by assumption))))).mono ?_); rintro e w4 ⟨rfl, hx4⟩)
        have X4 := Lib.hid hx4
        clear hx4
        go_wp2_with fail
        (go_at_call 20; (with_reducible refine (parse_at s v _ _ HP.out rfl hs6 _ (TabAt.ext HT.out X4.out)).mono ?_); rintro e w5 ⟨rfl, hx5⟩)
        have X5 := Lib.hid (X4.out.trans hx5)
        clear hx5
        go_wp2_with fail
        (go_at_call 17; (with_reducible refine (text_at v _ _ HG.out hv _ rfl _ (TabAt.ext HT.out X5.out)).mono ?_); rintro e w6 ⟨rfl, hx6⟩)
        have X6 := Lib.hid (X5.out.trans hx6)
        clear hx6
        go_wp2_with fail
        (go_at_call 30; (with_reducible refine (dec_at HD.out A L c _ (HB.out.ext X6.out) HL.out hb).mono ?_); rintro e w7 ⟨rfl, hx7⟩)
        have X7 := Lib.hid (X6.out.trans hx7)
        clear hx7
        go_wp2_with fail
        (go_at_call 29; (with_reducible refine (encode_yes u hu HU.out _).mono ?_); rintro e w8 ⟨Ay, cy, rfl, hby, hcy, hx8⟩)
        have X8 := X7.out.trans hx8
        have hva := conv_bs 7 cy hby.weak (encB_len u)
        have hvb := conv_bs L c (HB.out.ext X8) HL.out
        rw [HE.out] at hva
        clear hby
        go_wp2_with (go_at_call 16; (with_reducible refine (known_any _ (TabAt.ext HT.out (by repeat (first | exact Ext.refl _ | assumption | refine Ext.drew ?_ | refine Ext.alloc ?_ _ | refine Ext.setCell ?_ (by first | exact Nat.le_refl _ | (simp; done) | (simp; omega)) _ | refine Ext.trans ?_ (by assumption))))).mono ?_); rintro e w9 ⟨rfl, hx9⟩)
        go_ret
        exact ⟨rfl, (by repeat (first | exact Ext.refl _ | assumption | refine Ext.drew ?_ | refine Ext.alloc ?_ _ | refine Ext.setCell ?_ (by first | exact Nat.le_refl _ | (simp; done) | (simp; omega)) _ | refine Ext.trans ?_ (by assumption)))⟩
      · have dd : ((de : Int) == 0) = false := by simpa using hde
        clear hde
        go_enter Tryd.func10, Tryd.ntmps10
        go_wp2_with fail
        (go_at_call 17; (with_reducible refine (text_at f _ _ HX.out hf _ rfl _ (TabAt.ext HT.out (by repeat (first | exact Ext.refl _ | assumption | refine Ext.drew ?_ | refine Ext.alloc ?_ _ | refine Ext.setCell ?_ (by first | exact Nat.le_refl _ | (simp; done) | (simp; omega)) _ | refine Ext.trans ?_ (by assumption))))).mono ?_); rintro e w4 ⟨rfl, hx4⟩)
        have X4 := Lib.hid hx4
        clear hx4
        go_wp2_with fail
        (go_at_call 20; (with_reducible refine (parse_at s v _ _ HP.out rfl hs6 _ (TabAt.ext HT.out X4.out)).mono ?_); rintro e w5 ⟨rfl, hx5⟩)
        have X5 := Lib.hid (X4.out.trans hx5)
        clear hx5
        go_wp2_with fail
        (go_at_call 17; (with_reducible refine (text_at v _ _ HG.out hv _ rfl _ (TabAt.ext HT.out X5.out)).mono ?_); rintro e w6 ⟨rfl, hx6⟩)
        have X6 := Lib.hid (X5.out.trans hx6)
        clear hx6
        go_wp2_with fail
        (go_at_call 30; (with_reducible refine (dec_at HD.out A L c _ (HB.out.ext X6.out) HL.out hb).mono ?_); rintro e w7 ⟨rfl, hx7⟩)
        have X7 := Lib.hid (X6.out.trans hx7)
        clear hx7
        have hx7 := X7.out
        go_wp2_with (go_at_call 16; (with_reducible refine (known_any _ (TabAt.ext HT.out (by repeat (first | exact Ext.refl _ | assumption | refine Ext.drew ?_ | refine Ext.alloc ?_ _ | refine Ext.setCell ?_ (by first | exact Nat.le_refl _ | (simp; done) | (simp; omega)) _ | refine Ext.trans ?_ (by assumption))))).mono ?_); rintro e w9 ⟨rfl, hx9⟩)
        go_ret
        exact ⟨rfl, (by repeat (first | exact Ext.refl _ | assumption | refine Ext.drew ?_ | refine Ext.alloc ?_ _ | refine Ext.setCell ?_ (by first | exact Nat.le_refl _ | (simp; done) | (simp; omega)) _ | refine Ext.trans ?_ (by assumption)))⟩
    · have dp : ((pe : Int) == 0) = false := by simpa using hpe
      clear hpe
      by_cases hde : de = 0
      · subst hde
        obtain ⟨hu, hun, hue⟩ := enc_dec bs u HD.out
        have HU := Lib.hid hun
        have HE := Lib.hid hue
        clear hun hue
        go_enter Tryd.func10, Tryd.ntmps10
        go_wp2_with fail
        (go_at_call 17; (with_reducible refine (text_at f _ _ HX.out hf _ rfl _ (TabAt.ext HT.out (by repeat (first | exact Ext.refl _ | assumption | refine Ext.drew ?_ | refine Ext.alloc ?_ _ | refine Ext.setCell ?_ (by first | exact Nat.le_refl _ | (simp; done) | (simp; omega)) _ | refine Ext.trans ?_ (by assumption))))).mono ?_); rintro e w4 ⟨rfl, hx4⟩)
        have X4 := Lib.hid hx4
        clear hx4
        go_wp2_with fail
        (go_at_call 20; (with_reducible refine (parse_at s v _ _ HP.out rfl hs6 _ (TabAt.ext HT.out X4.out)).mono ?_); rintro e w6 ⟨rfl, hx5⟩)
        have X6 := Lib.hid (X4.out.trans hx5)
        clear hx5
        go_wp2_with fail
        (go_at_call 30; (with_reducible refine (dec_at HD.out A L c _ (HB.out.ext X6.out) HL.out hb).mono ?_); rintro e w7 ⟨rfl, hx7⟩)
        have X7 := Lib.hid (X6.out.trans hx7)
        clear hx7
        go_wp2_with fail
        (go_at_call 29; (with_reducible refine (encode_yes u hu HU.out _).mono ?_); rintro e w8 ⟨Ay, cy, rfl, hby, hcy, hx8⟩)
        have X8 := X7.out.trans hx8
        have hva := conv_bs 7 cy hby.weak (encB_len u)
        have hvb := conv_bs L c (HB.out.ext X8) HL.out
        rw [HE.out] at hva
        clear hby
        go_wp2_with (go_at_call 16; (with_reducible refine (known_any _ (TabAt.ext HT.out (by repeat (first | exact Ext.refl _ | assumption | refine Ext.drew ?_ | refine Ext.alloc ?_ _ | refine Ext.setCell ?_ (by first | exact Nat.le_refl _ | (simp; done) | (simp; omega)) _ | refine Ext.trans ?_ (by assumption))))).mono ?_); rintro e w9 ⟨rfl, hx9⟩)
        go_ret
        exact ⟨rfl, (by repeat (first | exact Ext.refl _ | assumption | refine Ext.drew ?_ | refine Ext.alloc ?_ _ | refine Ext.setCell ?_ (by first | exact Nat.le_refl _ | (simp; done) | (simp; omega)) _ | refine Ext.trans ?_ (by assumption)))⟩
      · have dd : ((de : Int) == 0) = false := by simpa using hde
        clear hde
        go_enter Tryd.func10, Tryd.ntmps10
        go_wp2_with fail
        (go_at_call 17; (with_reducible refine (text_at f _ _ HX.out hf _ rfl _ (TabAt.ext HT.out (by repeat (first | exact Ext.refl _ | assumption | refine Ext.drew ?_ | refine Ext.alloc ?_ _ | refine Ext.setCell ?_ (by first | exact Nat.le_refl _ | (simp; done) | (simp; omega)) _ | refine Ext.trans ?_ (by assumption))))).mono ?_); rintro e w4 ⟨rfl, hx4⟩)
        have X4 := Lib.hid hx4
        clear hx4
        go_wp2_with fail
        (go_at_call 20; (with_reducible refine (parse_at s v _ _ HP.out rfl hs6 _ (TabAt.ext HT.out X4.out)).mono ?_); rintro e w6 ⟨rfl, hx5⟩)
        have X6 := Lib.hid (X4.out.trans hx5)
        clear hx5
        go_wp2_with fail
        (go_at_call 30; (with_reducible refine (dec_at HD.out A L c _ (HB.out.ext X6.out) HL.out hb).mono ?_); rintro e w7 ⟨rfl, hx7⟩)
        have X7 := Lib.hid (X6.out.trans hx7)
        clear hx7
        have hx7 := X7.out
        go_wp2_with (go_at_call 16; (with_reducible refine (known_any _ (TabAt.ext HT.out (by repeat (first | exact Ext.refl _ | assumption | refine Ext.drew ?_ | refine Ext.alloc ?_ _ | refine Ext.setCell ?_ (by first | exact Nat.le_refl _ | (simp; done) | (simp; omega)) _ | refine Ext.trans ?_ (by assumption))))).mono ?_); rintro e w9 ⟨rfl, hx9⟩)
        go_ret
        exact ⟨rfl, (by repeat (first | exact Ext.refl _ | assumption | refine Ext.drew ?_ | refine Ext.alloc ?_ _ | refine Ext.setCell ?_ (by first | exact Nat.le_refl _ | (simp; done) | (simp; omega)) _ | refine Ext.trans ?_ (by assumption)))⟩
end Go.Proofs.YtbgiciijiopklaaDoor
