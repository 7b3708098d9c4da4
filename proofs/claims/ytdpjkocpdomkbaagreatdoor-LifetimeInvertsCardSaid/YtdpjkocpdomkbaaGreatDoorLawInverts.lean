/- The law LifetimeInverts: every call returns true. The table of powers of ten and the library's variables as the program lays them. Printed by tools/inv13.py. -/
import Derived.Test.YtdpjkocpdomkbaaGreatDoorLawTexts
import Derived.Test.YtdpjkocpdomkbaaGreatDoorPlainL
namespace Go.Proofs.YtdpjkocpdomkbaaGreatDoor
open Go.RowKit
theorem textT_size {a s t r : Int} (hv : validT a s t r = true) : (textT a s t r).size ≤ 100000 := by
  obtain ⟨⟨ha, ha'⟩, ⟨hs, hs'⟩, ⟨ht, ht'⟩, ⟨hr, hr'⟩, _⟩ := validT_true hv
  have h1 := Lib.itoa_length_le a (by omega) (by omega)
  have h2 := Lib.itoa_length_le s (by omega) (by omega)
  have h3 := Lib.itoa_length_le t (by omega) (by omega)
  have h4 := Lib.itoa_length_le r (by omega) (by omega)
  rw [textT_def]
  show (Lib.join ([a, s, t, r].map Lib.itoa) [32]).toArray.size ≤ _
  rw [List.size_toArray]
  simp [Lib.join, List.intercalate, List.intersperse]
  omega
theorem dec_at {bs : List UInt8} {a s t r : Nat} {er : Int} (h0 : decodeR bs = ((a, s, t, r), er)) (A : Option Addr) (L c : Nat) (w : World) (hB : BSw w A bs) (hL : bs.length = L) (hb : L ≤ 140737488355328) :
    Calls Tryz.prog 14 #[.slice A L c] w fun e w' => e = .returned (.tuple #[.agg #[.int .i64 (a : Int), .int .i64 (s : Int), .int .i64 (t : Int), .int .i64 (r : Int)], .int .i64 er]) ∧ Ext w w' := by
  refine (decode_any A bs L c w hB hL hb).mono fun e w' ⟨a', s', t', r', er', h1, he, hx⟩ => ?_
  rw [h0] at h1
  simp only [Prod.mk.injEq] at h1
  obtain ⟨⟨rfl, rfl, rfl, rfl⟩, rfl⟩ := h1
  exact ⟨he, hx⟩
theorem encB_small (a s t r : Int) : (encB a s t r).length ≤ 140737488355328 := by
  unfold encB
  rw [elB_len]
  have h1 := lenB_le (elB 160 (timeB a) ++ (elB 161 (timeB s) ++ (elB 162 (timeB t) ++ if r = 0 then [] else elB 163 (timeB r)))).length
  have h2 : (if r = 0 then [] else elB 163 (timeB r)).length ≤ 10 := by
    split
    · simp
    · rw [tagB_len]; omega
  simp only [List.length_append, tagB_len] at h1 ⊢
  omega
theorem enc_at {a s t r : Int} {bs : List UInt8} {n : Nat} (hv : validT a s t r = true) (he : encB a s t r = bs) (hn : bs.length = n) (w : World) : Calls Tryz.prog 7 #[.agg #[.int .i64 a, .int .i64 s, .int .i64 t, .int .i64 r]] w fun e w' => ∃ A c, e = .returned (.tuple #[.slice A n c, .int .i64 0]) ∧ BSw w' A bs ∧ n ≤ c ∧ Ext w w' := by
  subst he hn
  exact (encode13_any a s t r w hv).mono fun e w' ⟨A, c, he, hP, hc, hx⟩ => ⟨A, c, he, hP.1, hc, hx⟩
attribute [local irreducible] encB decodeR parseR
set_option maxRecDepth 8000 in
set_option maxHeartbeats 25600000 in
theorem lawInverts_any (a s t r : Int) (x : ByteArray) (A : Option Addr) (bs : List UInt8) (L c : Nat) (w : World) (hB : BSw w A bs) (hL : bs.length = L) (_hcap : L ≤ c) (htab : Lib.TabIs Tryz.prog w "internal/strconv.uint64pow10" .u64 Lib.pow10Tab) (hV : VarsAt w) :
    Calls Tryz.prog 4 #[.agg #[.int .i64 a, .int .i64 s, .int .i64 t, .int .i64 r], .string x, .slice A L c] w fun e w' => e = .returned (.bool true) ∧ Ext w w' := by
  have Htab := Lib.hid htab
  have HV := Lib.hid hV
  have HB := Lib.hid hB
  have HL := Lib.hid hL
  have HH := Lib.hid (heap_new w (.cells #[.int .i64 a, .int .i64 s, .int .i64 t, .int .i64 r] 23))
  clear htab hV hB hL
  by_cases h100 : (100 : Int) < (x.size : Int)
  · go_enter Tryz.func4, Tryz.ntmps4
    go_wp2_with (go_at_call 5; refine (known_any _ (Ext.tab ((by repeat (first | exact Ext.refl _ | assumption | refine Ext.drew ?_ | refine Ext.alloc ?_ _ | refine Ext.setCell ?_ (by first | exact Nat.le_refl _ | (simp; done) | (simp; omega)) _ | refine Ext.trans ?_ (by assumption)))) pow10_g Htab.out)).mono ?_; rintro e wz ⟨rfl, hxz⟩)
    go_ret
    exact ⟨rfl, (by repeat (first | exact Ext.refl _ | assumption | refine Ext.drew ?_ | refine Ext.alloc ?_ _ | refine Ext.setCell ?_ (by first | exact Nat.le_refl _ | (simp; done) | (simp; omega)) _ | refine Ext.trans ?_ (by assumption)))⟩
  by_cases hl100 : (100 : Int) < (L : Int)
  · go_enter Tryz.func4, Tryz.ntmps4
    go_wp2_with (go_at_call 5; refine (known_any _ (Ext.tab ((by repeat (first | exact Ext.refl _ | assumption | refine Ext.drew ?_ | refine Ext.alloc ?_ _ | refine Ext.setCell ?_ (by first | exact Nat.le_refl _ | (simp; done) | (simp; omega)) _ | refine Ext.trans ?_ (by assumption)))) pow10_g Htab.out)).mono ?_; rintro e wz ⟨rfl, hxz⟩)
    go_ret
    exact ⟨rfl, (by repeat (first | exact Ext.refl _ | assumption | refine Ext.drew ?_ | refine Ext.alloc ?_ _ | refine Ext.setCell ?_ (by first | exact Nat.le_refl _ | (simp; done) | (simp; omega)) _ | refine Ext.trans ?_ (by assumption)))⟩
  have hb : L ≤ 140737488355328 := by omega
  have hxs : x.size ≤ 100000 := by omega
  have bs1 : decide ((100 : Int) < (x.size : Int)) = false := by simpa using h100
  have bs2 : decide (100 < x.size) = false := by simp; omega
  rcases hP : parseR x with ⟨⟨pa, pb, pc, pd⟩, pe⟩
  rcases hD : decodeR bs with ⟨⟨da, ds, dt, dr⟩, de⟩
  have HP := Lib.hid hP
  have HD := Lib.hid hD
  clear hP hD
  cases hv : validT a s t r
  · have HVV := Lib.hid hv
    clear hv
    by_cases hpe : pe = 0
    · subst hpe
      obtain ⟨hvp, hvt⟩ := text_parse HP.out
      have HTP := Lib.hid ((textR_ok hvp).trans (by rw [hvt]))
      clear hvp hvt
      by_cases hde : de = 0
      · subst hde
        obtain ⟨hvd, hed⟩ := enc_dec HD.out
        have HVD := Lib.hid hvd
        have HE := Lib.hid hed
        clear hvd hed
        go_enter Tryz.func4, Tryz.ntmps4
        go_wp2_with fail
        (go_at_call 13; (with_reducible refine (valid_any _ _ _ _ _).mono ?_); rintro e w1 ⟨rfl, hx1⟩)
        rw [HVV.out]
        go_wp2_with fail
        (go_at_call 11; (with_reducible refine (parse13_at HP.out hxs _ (HV.out.ext ((by repeat (first | exact Ext.refl _ | assumption | refine Ext.drew ?_ | refine Ext.alloc ?_ _ | refine Ext.setCell ?_ (by first | exact Nat.le_refl _ | (simp; done) | (simp; omega)) _ | refine Ext.trans ?_ (by assumption))))) (Ext.tab ((by repeat (first | exact Ext.refl _ | assumption | refine Ext.drew ?_ | refine Ext.alloc ?_ _ | refine Ext.setCell ?_ (by first | exact Nat.le_refl _ | (simp; done) | (simp; omega)) _ | refine Ext.trans ?_ (by assumption)))) pow10_g Htab.out)).mono ?_); rintro e w6 ⟨rfl, hx6⟩)
        have X6 : Ext w w6 := (by repeat (first | exact Ext.refl _ | assumption | refine Ext.drew ?_ | refine Ext.alloc ?_ _ | refine Ext.setCell ?_ (by first | exact Nat.le_refl _ | (simp; done) | (simp; omega)) _ | refine Ext.trans ?_ (by assumption)))
        clear hx1 hx6
        go_wp2_with fail
        (go_at_call 6; (with_reducible refine (text_at HTP.out _ (Ext.tab ((by repeat (first | exact Ext.refl _ | assumption | refine Ext.drew ?_ | refine Ext.alloc ?_ _ | refine Ext.setCell ?_ (by first | exact Nat.le_refl _ | (simp; done) | (simp; omega)) _ | refine Ext.trans ?_ (by assumption)))) pow10_g Htab.out)).mono ?_); rintro e w7 ⟨rfl, hx7⟩)
        have X7 : Ext w w7 := (by repeat (first | exact Ext.refl _ | assumption | refine Ext.drew ?_ | refine Ext.alloc ?_ _ | refine Ext.setCell ?_ (by first | exact Nat.le_refl _ | (simp; done) | (simp; omega)) _ | refine Ext.trans ?_ (by assumption)))
        clear X6 hx7
        go_wp2_with fail
        (go_at_call 14; (with_reducible refine (dec_at HD.out A L c _ (HB.out.ext ((by repeat (first | exact Ext.refl _ | assumption | refine Ext.drew ?_ | refine Ext.alloc ?_ _ | refine Ext.setCell ?_ (by first | exact Nat.le_refl _ | (simp; done) | (simp; omega)) _ | refine Ext.trans ?_ (by assumption))))) HL.out hb).mono ?_); rintro e w8 ⟨rfl, hx8⟩)
        have X8 : Ext w w8 := (by repeat (first | exact Ext.refl _ | assumption | refine Ext.drew ?_ | refine Ext.alloc ?_ _ | refine Ext.setCell ?_ (by first | exact Nat.le_refl _ | (simp; done) | (simp; omega)) _ | refine Ext.trans ?_ (by assumption)))
        clear X7 hx8
        go_wp2_with fail
        (go_at_call 7; (with_reducible refine (enc_at HVD.out HE.out HL.out _).mono ?_); rintro e w9 ⟨Ay, cy, rfl, hby, hcy, hx9⟩)
        have X9 : Ext w w9 := (by repeat (first | exact Ext.refl _ | assumption | refine Ext.drew ?_ | refine Ext.alloc ?_ _ | refine Ext.setCell ?_ (by first | exact Nat.le_refl _ | (simp; done) | (simp; omega)) _ | refine Ext.trans ?_ (by assumption)))
        clear X8 hx9
        have hva := conv_bs L cy hby HL.out
        have hvb := conv_bs L c (HB.out.ext X9) HL.out
        clear hby
        go_wp2_with (go_at_call 5; refine (known_any _ (Ext.tab ((by repeat (first | exact Ext.refl _ | assumption | refine Ext.drew ?_ | refine Ext.alloc ?_ _ | refine Ext.setCell ?_ (by first | exact Nat.le_refl _ | (simp; done) | (simp; omega)) _ | refine Ext.trans ?_ (by assumption)))) pow10_g Htab.out)).mono ?_; rintro e wz ⟨rfl, hxz⟩)
        go_ret
        exact ⟨rfl, (by repeat (first | exact Ext.refl _ | assumption | refine Ext.drew ?_ | refine Ext.alloc ?_ _ | refine Ext.setCell ?_ (by first | exact Nat.le_refl _ | (simp; done) | (simp; omega)) _ | refine Ext.trans ?_ (by assumption)))⟩
      · have dd : ((de : Int) == 0) = false := by simpa using hde
        clear hde
        go_enter Tryz.func4, Tryz.ntmps4
        go_wp2_with fail
        (go_at_call 13; (with_reducible refine (valid_any _ _ _ _ _).mono ?_); rintro e w1 ⟨rfl, hx1⟩)
        rw [HVV.out]
        go_wp2_with fail
        (go_at_call 11; (with_reducible refine (parse13_at HP.out hxs _ (HV.out.ext ((by repeat (first | exact Ext.refl _ | assumption | refine Ext.drew ?_ | refine Ext.alloc ?_ _ | refine Ext.setCell ?_ (by first | exact Nat.le_refl _ | (simp; done) | (simp; omega)) _ | refine Ext.trans ?_ (by assumption))))) (Ext.tab ((by repeat (first | exact Ext.refl _ | assumption | refine Ext.drew ?_ | refine Ext.alloc ?_ _ | refine Ext.setCell ?_ (by first | exact Nat.le_refl _ | (simp; done) | (simp; omega)) _ | refine Ext.trans ?_ (by assumption)))) pow10_g Htab.out)).mono ?_); rintro e w6 ⟨rfl, hx6⟩)
        have X6 : Ext w w6 := (by repeat (first | exact Ext.refl _ | assumption | refine Ext.drew ?_ | refine Ext.alloc ?_ _ | refine Ext.setCell ?_ (by first | exact Nat.le_refl _ | (simp; done) | (simp; omega)) _ | refine Ext.trans ?_ (by assumption)))
        clear hx1 hx6
        go_wp2_with fail
        (go_at_call 6; (with_reducible refine (text_at HTP.out _ (Ext.tab ((by repeat (first | exact Ext.refl _ | assumption | refine Ext.drew ?_ | refine Ext.alloc ?_ _ | refine Ext.setCell ?_ (by first | exact Nat.le_refl _ | (simp; done) | (simp; omega)) _ | refine Ext.trans ?_ (by assumption)))) pow10_g Htab.out)).mono ?_); rintro e w7 ⟨rfl, hx7⟩)
        have X7 : Ext w w7 := (by repeat (first | exact Ext.refl _ | assumption | refine Ext.drew ?_ | refine Ext.alloc ?_ _ | refine Ext.setCell ?_ (by first | exact Nat.le_refl _ | (simp; done) | (simp; omega)) _ | refine Ext.trans ?_ (by assumption)))
        clear X6 hx7
        go_wp2_with fail
        (go_at_call 14; (with_reducible refine (dec_at HD.out A L c _ (HB.out.ext ((by repeat (first | exact Ext.refl _ | assumption | refine Ext.drew ?_ | refine Ext.alloc ?_ _ | refine Ext.setCell ?_ (by first | exact Nat.le_refl _ | (simp; done) | (simp; omega)) _ | refine Ext.trans ?_ (by assumption))))) HL.out hb).mono ?_); rintro e w8 ⟨rfl, hx8⟩)
        have X8 : Ext w w8 := (by repeat (first | exact Ext.refl _ | assumption | refine Ext.drew ?_ | refine Ext.alloc ?_ _ | refine Ext.setCell ?_ (by first | exact Nat.le_refl _ | (simp; done) | (simp; omega)) _ | refine Ext.trans ?_ (by assumption)))
        clear X7 hx8
        go_wp2_with (go_at_call 5; refine (known_any _ (Ext.tab ((by repeat (first | exact Ext.refl _ | assumption | refine Ext.drew ?_ | refine Ext.alloc ?_ _ | refine Ext.setCell ?_ (by first | exact Nat.le_refl _ | (simp; done) | (simp; omega)) _ | refine Ext.trans ?_ (by assumption)))) pow10_g Htab.out)).mono ?_; rintro e wz ⟨rfl, hxz⟩)
        go_ret
        exact ⟨rfl, (by repeat (first | exact Ext.refl _ | assumption | refine Ext.drew ?_ | refine Ext.alloc ?_ _ | refine Ext.setCell ?_ (by first | exact Nat.le_refl _ | (simp; done) | (simp; omega)) _ | refine Ext.trans ?_ (by assumption)))⟩
    · have dp : ((pe : Int) == 0) = false := by simpa using hpe
      clear hpe
      by_cases hde : de = 0
      · subst hde
        obtain ⟨hvd, hed⟩ := enc_dec HD.out
        have HVD := Lib.hid hvd
        have HE := Lib.hid hed
        clear hvd hed
        go_enter Tryz.func4, Tryz.ntmps4
        go_wp2_with fail
        (go_at_call 13; (with_reducible refine (valid_any _ _ _ _ _).mono ?_); rintro e w1 ⟨rfl, hx1⟩)
        rw [HVV.out]
        go_wp2_with fail
        (go_at_call 11; (with_reducible refine (parse13_at HP.out hxs _ (HV.out.ext ((by repeat (first | exact Ext.refl _ | assumption | refine Ext.drew ?_ | refine Ext.alloc ?_ _ | refine Ext.setCell ?_ (by first | exact Nat.le_refl _ | (simp; done) | (simp; omega)) _ | refine Ext.trans ?_ (by assumption))))) (Ext.tab ((by repeat (first | exact Ext.refl _ | assumption | refine Ext.drew ?_ | refine Ext.alloc ?_ _ | refine Ext.setCell ?_ (by first | exact Nat.le_refl _ | (simp; done) | (simp; omega)) _ | refine Ext.trans ?_ (by assumption)))) pow10_g Htab.out)).mono ?_); rintro e w6 ⟨rfl, hx6⟩)
        have X6 : Ext w w6 := (by repeat (first | exact Ext.refl _ | assumption | refine Ext.drew ?_ | refine Ext.alloc ?_ _ | refine Ext.setCell ?_ (by first | exact Nat.le_refl _ | (simp; done) | (simp; omega)) _ | refine Ext.trans ?_ (by assumption)))
        clear hx1 hx6
        go_wp2_with fail
        (go_at_call 14; (with_reducible refine (dec_at HD.out A L c _ (HB.out.ext ((by repeat (first | exact Ext.refl _ | assumption | refine Ext.drew ?_ | refine Ext.alloc ?_ _ | refine Ext.setCell ?_ (by first | exact Nat.le_refl _ | (simp; done) | (simp; omega)) _ | refine Ext.trans ?_ (by assumption))))) HL.out hb).mono ?_); rintro e w8 ⟨rfl, hx8⟩)
        have X8 : Ext w w8 := (by repeat (first | exact Ext.refl _ | assumption | refine Ext.drew ?_ | refine Ext.alloc ?_ _ | refine Ext.setCell ?_ (by first | exact Nat.le_refl _ | (simp; done) | (simp; omega)) _ | refine Ext.trans ?_ (by assumption)))
        clear X6 hx8
        go_wp2_with fail
        (go_at_call 7; (with_reducible refine (enc_at HVD.out HE.out HL.out _).mono ?_); rintro e w9 ⟨Ay, cy, rfl, hby, hcy, hx9⟩)
        have X9 : Ext w w9 := (by repeat (first | exact Ext.refl _ | assumption | refine Ext.drew ?_ | refine Ext.alloc ?_ _ | refine Ext.setCell ?_ (by first | exact Nat.le_refl _ | (simp; done) | (simp; omega)) _ | refine Ext.trans ?_ (by assumption)))
        clear X8 hx9
        have hva := conv_bs L cy hby HL.out
        have hvb := conv_bs L c (HB.out.ext X9) HL.out
        clear hby
        go_wp2_with (go_at_call 5; refine (known_any _ (Ext.tab ((by repeat (first | exact Ext.refl _ | assumption | refine Ext.drew ?_ | refine Ext.alloc ?_ _ | refine Ext.setCell ?_ (by first | exact Nat.le_refl _ | (simp; done) | (simp; omega)) _ | refine Ext.trans ?_ (by assumption)))) pow10_g Htab.out)).mono ?_; rintro e wz ⟨rfl, hxz⟩)
        go_ret
        exact ⟨rfl, (by repeat (first | exact Ext.refl _ | assumption | refine Ext.drew ?_ | refine Ext.alloc ?_ _ | refine Ext.setCell ?_ (by first | exact Nat.le_refl _ | (simp; done) | (simp; omega)) _ | refine Ext.trans ?_ (by assumption)))⟩
      · have dd : ((de : Int) == 0) = false := by simpa using hde
        clear hde
        go_enter Tryz.func4, Tryz.ntmps4
        go_wp2_with fail
        (go_at_call 13; (with_reducible refine (valid_any _ _ _ _ _).mono ?_); rintro e w1 ⟨rfl, hx1⟩)
        rw [HVV.out]
        go_wp2_with fail
        (go_at_call 11; (with_reducible refine (parse13_at HP.out hxs _ (HV.out.ext ((by repeat (first | exact Ext.refl _ | assumption | refine Ext.drew ?_ | refine Ext.alloc ?_ _ | refine Ext.setCell ?_ (by first | exact Nat.le_refl _ | (simp; done) | (simp; omega)) _ | refine Ext.trans ?_ (by assumption))))) (Ext.tab ((by repeat (first | exact Ext.refl _ | assumption | refine Ext.drew ?_ | refine Ext.alloc ?_ _ | refine Ext.setCell ?_ (by first | exact Nat.le_refl _ | (simp; done) | (simp; omega)) _ | refine Ext.trans ?_ (by assumption)))) pow10_g Htab.out)).mono ?_); rintro e w6 ⟨rfl, hx6⟩)
        have X6 : Ext w w6 := (by repeat (first | exact Ext.refl _ | assumption | refine Ext.drew ?_ | refine Ext.alloc ?_ _ | refine Ext.setCell ?_ (by first | exact Nat.le_refl _ | (simp; done) | (simp; omega)) _ | refine Ext.trans ?_ (by assumption)))
        clear hx1 hx6
        go_wp2_with fail
        (go_at_call 14; (with_reducible refine (dec_at HD.out A L c _ (HB.out.ext ((by repeat (first | exact Ext.refl _ | assumption | refine Ext.drew ?_ | refine Ext.alloc ?_ _ | refine Ext.setCell ?_ (by first | exact Nat.le_refl _ | (simp; done) | (simp; omega)) _ | refine Ext.trans ?_ (by assumption))))) HL.out hb).mono ?_); rintro e w8 ⟨rfl, hx8⟩)
        have X8 : Ext w w8 := (by repeat (first | exact Ext.refl _ | assumption | refine Ext.drew ?_ | refine Ext.alloc ?_ _ | refine Ext.setCell ?_ (by first | exact Nat.le_refl _ | (simp; done) | (simp; omega)) _ | refine Ext.trans ?_ (by assumption)))
        clear X6 hx8
        go_wp2_with (go_at_call 5; refine (known_any _ (Ext.tab ((by repeat (first | exact Ext.refl _ | assumption | refine Ext.drew ?_ | refine Ext.alloc ?_ _ | refine Ext.setCell ?_ (by first | exact Nat.le_refl _ | (simp; done) | (simp; omega)) _ | refine Ext.trans ?_ (by assumption)))) pow10_g Htab.out)).mono ?_; rintro e wz ⟨rfl, hxz⟩)
        go_ret
        exact ⟨rfl, (by repeat (first | exact Ext.refl _ | assumption | refine Ext.drew ?_ | refine Ext.alloc ?_ _ | refine Ext.setCell ?_ (by first | exact Nat.le_refl _ | (simp; done) | (simp; omega)) _ | refine Ext.trans ?_ (by assumption)))⟩
  · obtain ⟨⟨ha, _⟩, ⟨hs, _⟩, ⟨ht, _⟩, ⟨hr, _⟩, _⟩ := validT_true hv
    obtain ⟨na, rfl⟩ := Int.eq_ofNat_of_zero_le ha
    obtain ⟨ns, rfl⟩ := Int.eq_ofNat_of_zero_le hs
    obtain ⟨nt, rfl⟩ := Int.eq_ofNat_of_zero_le ht
    obtain ⟨nr, rfl⟩ := Int.eq_ofNat_of_zero_le hr
    have HVV := Lib.hid hv
    have HT := Lib.hid (textR_ok hv)
    have HPT := Lib.hid (parse_text hv)
    have HTS := Lib.hid (textT_size hv)
    have HDE := Lib.hid (dec_enc hv)
    have HEL := Lib.hid (encB_small na ns nt nr)
    clear hv ha hs ht hr
    by_cases hpe : pe = 0
    · subst hpe
      obtain ⟨hvp, hvt⟩ := text_parse HP.out
      have HTP := Lib.hid ((textR_ok hvp).trans (by rw [hvt]))
      clear hvp hvt
      by_cases hde : de = 0
      · subst hde
        obtain ⟨hvd, hed⟩ := enc_dec HD.out
        have HVD := Lib.hid hvd
        have HE := Lib.hid hed
        clear hvd hed
        go_enter Tryz.func4, Tryz.ntmps4
        go_wp2_with fail
        (go_at_call 13; (with_reducible refine (valid_any _ _ _ _ _).mono ?_); rintro e w1 ⟨rfl, hx1⟩)
        rw [HVV.out]
        obtain ⟨k0, k1, k2, k3, _, _, _, _⟩ := four_cells (hx1.heap HH.out)
        go_wp2_with fail
        (go_at_call 6; (with_reducible refine (text_at HT.out _ (Ext.tab ((by repeat (first | exact Ext.refl _ | assumption | refine Ext.drew ?_ | refine Ext.alloc ?_ _ | refine Ext.setCell ?_ (by first | exact Nat.le_refl _ | (simp; done) | (simp; omega)) _ | refine Ext.trans ?_ (by assumption)))) pow10_g Htab.out)).mono ?_); rintro e w2 ⟨rfl, hx2⟩)
        have Y2 := hx1.trans hx2
        clear k0 k1 k2 k3 hx1 hx2
        go_wp2_with fail
        (go_at_call 11; (with_reducible refine (parse13_at HPT.out HTS.out _ (HV.out.ext ((by repeat (first | exact Ext.refl _ | assumption | refine Ext.drew ?_ | refine Ext.alloc ?_ _ | refine Ext.setCell ?_ (by first | exact Nat.le_refl _ | (simp; done) | (simp; omega)) _ | refine Ext.trans ?_ (by assumption))))) (Ext.tab ((by repeat (first | exact Ext.refl _ | assumption | refine Ext.drew ?_ | refine Ext.alloc ?_ _ | refine Ext.setCell ?_ (by first | exact Nat.le_refl _ | (simp; done) | (simp; omega)) _ | refine Ext.trans ?_ (by assumption)))) pow10_g Htab.out)).mono ?_); rintro e w3 ⟨rfl, hx3⟩)
        have Y3 := Y2.trans hx3
        have HC := Lib.hid (heap_new w3 (.cells #[.int .i64 (na : Int), .int .i64 (ns : Int), .int .i64 (nt : Int), .int .i64 (nr : Int)] 23))
        have hlt3 : w.heap.size < w3.heap.size := by have := Y3.sz; simp at this; omega
        obtain ⟨k0, k1, k2, k3, _, _, _, _⟩ := four_cells (Y3.heap HH.out)
        clear Y2 hx3
        go_wp2_with fail
        (go_at_call 7; (with_reducible refine (enc_at HVV.out rfl rfl _).mono ?_); rintro e w4 ⟨Ax, cx, rfl, hbx, hcx, hx4⟩)
        have Y4 := (Y3.alloc _).trans hx4
        clear k0 k1 k2 k3 Y3
        go_wp2_with fail
        (go_at_call 14; (with_reducible refine (dec_at HDE.out _ _ _ _ hbx rfl HEL.out).mono ?_); rintro e w5 ⟨rfl, hx5⟩)
        have Y5 := Y4.trans hx5
        obtain ⟨j0, j1, j2, j3, _, _, _, _⟩ := four_cells ((hx4.trans hx5).heap HC.out)
        obtain ⟨k0, k1, k2, k3, _, _, _, _⟩ := four_cells (Y5.heap HH.out)
        have hlt5 : w3.heap.size < w5.heap.size := by have := (hx4.trans hx5).sz; simp at this; omega
        have hlt6 : w.heap.size < w5.heap.size := by omega
        have X5 : Ext w w5 := (by repeat (first | exact Ext.refl _ | assumption | refine Ext.drew ?_ | refine Ext.alloc ?_ _ | refine Ext.setCell ?_ (by first | exact Nat.le_refl _ | (simp; done) | (simp; omega)) _ | refine Ext.trans ?_ (by assumption)))
        clear hbx hcx hx4 hx5 Y4 Y5 hlt3
        go_wp2_with fail
        (go_at_call 11; (with_reducible refine (parse13_at HP.out hxs _ (HV.out.ext ((by repeat (first | exact Ext.refl _ | assumption | refine Ext.drew ?_ | refine Ext.alloc ?_ _ | refine Ext.setCell ?_ (by first | exact Nat.le_refl _ | (simp; done) | (simp; omega)) _ | refine Ext.trans ?_ (by assumption))))) (Ext.tab ((by repeat (first | exact Ext.refl _ | assumption | refine Ext.drew ?_ | refine Ext.alloc ?_ _ | refine Ext.setCell ?_ (by first | exact Nat.le_refl _ | (simp; done) | (simp; omega)) _ | refine Ext.trans ?_ (by assumption)))) pow10_g Htab.out)).mono ?_); rintro e w6 ⟨rfl, hx6⟩)
        have X6 : Ext w w6 := (by repeat (first | exact Ext.refl _ | assumption | refine Ext.drew ?_ | refine Ext.alloc ?_ _ | refine Ext.setCell ?_ (by first | exact Nat.le_refl _ | (simp; done) | (simp; omega)) _ | refine Ext.trans ?_ (by assumption)))
        clear X5 hx6 k0 k1 k2 k3 j0 j1 j2 j3 hlt5 hlt6
        go_wp2_with fail
        (go_at_call 6; (with_reducible refine (text_at HTP.out _ (Ext.tab ((by repeat (first | exact Ext.refl _ | assumption | refine Ext.drew ?_ | refine Ext.alloc ?_ _ | refine Ext.setCell ?_ (by first | exact Nat.le_refl _ | (simp; done) | (simp; omega)) _ | refine Ext.trans ?_ (by assumption)))) pow10_g Htab.out)).mono ?_); rintro e w7 ⟨rfl, hx7⟩)
        have X7 : Ext w w7 := (by repeat (first | exact Ext.refl _ | assumption | refine Ext.drew ?_ | refine Ext.alloc ?_ _ | refine Ext.setCell ?_ (by first | exact Nat.le_refl _ | (simp; done) | (simp; omega)) _ | refine Ext.trans ?_ (by assumption)))
        clear X6 hx7
        go_wp2_with fail
        (go_at_call 14; (with_reducible refine (dec_at HD.out A L c _ (HB.out.ext ((by repeat (first | exact Ext.refl _ | assumption | refine Ext.drew ?_ | refine Ext.alloc ?_ _ | refine Ext.setCell ?_ (by first | exact Nat.le_refl _ | (simp; done) | (simp; omega)) _ | refine Ext.trans ?_ (by assumption))))) HL.out hb).mono ?_); rintro e w8 ⟨rfl, hx8⟩)
        have X8 : Ext w w8 := (by repeat (first | exact Ext.refl _ | assumption | refine Ext.drew ?_ | refine Ext.alloc ?_ _ | refine Ext.setCell ?_ (by first | exact Nat.le_refl _ | (simp; done) | (simp; omega)) _ | refine Ext.trans ?_ (by assumption)))
        clear X7 hx8
        go_wp2_with fail
        (go_at_call 7; (with_reducible refine (enc_at HVD.out HE.out HL.out _).mono ?_); rintro e w9 ⟨Ay, cy, rfl, hby, hcy, hx9⟩)
        have X9 : Ext w w9 := (by repeat (first | exact Ext.refl _ | assumption | refine Ext.drew ?_ | refine Ext.alloc ?_ _ | refine Ext.setCell ?_ (by first | exact Nat.le_refl _ | (simp; done) | (simp; omega)) _ | refine Ext.trans ?_ (by assumption)))
        clear X8 hx9
        have hva := conv_bs L cy hby HL.out
        have hvb := conv_bs L c (HB.out.ext X9) HL.out
        clear hby
        go_wp2_with (go_at_call 5; refine (known_any _ (Ext.tab ((by repeat (first | exact Ext.refl _ | assumption | refine Ext.drew ?_ | refine Ext.alloc ?_ _ | refine Ext.setCell ?_ (by first | exact Nat.le_refl _ | (simp; done) | (simp; omega)) _ | refine Ext.trans ?_ (by assumption)))) pow10_g Htab.out)).mono ?_; rintro e wz ⟨rfl, hxz⟩)
        go_ret
        exact ⟨rfl, (by repeat (first | exact Ext.refl _ | assumption | refine Ext.drew ?_ | refine Ext.alloc ?_ _ | refine Ext.setCell ?_ (by first | exact Nat.le_refl _ | (simp; done) | (simp; omega)) _ | refine Ext.trans ?_ (by assumption)))⟩
      · have dd : ((de : Int) == 0) = false := by simpa using hde
        clear hde
        go_enter Tryz.func4, Tryz.ntmps4
        go_wp2_with fail
        (go_at_call 13; (with_reducible refine (valid_any _ _ _ _ _).mono ?_); rintro e w1 ⟨rfl, hx1⟩)
        rw [HVV.out]
        obtain ⟨k0, k1, k2, k3, _, _, _, _⟩ := four_cells (hx1.heap HH.out)
        go_wp2_with fail
        (go_at_call 6; (with_reducible refine (text_at HT.out _ (Ext.tab ((by repeat (first | exact Ext.refl _ | assumption | refine Ext.drew ?_ | refine Ext.alloc ?_ _ | refine Ext.setCell ?_ (by first | exact Nat.le_refl _ | (simp; done) | (simp; omega)) _ | refine Ext.trans ?_ (by assumption)))) pow10_g Htab.out)).mono ?_); rintro e w2 ⟨rfl, hx2⟩)
        have Y2 := hx1.trans hx2
        clear k0 k1 k2 k3 hx1 hx2
        go_wp2_with fail
        (go_at_call 11; (with_reducible refine (parse13_at HPT.out HTS.out _ (HV.out.ext ((by repeat (first | exact Ext.refl _ | assumption | refine Ext.drew ?_ | refine Ext.alloc ?_ _ | refine Ext.setCell ?_ (by first | exact Nat.le_refl _ | (simp; done) | (simp; omega)) _ | refine Ext.trans ?_ (by assumption))))) (Ext.tab ((by repeat (first | exact Ext.refl _ | assumption | refine Ext.drew ?_ | refine Ext.alloc ?_ _ | refine Ext.setCell ?_ (by first | exact Nat.le_refl _ | (simp; done) | (simp; omega)) _ | refine Ext.trans ?_ (by assumption)))) pow10_g Htab.out)).mono ?_); rintro e w3 ⟨rfl, hx3⟩)
        have Y3 := Y2.trans hx3
        have HC := Lib.hid (heap_new w3 (.cells #[.int .i64 (na : Int), .int .i64 (ns : Int), .int .i64 (nt : Int), .int .i64 (nr : Int)] 23))
        have hlt3 : w.heap.size < w3.heap.size := by have := Y3.sz; simp at this; omega
        obtain ⟨k0, k1, k2, k3, _, _, _, _⟩ := four_cells (Y3.heap HH.out)
        clear Y2 hx3
        go_wp2_with fail
        (go_at_call 7; (with_reducible refine (enc_at HVV.out rfl rfl _).mono ?_); rintro e w4 ⟨Ax, cx, rfl, hbx, hcx, hx4⟩)
        have Y4 := (Y3.alloc _).trans hx4
        clear k0 k1 k2 k3 Y3
        go_wp2_with fail
        (go_at_call 14; (with_reducible refine (dec_at HDE.out _ _ _ _ hbx rfl HEL.out).mono ?_); rintro e w5 ⟨rfl, hx5⟩)
        have Y5 := Y4.trans hx5
        obtain ⟨j0, j1, j2, j3, _, _, _, _⟩ := four_cells ((hx4.trans hx5).heap HC.out)
        obtain ⟨k0, k1, k2, k3, _, _, _, _⟩ := four_cells (Y5.heap HH.out)
        have hlt5 : w3.heap.size < w5.heap.size := by have := (hx4.trans hx5).sz; simp at this; omega
        have hlt6 : w.heap.size < w5.heap.size := by omega
        have X5 : Ext w w5 := (by repeat (first | exact Ext.refl _ | assumption | refine Ext.drew ?_ | refine Ext.alloc ?_ _ | refine Ext.setCell ?_ (by first | exact Nat.le_refl _ | (simp; done) | (simp; omega)) _ | refine Ext.trans ?_ (by assumption)))
        clear hbx hcx hx4 hx5 Y4 Y5 hlt3
        go_wp2_with fail
        (go_at_call 11; (with_reducible refine (parse13_at HP.out hxs _ (HV.out.ext ((by repeat (first | exact Ext.refl _ | assumption | refine Ext.drew ?_ | refine Ext.alloc ?_ _ | refine Ext.setCell ?_ (by first | exact Nat.le_refl _ | (simp; done) | (simp; omega)) _ | refine Ext.trans ?_ (by assumption))))) (Ext.tab ((by repeat (first | exact Ext.refl _ | assumption | refine Ext.drew ?_ | refine Ext.alloc ?_ _ | refine Ext.setCell ?_ (by first | exact Nat.le_refl _ | (simp; done) | (simp; omega)) _ | refine Ext.trans ?_ (by assumption)))) pow10_g Htab.out)).mono ?_); rintro e w6 ⟨rfl, hx6⟩)
        have X6 : Ext w w6 := (by repeat (first | exact Ext.refl _ | assumption | refine Ext.drew ?_ | refine Ext.alloc ?_ _ | refine Ext.setCell ?_ (by first | exact Nat.le_refl _ | (simp; done) | (simp; omega)) _ | refine Ext.trans ?_ (by assumption)))
        clear X5 hx6 k0 k1 k2 k3 j0 j1 j2 j3 hlt5 hlt6
        go_wp2_with fail
        (go_at_call 6; (with_reducible refine (text_at HTP.out _ (Ext.tab ((by repeat (first | exact Ext.refl _ | assumption | refine Ext.drew ?_ | refine Ext.alloc ?_ _ | refine Ext.setCell ?_ (by first | exact Nat.le_refl _ | (simp; done) | (simp; omega)) _ | refine Ext.trans ?_ (by assumption)))) pow10_g Htab.out)).mono ?_); rintro e w7 ⟨rfl, hx7⟩)
        have X7 : Ext w w7 := (by repeat (first | exact Ext.refl _ | assumption | refine Ext.drew ?_ | refine Ext.alloc ?_ _ | refine Ext.setCell ?_ (by first | exact Nat.le_refl _ | (simp; done) | (simp; omega)) _ | refine Ext.trans ?_ (by assumption)))
        clear X6 hx7
        go_wp2_with fail
        (go_at_call 14; (with_reducible refine (dec_at HD.out A L c _ (HB.out.ext ((by repeat (first | exact Ext.refl _ | assumption | refine Ext.drew ?_ | refine Ext.alloc ?_ _ | refine Ext.setCell ?_ (by first | exact Nat.le_refl _ | (simp; done) | (simp; omega)) _ | refine Ext.trans ?_ (by assumption))))) HL.out hb).mono ?_); rintro e w8 ⟨rfl, hx8⟩)
        have X8 : Ext w w8 := (by repeat (first | exact Ext.refl _ | assumption | refine Ext.drew ?_ | refine Ext.alloc ?_ _ | refine Ext.setCell ?_ (by first | exact Nat.le_refl _ | (simp; done) | (simp; omega)) _ | refine Ext.trans ?_ (by assumption)))
        clear X7 hx8
        go_wp2_with (go_at_call 5; refine (known_any _ (Ext.tab ((by repeat (first | exact Ext.refl _ | assumption | refine Ext.drew ?_ | refine Ext.alloc ?_ _ | refine Ext.setCell ?_ (by first | exact Nat.le_refl _ | (simp; done) | (simp; omega)) _ | refine Ext.trans ?_ (by assumption)))) pow10_g Htab.out)).mono ?_; rintro e wz ⟨rfl, hxz⟩)
        go_ret
        exact ⟨rfl, (by repeat (first | exact Ext.refl _ | assumption | refine Ext.drew ?_ | refine Ext.alloc ?_ _ | refine Ext.setCell ?_ (by first | exact Nat.le_refl _ | (simp; done) | (simp; omega)) _ | refine Ext.trans ?_ (by assumption)))⟩
    · have dp : ((pe : Int) == 0) = false := by simpa using hpe
      clear hpe
      by_cases hde : de = 0
      · subst hde
        obtain ⟨hvd, hed⟩ := enc_dec HD.out
        have HVD := Lib.hid hvd
        have HE := Lib.hid hed
        clear hvd hed
        go_enter Tryz.func4, Tryz.ntmps4
        go_wp2_with fail
        (go_at_call 13; (with_reducible refine (valid_any _ _ _ _ _).mono ?_); rintro e w1 ⟨rfl, hx1⟩)
        rw [HVV.out]
        obtain ⟨k0, k1, k2, k3, _, _, _, _⟩ := four_cells (hx1.heap HH.out)
        go_wp2_with fail
        (go_at_call 6; (with_reducible refine (text_at HT.out _ (Ext.tab ((by repeat (first | exact Ext.refl _ | assumption | refine Ext.drew ?_ | refine Ext.alloc ?_ _ | refine Ext.setCell ?_ (by first | exact Nat.le_refl _ | (simp; done) | (simp; omega)) _ | refine Ext.trans ?_ (by assumption)))) pow10_g Htab.out)).mono ?_); rintro e w2 ⟨rfl, hx2⟩)
        have Y2 := hx1.trans hx2
        clear k0 k1 k2 k3 hx1 hx2
        go_wp2_with fail
        (go_at_call 11; (with_reducible refine (parse13_at HPT.out HTS.out _ (HV.out.ext ((by repeat (first | exact Ext.refl _ | assumption | refine Ext.drew ?_ | refine Ext.alloc ?_ _ | refine Ext.setCell ?_ (by first | exact Nat.le_refl _ | (simp; done) | (simp; omega)) _ | refine Ext.trans ?_ (by assumption))))) (Ext.tab ((by repeat (first | exact Ext.refl _ | assumption | refine Ext.drew ?_ | refine Ext.alloc ?_ _ | refine Ext.setCell ?_ (by first | exact Nat.le_refl _ | (simp; done) | (simp; omega)) _ | refine Ext.trans ?_ (by assumption)))) pow10_g Htab.out)).mono ?_); rintro e w3 ⟨rfl, hx3⟩)
        have Y3 := Y2.trans hx3
        have HC := Lib.hid (heap_new w3 (.cells #[.int .i64 (na : Int), .int .i64 (ns : Int), .int .i64 (nt : Int), .int .i64 (nr : Int)] 23))
        have hlt3 : w.heap.size < w3.heap.size := by have := Y3.sz; simp at this; omega
        obtain ⟨k0, k1, k2, k3, _, _, _, _⟩ := four_cells (Y3.heap HH.out)
        clear Y2 hx3
        go_wp2_with fail
        (go_at_call 7; (with_reducible refine (enc_at HVV.out rfl rfl _).mono ?_); rintro e w4 ⟨Ax, cx, rfl, hbx, hcx, hx4⟩)
        have Y4 := (Y3.alloc _).trans hx4
        clear k0 k1 k2 k3 Y3
        go_wp2_with fail
        (go_at_call 14; (with_reducible refine (dec_at HDE.out _ _ _ _ hbx rfl HEL.out).mono ?_); rintro e w5 ⟨rfl, hx5⟩)
        have Y5 := Y4.trans hx5
        obtain ⟨j0, j1, j2, j3, _, _, _, _⟩ := four_cells ((hx4.trans hx5).heap HC.out)
        obtain ⟨k0, k1, k2, k3, _, _, _, _⟩ := four_cells (Y5.heap HH.out)
        have hlt5 : w3.heap.size < w5.heap.size := by have := (hx4.trans hx5).sz; simp at this; omega
        have hlt6 : w.heap.size < w5.heap.size := by omega
        have X5 : Ext w w5 := (by repeat (first | exact Ext.refl _ | assumption | refine Ext.drew ?_ | refine Ext.alloc ?_ _ | refine Ext.setCell ?_ (by first | exact Nat.le_refl _ | (simp; done) | (simp; omega)) _ | refine Ext.trans ?_ (by assumption)))
        clear hbx hcx hx4 hx5 Y4 Y5 hlt3
        go_wp2_with fail
        (go_at_call 11; (with_reducible refine (parse13_at HP.out hxs _ (HV.out.ext ((by repeat (first | exact Ext.refl _ | assumption | refine Ext.drew ?_ | refine Ext.alloc ?_ _ | refine Ext.setCell ?_ (by first | exact Nat.le_refl _ | (simp; done) | (simp; omega)) _ | refine Ext.trans ?_ (by assumption))))) (Ext.tab ((by repeat (first | exact Ext.refl _ | assumption | refine Ext.drew ?_ | refine Ext.alloc ?_ _ | refine Ext.setCell ?_ (by first | exact Nat.le_refl _ | (simp; done) | (simp; omega)) _ | refine Ext.trans ?_ (by assumption)))) pow10_g Htab.out)).mono ?_); rintro e w6 ⟨rfl, hx6⟩)
        have X6 : Ext w w6 := (by repeat (first | exact Ext.refl _ | assumption | refine Ext.drew ?_ | refine Ext.alloc ?_ _ | refine Ext.setCell ?_ (by first | exact Nat.le_refl _ | (simp; done) | (simp; omega)) _ | refine Ext.trans ?_ (by assumption)))
        clear X5 hx6 k0 k1 k2 k3 j0 j1 j2 j3 hlt5 hlt6
        go_wp2_with fail
        (go_at_call 14; (with_reducible refine (dec_at HD.out A L c _ (HB.out.ext ((by repeat (first | exact Ext.refl _ | assumption | refine Ext.drew ?_ | refine Ext.alloc ?_ _ | refine Ext.setCell ?_ (by first | exact Nat.le_refl _ | (simp; done) | (simp; omega)) _ | refine Ext.trans ?_ (by assumption))))) HL.out hb).mono ?_); rintro e w8 ⟨rfl, hx8⟩)
        have X8 : Ext w w8 := (by repeat (first | exact Ext.refl _ | assumption | refine Ext.drew ?_ | refine Ext.alloc ?_ _ | refine Ext.setCell ?_ (by first | exact Nat.le_refl _ | (simp; done) | (simp; omega)) _ | refine Ext.trans ?_ (by assumption)))
        clear X6 hx8
        go_wp2_with fail
        (go_at_call 7; (with_reducible refine (enc_at HVD.out HE.out HL.out _).mono ?_); rintro e w9 ⟨Ay, cy, rfl, hby, hcy, hx9⟩)
        have X9 : Ext w w9 := (by repeat (first | exact Ext.refl _ | assumption | refine Ext.drew ?_ | refine Ext.alloc ?_ _ | refine Ext.setCell ?_ (by first | exact Nat.le_refl _ | (simp; done) | (simp; omega)) _ | refine Ext.trans ?_ (by assumption)))
        clear X8 hx9
        have hva := conv_bs L cy hby HL.out
        have hvb := conv_bs L c (HB.out.ext X9) HL.out
        clear hby
        go_wp2_with (go_at_call 5; refine (known_any _ (Ext.tab ((by repeat (first | exact Ext.refl _ | assumption | refine Ext.drew ?_ | refine Ext.alloc ?_ _ | refine Ext.setCell ?_ (by first | exact Nat.le_refl _ | (simp; done) | (simp; omega)) _ | refine Ext.trans ?_ (by assumption)))) pow10_g Htab.out)).mono ?_; rintro e wz ⟨rfl, hxz⟩)
        go_ret
        exact ⟨rfl, (by repeat (first | exact Ext.refl _ | assumption | refine Ext.drew ?_ | refine Ext.alloc ?_ _ | refine Ext.setCell ?_ (by first | exact Nat.le_refl _ | (simp; done) | (simp; omega)) _ | refine Ext.trans ?_ (by assumption)))⟩
      · have dd : ((de : Int) == 0) = false := by simpa using hde
        clear hde
        go_enter Tryz.func4, Tryz.ntmps4
        go_wp2_with fail
        (go_at_call 13; (with_reducible refine (valid_any _ _ _ _ _).mono ?_); rintro e w1 ⟨rfl, hx1⟩)
        rw [HVV.out]
        obtain ⟨k0, k1, k2, k3, _, _, _, _⟩ := four_cells (hx1.heap HH.out)
        go_wp2_with fail
        (go_at_call 6; (with_reducible refine (text_at HT.out _ (Ext.tab ((by repeat (first | exact Ext.refl _ | assumption | refine Ext.drew ?_ | refine Ext.alloc ?_ _ | refine Ext.setCell ?_ (by first | exact Nat.le_refl _ | (simp; done) | (simp; omega)) _ | refine Ext.trans ?_ (by assumption)))) pow10_g Htab.out)).mono ?_); rintro e w2 ⟨rfl, hx2⟩)
        have Y2 := hx1.trans hx2
        clear k0 k1 k2 k3 hx1 hx2
        go_wp2_with fail
        (go_at_call 11; (with_reducible refine (parse13_at HPT.out HTS.out _ (HV.out.ext ((by repeat (first | exact Ext.refl _ | assumption | refine Ext.drew ?_ | refine Ext.alloc ?_ _ | refine Ext.setCell ?_ (by first | exact Nat.le_refl _ | (simp; done) | (simp; omega)) _ | refine Ext.trans ?_ (by assumption))))) (Ext.tab ((by repeat (first | exact Ext.refl _ | assumption | refine Ext.drew ?_ | refine Ext.alloc ?_ _ | refine Ext.setCell ?_ (by first | exact Nat.le_refl _ | (simp; done) | (simp; omega)) _ | refine Ext.trans ?_ (by assumption)))) pow10_g Htab.out)).mono ?_); rintro e w3 ⟨rfl, hx3⟩)
        have Y3 := Y2.trans hx3
        have HC := Lib.hid (heap_new w3 (.cells #[.int .i64 (na : Int), .int .i64 (ns : Int), .int .i64 (nt : Int), .int .i64 (nr : Int)] 23))
        have hlt3 : w.heap.size < w3.heap.size := by have := Y3.sz; simp at this; omega
        obtain ⟨k0, k1, k2, k3, _, _, _, _⟩ := four_cells (Y3.heap HH.out)
        clear Y2 hx3
        go_wp2_with fail
        (go_at_call 7; (with_reducible refine (enc_at HVV.out rfl rfl _).mono ?_); rintro e w4 ⟨Ax, cx, rfl, hbx, hcx, hx4⟩)
        have Y4 := (Y3.alloc _).trans hx4
        clear k0 k1 k2 k3 Y3
        go_wp2_with fail
        (go_at_call 14; (with_reducible refine (dec_at HDE.out _ _ _ _ hbx rfl HEL.out).mono ?_); rintro e w5 ⟨rfl, hx5⟩)
        have Y5 := Y4.trans hx5
        obtain ⟨j0, j1, j2, j3, _, _, _, _⟩ := four_cells ((hx4.trans hx5).heap HC.out)
        obtain ⟨k0, k1, k2, k3, _, _, _, _⟩ := four_cells (Y5.heap HH.out)
        have hlt5 : w3.heap.size < w5.heap.size := by have := (hx4.trans hx5).sz; simp at this; omega
        have hlt6 : w.heap.size < w5.heap.size := by omega
        have X5 : Ext w w5 := (by repeat (first | exact Ext.refl _ | assumption | refine Ext.drew ?_ | refine Ext.alloc ?_ _ | refine Ext.setCell ?_ (by first | exact Nat.le_refl _ | (simp; done) | (simp; omega)) _ | refine Ext.trans ?_ (by assumption)))
        clear hbx hcx hx4 hx5 Y4 Y5 hlt3
        go_wp2_with fail
        (go_at_call 11; (with_reducible refine (parse13_at HP.out hxs _ (HV.out.ext ((by repeat (first | exact Ext.refl _ | assumption | refine Ext.drew ?_ | refine Ext.alloc ?_ _ | refine Ext.setCell ?_ (by first | exact Nat.le_refl _ | (simp; done) | (simp; omega)) _ | refine Ext.trans ?_ (by assumption))))) (Ext.tab ((by repeat (first | exact Ext.refl _ | assumption | refine Ext.drew ?_ | refine Ext.alloc ?_ _ | refine Ext.setCell ?_ (by first | exact Nat.le_refl _ | (simp; done) | (simp; omega)) _ | refine Ext.trans ?_ (by assumption)))) pow10_g Htab.out)).mono ?_); rintro e w6 ⟨rfl, hx6⟩)
        have X6 : Ext w w6 := (by repeat (first | exact Ext.refl _ | assumption | refine Ext.drew ?_ | refine Ext.alloc ?_ _ | refine Ext.setCell ?_ (by first | exact Nat.le_refl _ | (simp; done) | (simp; omega)) _ | refine Ext.trans ?_ (by assumption)))
        clear X5 hx6 k0 k1 k2 k3 j0 j1 j2 j3 hlt5 hlt6
        go_wp2_with fail
        (go_at_call 14; (with_reducible refine (dec_at HD.out A L c _ (HB.out.ext ((by repeat (first | exact Ext.refl _ | assumption | refine Ext.drew ?_ | refine Ext.alloc ?_ _ | refine Ext.setCell ?_ (by first | exact Nat.le_refl _ | (simp; done) | (simp; omega)) _ | refine Ext.trans ?_ (by assumption))))) HL.out hb).mono ?_); rintro e w8 ⟨rfl, hx8⟩)
        have X8 : Ext w w8 := (by repeat (first | exact Ext.refl _ | assumption | refine Ext.drew ?_ | refine Ext.alloc ?_ _ | refine Ext.setCell ?_ (by first | exact Nat.le_refl _ | (simp; done) | (simp; omega)) _ | refine Ext.trans ?_ (by assumption)))
        clear X6 hx8
        go_wp2_with (go_at_call 5; refine (known_any _ (Ext.tab ((by repeat (first | exact Ext.refl _ | assumption | refine Ext.drew ?_ | refine Ext.alloc ?_ _ | refine Ext.setCell ?_ (by first | exact Nat.le_refl _ | (simp; done) | (simp; omega)) _ | refine Ext.trans ?_ (by assumption)))) pow10_g Htab.out)).mono ?_; rintro e wz ⟨rfl, hxz⟩)
        go_ret
        exact ⟨rfl, (by repeat (first | exact Ext.refl _ | assumption | refine Ext.drew ?_ | refine Ext.alloc ?_ _ | refine Ext.setCell ?_ (by first | exact Nat.le_refl _ | (simp; done) | (simp; omega)) _ | refine Ext.trans ?_ (by assumption)))⟩
end Go.Proofs.YtdpjkocpdomkbaaGreatDoor
