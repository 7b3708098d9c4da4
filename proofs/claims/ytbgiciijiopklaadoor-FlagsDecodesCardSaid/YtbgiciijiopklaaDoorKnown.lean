/- The examples of the chapter on flags: 'known' returns true. The table of the lowest bits as the program lays it. -/
import Derived.Test.YtbgiciijiopklaaDoorPlainB
namespace Go.Proofs.YtbgiciijiopklaaDoor
open Go.RowKit Go.Shelf
theorem parse_at (s : ByteArray) (v : Nat) (z er : Int) (h : parseR s = (v, er)) (hz : z = v) (hs : s.size ≤ 1000000) (w : World) (hT : TabAt 0 Lib.deBruijn32tab w) : Calls Tryd.prog 20 #[.string s] w fun e w' => e = .returned (.tuple #[.int .u32 z, .int .i64 er]) ∧ Ext w w' := by
  subst hz
  refine (parse_any s hs w hT).mono ?_
  unfold ParsePost
  rw [h]
  exact fun _ _ h => h
theorem text_at (f : Nat) (s : ByteArray) (er : Int) (h : textR f = (s, er)) (hf : f < 4294967296) (z : Int) (hz : z = f) (w : World) (hT : TabAt 0 Lib.deBruijn32tab w) : Calls Tryd.prog 17 #[.int .u32 z] w fun e w' => e = .returned (.tuple #[.string s, .int .i64 er]) ∧ Ext w w' := by
  subst hz
  refine (text_any f hf w hT).mono ?_
  unfold TextPost
  rw [h]
  exact fun _ _ h => h
theorem initial_at (o a v : Nat) (pre : Bool) (zo za z er : Int) (h : initR o a pre = (v, er)) (ho : o < 4294967296) (ha : a < 4294967296) (hzo : zo = o) (hza : za = a) (hz : z = v) (w : World) : Calls Tryd.prog 25 #[.int .u32 zo, .int .u32 za, .bool pre] w fun e w' => e = .returned (.tuple #[.int .u32 z, .int .i64 er]) ∧ Ext w w' := by
  subst hz hzo hza
  refine (initial_any o a pre ho ha w).mono ?_
  unfold InitPost
  rw [h]
  exact fun _ _ h => h
theorem grant_at (o t a v : Nat) (zo zt za z er : Int) (h : grantRules o t a = (v, er)) (ho : o < 4294967296) (ht : t < 4294967296) (ha : a < 4294967296) (hzo : zo = o) (hzt : zt = t) (hza : za = a) (hz : z = v) (w : World) : Calls Tryd.prog 27 #[.int .u32 zo, .int .u32 zt, .int .u32 za] w fun e w' => e = .returned (.tuple #[.int .u32 z, .int .i64 er]) ∧ Ext w w' := by
  subst hz hzo hza hzt
  refine (grant_any o t a ho ht ha w).mono ?_
  unfold GrantPost
  rw [h]
  exact fun _ _ h => h
set_option maxHeartbeats 800000 in
theorem is_err (want : ByteArray) (no : Int) (hn : (no != 0) = true) (w : World) : Calls Tryd.prog 38 #[.int .u32 0, .int .i64 no, .string want, .int .i64 no] w fun e w' => e = .returned (.bool true) ∧ w = w' := by
  go_enter Tryd.func38, Tryd.ntmps38
  go_wp2
  go_ret
  exact ⟨by simp, rfl⟩
set_option maxHeartbeats 800000 in
theorem is_ok (f : Nat) (want : ByteArray) (h : textR f = (want, 0)) (hf : f < 4294967296) (z : Int) (hz : z = f) (w : World) (hT : TabAt 0 Lib.deBruijn32tab w) : Calls Tryd.prog 38 #[.int .u32 z, .int .i64 0, .string want, .int .i64 0] w fun e w' => e = .returned (.bool true) ∧ Ext w w' := by
  have HH := Lib.hid h
  have HZ := Lib.hid hz
  have HT := Lib.hid hT
  clear h hz hT
  go_enter Tryd.func38, Tryd.ntmps38
  go_wp2_with (go_at_call 17; (with_reducible refine (text_at f want 0 HH.out hf z HZ.out _ HT.out).mono ?_); rintro e w1 ⟨rfl, hx1⟩)
  go_ret
  exact ⟨by simp, hx1⟩
theorem k_p1 : parseR ⟨#[102, 111, 114, 119, 97, 114, 100, 97, 98, 108, 101, 44, 114, 101, 110, 101, 119, 97, 98, 108, 101]⟩ = (129, 0) := by decide +kernel
theorem k_p2 : parseR ⟨#[114, 101, 110, 101, 119, 97, 98, 108, 101, 44, 102, 111, 114, 119, 97, 114, 100, 97, 98, 108, 101]⟩ = (0, 6) := by decide +kernel
theorem k_t : textR 4096 = (⟨#[]⟩, 2) := by decide +kernel
theorem k_i1 : initR 5 1 true = (769, 0) := by decide +kernel
theorem k_i2 : initR 65536 0 false = (0, 150) := by decide +kernel
theorem k_g1 : grantRules 3 769 1 = (515, 0) := by decide +kernel
theorem k_g2 : grantRules 3 256 1 = (0, 151) := by decide +kernel
theorem k_g3 : grantRules 131072 192 0 = (128, 0) := by decide +kernel
theorem k_t0 : textR 0 = (⟨#[45]⟩, 0) := by decide +kernel
theorem k_t129 : textR 129 = (⟨#[102, 111, 114, 119, 97, 114, 100, 97, 98, 108, 101, 44, 114, 101, 110, 101, 119, 97, 98, 108, 101]⟩, 0) := by decide +kernel
theorem k_t769 : textR 769 = (⟨#[102, 111, 114, 119, 97, 114, 100, 97, 98, 108, 101, 44, 105, 110, 105, 116, 105, 97, 108, 44, 112, 114, 101, 45, 97, 117, 116, 104]⟩, 0) := by decide +kernel
theorem k_t515 : textR 515 = (⟨#[102, 111, 114, 119, 97, 114, 100, 97, 98, 108, 101, 44, 102, 111, 114, 119, 97, 114, 100, 101, 100, 44, 112, 114, 101, 45, 97, 117, 116, 104]⟩, 0) := by decide +kernel
theorem k_t128 : textR 128 = (⟨#[114, 101, 110, 101, 119, 97, 98, 108, 101]⟩, 0) := by decide +kernel
set_option maxRecDepth 8000 in
set_option maxHeartbeats 3200000 in
theorem known_any (w : World) (hT : TabAt 0 Lib.deBruijn32tab w) : Calls Tryd.prog 16 #[] w fun e w' => e = .returned (.bool true) ∧ Ext w w' := by
  have HT := Lib.hid hT
  clear hT
  go_enter Tryd.func16, Tryd.ntmps16
  go_wp2_with (first | (go_at_call 20; (with_reducible refine (parse_at _ _ 129 _ k_p1 (by decide) (by decide) _ (TabAt.ext HT.out (by repeat (first | exact Ext.refl _ | assumption | refine Ext.drew ?_ | refine Ext.alloc ?_ _ | refine Ext.setCell ?_ (by first | exact Nat.le_refl _ | (simp; done) | (simp; omega)) _ | refine Ext.trans ?_ (by assumption))))).mono ?_); rintro e w1 ⟨rfl, hw1⟩) | (go_at_call 20; (with_reducible refine (parse_at _ _ 0 _ k_p2 (by decide) (by decide) _ (TabAt.ext HT.out (by repeat (first | exact Ext.refl _ | assumption | refine Ext.drew ?_ | refine Ext.alloc ?_ _ | refine Ext.setCell ?_ (by first | exact Nat.le_refl _ | (simp; done) | (simp; omega)) _ | refine Ext.trans ?_ (by assumption))))).mono ?_); rintro e w2 ⟨rfl, hw2⟩) | (go_at_call 17; (with_reducible refine (text_at 4096 _ _ k_t (by decide) _ (by decide) _ (TabAt.ext HT.out (by repeat (first | exact Ext.refl _ | assumption | refine Ext.drew ?_ | refine Ext.alloc ?_ _ | refine Ext.setCell ?_ (by first | exact Nat.le_refl _ | (simp; done) | (simp; omega)) _ | refine Ext.trans ?_ (by assumption))))).mono ?_); rintro e w3 ⟨rfl, hw3⟩) | (go_at_call 38; (with_reducible refine (is_ok _ _ k_t0 (by decide) _ (by decide) _ (TabAt.ext HT.out (by repeat (first | exact Ext.refl _ | assumption | refine Ext.drew ?_ | refine Ext.alloc ?_ _ | refine Ext.setCell ?_ (by first | exact Nat.le_refl _ | (simp; done) | (simp; omega)) _ | refine Ext.trans ?_ (by assumption))))).mono ?_); rintro e w4 ⟨rfl, hw4⟩) | (go_at_call 38; (with_reducible refine (is_ok _ _ k_t129 (by decide) _ (by decide) _ (TabAt.ext HT.out (by repeat (first | exact Ext.refl _ | assumption | refine Ext.drew ?_ | refine Ext.alloc ?_ _ | refine Ext.setCell ?_ (by first | exact Nat.le_refl _ | (simp; done) | (simp; omega)) _ | refine Ext.trans ?_ (by assumption))))).mono ?_); rintro e w5 ⟨rfl, hw5⟩) | (go_at_call 25; (with_reducible refine (initial_at _ _ _ _ _ _ 769 _ k_i1 (by decide) (by decide) (by decide) (by decide) (by decide) _).mono ?_); rintro e w6 ⟨rfl, hw6⟩) | (go_at_call 25; (with_reducible refine (initial_at _ _ _ _ _ _ 0 _ k_i2 (by decide) (by decide) (by decide) (by decide) (by decide) _).mono ?_); rintro e w7 ⟨rfl, hw7⟩) | (go_at_call 38; (with_reducible refine (is_ok _ _ k_t769 (by decide) _ (by decide) _ (TabAt.ext HT.out (by repeat (first | exact Ext.refl _ | assumption | refine Ext.drew ?_ | refine Ext.alloc ?_ _ | refine Ext.setCell ?_ (by first | exact Nat.le_refl _ | (simp; done) | (simp; omega)) _ | refine Ext.trans ?_ (by assumption))))).mono ?_); rintro e w8 ⟨rfl, hw8⟩) | (go_at_call 38; (with_reducible refine (is_err _ _ (by decide) _).mono ?_); rintro e w' ⟨rfl, rfl⟩) | (go_at_call 27; (with_reducible refine (grant_at _ _ _ _ _ _ _ 515 _ k_g1 (by decide) (by decide) (by decide) (by decide) (by decide) (by decide) (by decide) _).mono ?_); rintro e w9 ⟨rfl, hw9⟩) | (go_at_call 27; (with_reducible refine (grant_at _ _ _ _ _ _ _ 0 _ k_g2 (by decide) (by decide) (by decide) (by decide) (by decide) (by decide) (by decide) _).mono ?_); rintro e w10 ⟨rfl, hw10⟩) | (go_at_call 27; (with_reducible refine (grant_at _ _ _ _ _ _ _ 128 _ k_g3 (by decide) (by decide) (by decide) (by decide) (by decide) (by decide) (by decide) _).mono ?_); rintro e w11 ⟨rfl, hw11⟩) | (go_at_call 38; (with_reducible refine (is_ok _ _ k_t515 (by decide) _ (by decide) _ (TabAt.ext HT.out (by repeat (first | exact Ext.refl _ | assumption | refine Ext.drew ?_ | refine Ext.alloc ?_ _ | refine Ext.setCell ?_ (by first | exact Nat.le_refl _ | (simp; done) | (simp; omega)) _ | refine Ext.trans ?_ (by assumption))))).mono ?_); rintro e w12 ⟨rfl, hw12⟩) | (go_at_call 38; (with_reducible refine (is_ok _ _ k_t128 (by decide) _ (by decide) _ (TabAt.ext HT.out (by repeat (first | exact Ext.refl _ | assumption | refine Ext.drew ?_ | refine Ext.alloc ?_ _ | refine Ext.setCell ?_ (by first | exact Nat.le_refl _ | (simp; done) | (simp; omega)) _ | refine Ext.trans ?_ (by assumption))))).mono ?_); rintro e w13 ⟨rfl, hw13⟩))
  go_ret
  exact ⟨rfl, (by repeat (first | exact Ext.refl _ | assumption | refine Ext.drew ?_ | refine Ext.alloc ?_ _ | refine Ext.setCell ?_ (by first | exact Nat.le_refl _ | (simp; done) | (simp; omega)) _ | refine Ext.trans ?_ (by assumption)))⟩
end Go.Proofs.YtbgiciijiopklaaDoor
