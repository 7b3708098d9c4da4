/- Contracts of the reference of flags: Text, Parse. -/
import Derived.Test.YtbgiciijiopklaaDoorRefA
namespace Go.Proofs.YtbgiciijiopklaaDoor
open Go.RowKit Go.Shelf
theorem bsOf_append (a b : List UInt8) : bsOf a ++ bsOf b = bsOf (a ++ b) := by
  apply ByteArray.ext
  simp [bsOf]
theorem tx_len (f k : Nat) : (tx f k).length ≤ 17 * k := by
  induction k with
  | zero => simp [tx]
  | succ k ih =>
    have := nameOf_le k
    rw [tx]
    split
    · split
      · simp [nm] at *; omega
      · simp [nm] at *; omega
    · omega
theorem bsOf_nil (l : List UInt8) : ((bsOf l).toList == []) = decide (l = []) := by
  rw [ByteArray.toList_eq, Bool.eq_iff_iff]; simp [bsOf]
theorem nameOf_bs (i : Nat) : nameOf i = bsOf (nm i) := by simp [nm, bsOf]
theorem bs_size (l : List UInt8) : (bsOf l).size = l.length := by simp [bsOf, ByteArray.size]
theorem ba_size (s : ByteArray) : s.size = s.data.toList.length := (Array.length_toList).symm
theorem comma_bs : (⟨#[44]⟩ : ByteArray) = bsOf [44] := rfl
theorem tx_succ (f k : Nat) : tx f (k + 1) = if f.testBit k = true then (if tx f k = [] then nm k else tx f k ++ [44] ++ nm k) else tx f k := rfl
set_option maxHeartbeats 1600000 in
theorem rText_any (f : Nat) (w : World) : Calls Tryd.prog 19 #[.int .u32 (f : Int)] w fun e w' => e = .returned (.string (bsOf (txt f))) ∧ Ext w w' := by
  go_enter Tryd.func19, Tryd.ntmps19
  go_wp2
  go_loopw [3, 4] (fun s i wr => ∃ k : Nat, k ≤ 32 ∧ i = .int .i64 k ∧ s = .string (bsOf (tx f k)) ∧ Ext w wr) (fun _ i _ => 32 - (intOf i).toNat)
  case atStart => exact ⟨0, by omega, rfl, rfl, Ext.refl _⟩
  case round =>
    obtain ⟨k, hk, rfl, rfl, hx⟩ := hrel
    have hlen := tx_len f k
    have hz : (bsOf (tx f k)).size = (tx f k).length := bs_size _
    have hn := nameOf_le k
    have hz2 : (nameOf k).size = (nameOf k).data.toList.length := ba_size _
    have h0 := bsOf_nil (tx f k)
    have HT := Lib.hid (tx_succ f k)
    obtain ⟨s, hs⟩ : ∃ s, bsOf (tx f k) = s := ⟨_, rfl⟩
    obtain ⟨t, ht⟩ : ∃ t, nameOf k = t := ⟨_, rfl⟩
    rw [hs] at hz h0
    rw [hs]
    rw [ht] at hz2 hn
    have hss : s.size ≤ 544 := by omega
    have hts : t.size ≤ 16 := by omega
    have HS := Lib.hid hs
    have HN := Lib.hid ht
    clear hs ht hz hz2 hlen hn
    by_cases hlt : k < 32
    · cases hb : f.testBit k
      · have HB := Lib.hid hb
        clear hb h0
        go_wp2_with (first | (go_at_call 23; (with_reducible refine (rHas_any f k hlt _ rfl _).mono ?_); rintro e w' ⟨rfl, rfl⟩; rw [HB.out]))
        go_roundw
        case rel => exact ⟨k + 1, by omega, by go_num, by rw [HT.out, HB.out, if_neg (by decide), HS.out], hx⟩
        case measure => simp [intOf]; omega
      · have HB := Lib.hid hb
        clear hb
        by_cases he : tx f k = []
        · have HE := Lib.hid he
          rw [decide_eq_true he] at h0
          clear he
          go_wp2_with (first | (go_at_call 23; (with_reducible refine (rHas_any f k hlt _ rfl _).mono ?_); rintro e w' ⟨rfl, rfl⟩; rw [HB.out]) | (go_at_call 24; (with_reducible refine (rName_any k hlt _).mono ?_); rintro e w1 ⟨rfl, hx1⟩; rw [HN.out]))
          go_roundw
          case rel => exact ⟨k + 1, by omega, by go_num, by rw [HT.out, HB.out, if_pos rfl, if_pos HE.out, ← HS.out, ← HN.out, HE.out, nameOf_bs, bsOf_append]; rfl, hx.trans hx1⟩
          case measure => simp [intOf]; omega
        · have HE := Lib.hid he
          rw [decide_eq_false he] at h0
          clear he
          go_wp2_with (first | (go_at_call 23; (with_reducible refine (rHas_any f k hlt _ rfl _).mono ?_); rintro e w' ⟨rfl, rfl⟩; rw [HB.out]) | (go_at_call 24; (with_reducible refine (rName_any k hlt _).mono ?_); rintro e w1 ⟨rfl, hx1⟩; rw [HN.out]))
          go_roundw
          case rel => exact ⟨k + 1, by omega, by go_num, by rw [HT.out, HB.out, if_pos rfl, if_neg HE.out, ← HS.out, ← HN.out, nameOf_bs, comma_bs, bsOf_append, bsOf_append], hx.trans hx1⟩
          case measure => simp [intOf]; omega
    · have hk' : k = 32 := by omega
      have HK := Lib.hid hk'
      clear hk'
      by_cases he : tx f k = []
      · have HE := Lib.hid he
        rw [decide_eq_true he] at h0
        clear he
        go_wp2
        go_ret
        refine ⟨?_, hx⟩
        have e1 := HE.out
        rw [HK.out] at e1
        rw [txt, if_pos e1]
        rfl
      · have HE := Lib.hid he
        rw [decide_eq_false he] at h0
        clear he
        go_wp2
        go_ret
        refine ⟨?_, hx⟩
        have e1 := HE.out
        rw [HK.out] at e1
        rw [txt, if_neg e1, ← HS.out, HK.out]
        rfl
/-- The words so far and the one under way. -/
def stepW (p : Nat × List UInt8) (c : UInt8) : Nat × List UInt8 := if c = 44 then (orW p.1 p.2, []) else (p.1, p.2 ++ [c])
def stW (l : List UInt8) : Nat × List UInt8 := l.foldl stepW (0, [])
theorem stW_snoc (l : List UInt8) (c : UInt8) : stW (l ++ [c]) = stepW (stW l) c := by simp [stW]
theorem st_split : ∀ (l : List UInt8) (f : Nat) (w : List UInt8), orW (l.foldl stepW (f, w)).1 (l.foldl stepW (f, w)).2 = match splitC l with | [] => f | x :: r => r.foldl orW (orW f (w ++ x)) := by
  intro l
  induction l with
  | nil => intro f w; simp [splitC]
  | cons c l ih =>
    intro f w
    rw [List.foldl_cons]
    by_cases hc : c = 44
    · rw [stepW, if_pos hc, ih, splitC, if_pos hc]
      have hne := splitC_ne l
      cases h : splitC l with
      | nil => exact absurd h hne
      | cons x r => simp
    · rw [stepW, if_neg hc, ih, splitC, if_neg hc]
      have hne := splitC_ne l
      cases h : splitC l with
      | nil => exact absurd h hne
      | cons x r => simp
theorem refP_st (l : List UInt8) : refP l = orW (stW l).1 (stW l).2 := by
  have h := st_split l 0 []
  unfold refP stW
  rw [h]
  have hne := splitC_ne l
  cases h : splitC l with
  | nil => exact absurd h hne
  | cons x r => simp
def orK (f : Nat) (w : List UInt8) : Nat → Nat
  | 0 => f
  | k + 1 => if w ≠ [] ∧ nm k = w then orK f w k ||| 2 ^ k else orK f w k
theorem nm_nil : ∀ i, i < 32 → hasName i = false → nm i = [] := by decide +kernel
theorem orK_orW (f : Nat) (w : List UInt8) : orK f w 32 = orW f w := by
  unfold orW
  cases hb : bitOf w with
  | none =>
    have : ∀ k, k ≤ 32 → orK f w k = f := by
      intro k
      induction k with
      | zero => intro _; rfl
      | succ k ih =>
        intro hk
        rw [orK, if_neg, ih (by omega)]
        rintro ⟨h1, h2⟩
        cases hh : hasName k with
        | false => exact h1 (h2.symm.trans (nm_nil k (by omega) hh))
        | true => rw [← h2, nm_bit k (by omega) hh] at hb; cases hb
    exact this 32 (Nat.le_refl _)
  | some i =>
    obtain ⟨hi, hn, hw⟩ := bitOf_some hb
    have hne : w ≠ [] := by rw [← hw]; exact nm_ne i hi hn
    have : ∀ k, k ≤ 32 → orK f w k = if i < k then f ||| 2 ^ i else f := by
      intro k
      induction k with
      | zero => intro _; rfl
      | succ k ih =>
        intro hk
        rw [orK, ih (by omega)]
        by_cases h : nm k = w
        · have hh : hasName k = true := by
            cases hh : hasName k with
            | false => exact absurd (h.symm.trans (nm_nil k (by omega) hh)) hne
            | true => rfl
          have : some k = some i := by rw [← nm_bit k (by omega) hh, h, hb]
          obtain rfl : k = i := by simpa using this
          rw [if_pos ⟨hne, h⟩, if_neg (by omega), if_pos (by omega)]
        · rw [if_neg (fun g => h g.2)]
          have : k ≠ i := by rintro rfl; exact h hw
          by_cases g : i < k
          · rw [if_pos g, if_pos (by omega)]
          · rw [if_neg g, if_neg (by omega)]
    rw [this 32 (Nat.le_refl _), if_pos hi]
theorem orK_lt (f : Nat) (w : List UInt8) (hf : f < 4294967296) (k : Nat) (hk : k ≤ 32) : orK f w k < 4294967296 := by
  induction k with
  | zero => exact hf
  | succ k ih =>
    rw [orK]
    split
    · exact or32 (ih (by omega)) (two32 (by omega))
    · exact ih (by omega)
theorem stW_lt (l : List UInt8) : (stW l).1 < 4294967296 ∧ (stW l).2.length ≤ l.length := by
  have : ∀ (l : List UInt8) (p : Nat × List UInt8), p.1 < 4294967296 → (l.foldl stepW p).1 < 4294967296 ∧ (l.foldl stepW p).2.length ≤ p.2.length + l.length := by
    intro l
    induction l with
    | nil => intro p h; exact ⟨h, by simp⟩
    | cons c l ih =>
      intro p h
      rw [List.foldl_cons]
      by_cases hc : c = 44
      · have := ih (stepW p c) (by rw [stepW, if_pos hc, ← orK_orW]; exact orK_lt _ _ h 32 (Nat.le_refl _))
        rw [stepW, if_pos hc] at this ⊢
        exact ⟨this.1, by simp at this ⊢; omega⟩
      · have := ih (stepW p c) (by rw [stepW, if_neg hc]; exact h)
        rw [stepW, if_neg hc] at this ⊢
        exact ⟨this.1, by simp at this ⊢; omega⟩
  have := this l (0, []) (by decide)
  have h2 := this.2
  rw [List.length_nil, Nat.zero_add] at h2
  exact ⟨this.1, h2⟩
theorem orK_succ (f : Nat) (w : List UInt8) (k : Nat) : orK f w (k + 1) = if w ≠ [] ∧ nm k = w then orK f w k ||| 2 ^ k else orK f w k := rfl
def RParsePost (s : ByteArray) (w : World) (e : Ending) (w' : World) : Prop := e = .returned (.tuple #[.int .u32 ((refParse s).1 : Nat), .int .i64 (refParse s).2]) ∧ Ext w w'
theorem take_snoc (s : ByteArray) (k : Nat) (h : k < s.size) : s.data.toList.take (k + 1) = s.data.toList.take k ++ [s[k]] := by
  rw [List.take_succ_eq_append_getElem (by simpa using h)]; rfl
/-- The state of the reference's outer loop at index k. -/
def PSt (s : ByteArray) (k f : Nat) (word : List UInt8) : Prop := (k ≤ s.size ∧ f = (stW (s.data.toList.take k)).1 ∧ word = (stW (s.data.toList.take k)).2) ∨ (k = s.size + 1 ∧ f = refP s.data.toList ∧ word = [])
theorem PSt.next {s : ByteArray} {k f : Nat} {word : List UInt8} (h : Hid (PSt s k f word)) (hk : k < s.size) (hc : s[k] ≠ 44) : Hid (PSt s (k + 1) f (word ++ [s[k]])) := by
  rcases h.out with ⟨h1, h2, h3⟩ | ⟨h1, _⟩
  · refine .inl ⟨by omega, ?_, ?_⟩
    all_goals rw [take_snoc s k hk, stW_snoc, stepW, if_neg hc]
    · exact h2
    · rw [h3]
  · omega
theorem PSt.word {s : ByteArray} {k f : Nat} {word : List UInt8} (h : Hid (PSt s k f word)) (hk : k < s.size) (hc : s[k] = 44) : Hid (PSt s (k + 1) (orK f word 32) []) := by
  rcases h.out with ⟨h1, h2, h3⟩ | ⟨h1, _⟩
  · refine .inl ⟨by omega, ?_, ?_⟩
    all_goals rw [take_snoc s k hk, stW_snoc, stepW, if_pos hc]
    rw [h2, h3, orK_orW]
  · omega
theorem PSt.last {s : ByteArray} {f : Nat} {word : List UInt8} (h : Hid (PSt s s.size f word)) : Hid (PSt s (s.size + 1) (orK f word 32) []) := by
  rcases h.out with ⟨h1, h2, h3⟩ | ⟨h1, _⟩
  · refine .inr ⟨rfl, ?_, rfl⟩
    rw [refP_st, orK_orW, h2, h3, ba_size, List.take_length]
  · omega
theorem PSt.bound {s : ByteArray} {k f : Nat} {word : List UInt8} (h : Hid (PSt s k f word)) : word.length ≤ s.size := by
  rcases h.out with ⟨h1, h2, h3⟩ | ⟨h1, _, h3⟩
  · rw [h3]
    have := (stW_lt (s.data.toList.take k)).2
    have h4 : (s.data.toList.take k).length ≤ k := List.length_take_le _ _
    omega
  · rw [h3]; simp
theorem bs_snoc (word : List UInt8) (s : ByteArray) (k : Nat) (hk : k < s.size) : bsOf word ++ s.extract k (k + 1) = bsOf (word ++ [s[k]]) := by
  have : s.extract k (k + 1) = bsOf [s[k]] := by
    apply ByteArray.ext
    rw [ByteArray.data_extract, ← Array.toList_inj]
    have hk' : k < s.data.size := hk
    simp [bsOf, List.take_one, Array.getElem?_eq_getElem hk']
    rfl
  rw [this, bsOf_append]
theorem bs_beq (a b : List UInt8) : ((bsOf a).toList == (bsOf b).toList) = decide (a = b) := by
  rw [ByteArray.toList_eq, ByteArray.toList_eq, Bool.eq_iff_iff]; simp [bsOf]
theorem rParse_end (s : ByteArray) (w W : World) (F : Nat) (hF : F = refP s.data.toList) (hx : Ext w W) : (((bsOf (txt F)).toList == s.toList) = true → RParsePost s w (.returned (.tuple #[.int .u32 (F : Int), .int .i64 0])) W) ∧
    (((bsOf (txt F)).toList == s.toList) = false → RParsePost s w (.returned (.tuple #[.int .u32 0, .int .i64 6])) W) := by
  subst hF
  unfold RParsePost refParse
  constructor
  · intro h
    rw [if_pos (show (⟨(txt (refP s.data.toList)).toArray⟩ : ByteArray) = s from str_eq.1 h)]
    exact ⟨rfl, hx⟩
  · intro h
    rw [if_neg (fun (e : (⟨(txt (refP s.data.toList)).toArray⟩ : ByteArray) = s) => by rw [show bsOf (txt (refP s.data.toList)) = s from e] at h; simp at h)]
    exact ⟨rfl, hx⟩
set_option maxRecDepth 4000 in
set_option maxHeartbeats 3200000 in
theorem rParse_any (s : ByteArray) (hs : s.size ≤ 100000) (w : World) : Calls Tryd.prog 21 #[.string s] w (RParsePost s w) := by
  go_enter Tryd.func21, Tryd.ntmps21
  go_wp2
  go_loopw [4, 5, 6] (fun t4 t5 t6 wr => ∃ (k f : Nat) (word : List UInt8), k ≤ s.size + 1 ∧ f < 4294967296 ∧ t6 = .int .i64 k ∧ t4 = .int .u32 f ∧ t5 = .string (bsOf word) ∧ Hid (PSt s k f word) ∧ Ext w wr) (fun _ _ i _ => s.size + 1 - (intOf i).toNat)
  case atStart => exact ⟨0, 0, [], by omega, by decide, rfl, rfl, rfl, Lib.hid (.inl ⟨by omega, rfl, rfl⟩), Ext.refl _⟩
  case round =>
    obtain ⟨k, f, word, hk, hf, rfl, rfl, rfl, HP, hx⟩ := hrel
    have hwl := PSt.bound HP
    have hwz : (bsOf word).size ≤ 100000 := by rw [bs_size]; omega
    by_cases hle : k ≤ s.size
    · by_cases hc : ∃ h : k < s.size, s[k] ≠ 44
      · obtain ⟨hlt, hc⟩ := hc
        have hcb : (((s[k]).toNat : Int) != 44) = true := by
          simp only [bne_iff_ne, ne_eq]
          intro h
          exact hc (UInt8.toNat_inj.1 (by have : (44 : UInt8).toNat = 44 := rfl; omega))
        have hb := bs_snoc word s k hlt
        have HN := PSt.next HP hlt hc
        clear hc
        go_wp2
        go_roundw
        case rel => exact ⟨k + 1, f, _, by omega, hf, by go_num, rfl, rfl, HN, hx⟩
        case measure => simp [intOf]; omega
      · have HN : Hid (PSt s (k + 1) (orK f word 32) []) := by
          by_cases hlt : k < s.size
          · exact PSt.word HP hlt (Classical.byContradiction fun h => hc ⟨hlt, h⟩)
          · have : k = s.size := by omega
            subst this; exact PSt.last HP
        have hF := orK_lt f word hf
        have HF := Lib.hid hF
        have h0 := bsOf_nil word
        have hsplit : (decide (k < s.size) = false) ∨ ∃ h : k < s.size, ((((s[k]).toNat : Int) != 44) = false) := by
          by_cases hlt : k < s.size
          · refine .inr ⟨hlt, ?_⟩
            have : s[k] = 44 := Classical.byContradiction fun h => hc ⟨hlt, h⟩
            rw [this]; rfl
          · exact .inl (by simp; omega)
        clear hc hF hwl
        rcases hsplit with hge | ⟨hlt, hcb⟩
        all_goals
          go_wp2
          go_loopw [4, 7] (fun t4 t7 wr2 => ∃ j : Nat, j ≤ 32 ∧ t7 = .int .i64 j ∧ t4 = .int .u32 (orK f word j : Nat) ∧ Ext w wr2) (fun _ i _ => 32 - (intOf i).toNat)
          case atStart => exact ⟨0, by omega, rfl, rfl, hx⟩
          case round =>
            obtain ⟨j, hj, rfl, rfl, hx2⟩ := hrel
            by_cases hlt2 : j < 32
            · have hsucc := orK_succ f word j
              have ha := HF.out j hj
              have hp := two32 hlt2
              have hor := u32_or_nat (orK f word j) (2 ^ j) ha hp
              have hmod : ((2 ^ j : Nat) : Int) % 4294967296 = ((2 ^ j : Nat) : Int) := by generalize 2 ^ j = y at hp; omega
              have hcast : ((2 ^ j : Nat) : Int) = (2 : Int) ^ j := by simp
              rw [hcast] at hor hmod
              have hb := bs_beq (nm j) word
              rw [← nameOf_bs] at hb
              have HSU := Lib.hid hsucc
              clear hcast hp hsucc
              generalize orK f word j = a at *
              by_cases he : word = []
              · have HE := Lib.hid he
                rw [decide_eq_true he] at h0
                clear he hb
                go_wp2
                go_roundw
                case rel => exact ⟨j + 1, by omega, by go_num, by rw [HSU.out, if_neg (fun h => h.1 HE.out)], hx2⟩
                case measure => simp [intOf]; omega
              · have HE := Lib.hid he
                rw [decide_eq_false he] at h0
                clear he
                by_cases hq : nm j = word
                · have HQ := Lib.hid hq
                  rw [decide_eq_true hq] at hb
                  clear hq
                  go_wp2_with (first | (go_at_call 24; (with_reducible refine (rName_any j hlt2 _).mono ?_); rintro e w1 ⟨rfl, hx1⟩))
                  go_roundw
                  case rel => exact ⟨j + 1, by omega, by go_num, by rw [HSU.out, if_pos ⟨HE.out, HQ.out⟩], hx2.trans hx1⟩
                  case measure => simp [intOf]; omega
                · have HQ := Lib.hid hq
                  rw [decide_eq_false hq] at hb
                  clear hq
                  go_wp2_with (first | (go_at_call 24; (with_reducible refine (rName_any j hlt2 _).mono ?_); rintro e w1 ⟨rfl, hx1⟩))
                  go_roundw
                  case rel => exact ⟨j + 1, by omega, by go_num, by rw [HSU.out, if_neg (fun h => HQ.out h.2)], hx2.trans hx1⟩
                  case measure => simp [intOf]; omega
            · have hj' : j = 32 := by omega
              have HJ := Lib.hid hj'
              clear hj' h0
              go_wp2
              go_roundw
              case rel => exact ⟨k + 1, orK f word 32, [], by omega, HF.out 32 (by omega), by go_num, by rw [HJ.out], rfl, HN, hx2⟩
              case measure => simp [intOf]; omega
    · have hF : f = refP s.data.toList := by
        rcases HP.out with ⟨h1, _⟩ | ⟨_, h2, _⟩
        · omega
        · exact h2
      have hEnd := rParse_end s w
      have HE := Lib.hid hEnd
      have HF := Lib.hid hF
      clear hF hEnd hwl
      cases hb : ((bsOf (txt f)).toList == s.toList)
      · have HB := Lib.hid hb
        go_wp2_with (first | (go_at_call 19; (with_reducible refine (rText_any f _).mono ?_); rintro e w1 ⟨rfl, hx1⟩))
        go_ret2
        exact (HE.out _ f HF.out (hx.trans hx1)).2 HB.out
      · have HB := Lib.hid hb
        go_wp2_with (first | (go_at_call 19; (with_reducible refine (rText_any f _).mono ?_); rintro e w1 ⟨rfl, hx1⟩))
        go_ret2
        exact (HE.out _ f HF.out (hx.trans hx1)).1 HB.out
end Go.Proofs.YtbgiciijiopklaaDoor
