/- Plain laws of flags: what is written is read. -/
import Derived.Test.YtbgiciijiopklaaDoorPlainA
import Derived.Test.YtbgiciijiopklaaDoorFlagW
namespace Go.Proofs.YtbgiciijiopklaaDoor
open Go.RowKit Go.Shelf
theorem parse_text (f : Nat) (hf : f < 4294967296) (hn : namedB f = true) : parseR (textB f) = (f, 0) := by
  have hN : NB f := ⟨hf, (named_bits f hf).1 hn⟩
  have he := parse_each f hN 32 0 rfl
  rw [eachF_all, show f % 2 ^ 0 = 0 by omega] at he
  by_cases h0 : eachL f = []
  · rw [h0] at he
    have hf0 : f = 0 := he.2.symm
    subst hf0
    decide +kernel
  · have hb := back h0 (rfl : textB f = textB f)
    have hr : refP (textB f).data.toList = f := by unfold refP; rw [hb]; exact he.2
    rw [parse_ref]
    unfold refParse
    rw [hr, ← text_txt f hf hn, if_pos rfl]
theorem text_parse (s : ByteArray) (g : Nat) (h : parseR s = (g, 0)) : g < 4294967296 ∧ namedB g = true ∧ textB g = s := by
  rw [parse_ref] at h
  unfold refParse at h
  have hN : NB (refP s.data.toList) := NB_fold _ _ NB_zero
  have hnb := (named_bits _ hN.1).2 hN.2
  split at h
  · rename_i he
    simp only [Prod.mk.injEq, and_true] at h
    subst h
    rw [text_txt _ hN.1 hnb]
    exact ⟨hN.1, hnb, he⟩
  · simp at h
theorem encB_eq (f : Nat) : encB f = [3, 5, 0, UInt8.ofNat (f / 16777216 % 256), UInt8.ofNat (f / 65536 % 256), UInt8.ofNat (f / 256 % 256), UInt8.ofNat (f % 256)] := by
  have h : ([0] ++ numB (f : Int) 4).length = 5 := by simp [numB_len]
  have hb : ∀ k : Nat, ((f : Int) / (k : Int) % 256).toNat = f / k % 256 := fun k => by
    have : (f : Int) / (k : Int) % 256 = ((f / k % 256 : Nat) : Int) := by simp
    rw [this, Int.toNat_natCast]
  have h1 := hb 16777216
  have h2 := hb 65536
  have h3 := hb 256
  have h4 : ((f : Int) % 256).toNat = f % 256 := by omega
  unfold encB elB
  rw [h]
  simp [lenB, numB, List.range_succ, byteI] at *
  rw [h1, h2, h3, h4]
  exact ⟨rfl, rfl, rfl, rfl⟩
theorem dec_enc (f : Nat) (hf : f < 4294967296) (hn : namedB f = true) : decF (encB f) = (0, f) := by
  have hl : (encB f).length = 7 := encB_len f
  have hle : lenR (encB f) 1 = (0, 5, 2) := by rw [encB_eq]; simp [lenR]
  have hel : elR 3 (encB f) 0 = (0, 2, 5) := by
    unfold elR
    have h0 : ((encB f)[0]'(by omega)).toNat = 3 := by simp [encB_eq]
    rw [dif_pos (by omega), hle]
    simp [h0, hl]
  have hbe : beN (((encB f).drop 2).take 5) = f := by
    rw [encB_eq]
    simp [beN]
    omega
  have hbi : bitsR (encB f) 0 = (0, f, 7) := by
    unfold bitsR
    rw [hel]
    simp only [if_pos]
    rw [hbe, if_pos ⟨trivial, hf⟩]
  have hrf : readF (encB f) 0 = (0, f, 7) := by
    unfold readF
    rw [hbi]
    simp only [if_pos, hn]
  unfold decF
  rw [hrf, hl]
  simp
theorem enc_dec (bs : List UInt8) (g : Nat) (h : decF bs = (0, g)) : g < 4294967296 ∧ namedB g = true ∧ encB g = bs := by
  unfold decF at h
  rcases hr : readF bs 0 with ⟨er, v, q⟩
  rw [hr] at h
  simp only at h
  by_cases he : er = 0
  · subst he
    rw [if_pos rfl] at h
    by_cases hq : q < bs.length
    · rw [if_pos hq] at h; simp at h
    rw [if_neg hq] at h
    simp only [Prod.mk.injEq, true_and] at h
    subst h
    unfold readF at hr
    rcases hb : bitsR bs 0 with ⟨er, v', q'⟩
    rw [hb] at hr
    simp only at hr
    by_cases he : er = 0
    · subst he
      rw [if_pos rfl] at hr
      by_cases hn : namedB v' = true
      · rw [if_pos hn] at hr
        simp only [Prod.mk.injEq, true_and] at hr
        obtain ⟨rfl, rfl⟩ := hr
        refine ⟨bitsR_lt hb, hn, ?_⟩
        unfold bitsR at hb
        rcases hE : elR 3 bs 0 with ⟨er, fr, n⟩
        rw [hE] at hb
        simp only at hb
        by_cases he : er = 0
        · subst he
          rw [if_pos rfl] at hb
          by_cases h5 : n = 5 ∧ beN ((bs.drop fr).take 5) < 4294967296
          · rw [if_pos h5] at hb
            obtain ⟨rfl, h5⟩ := h5
            simp only [Prod.mk.injEq, true_and] at hb
            obtain ⟨rfl, rfl⟩ := hb
            unfold elR at hE
            by_cases hp : 0 < bs.length
            · rw [dif_pos hp] at hE
              by_cases ht : (bs[0].toNat : Int) = 3
              · rw [if_pos ht] at hE
                rcases hL : lenR bs (0 + 1) with ⟨er, n, p⟩
                rw [hL] at hE
                simp only at hE
                by_cases he : er = 0
                · subst he
                  rw [if_pos rfl] at hE
                  by_cases hlt : bs.length < p + n
                  · rw [if_pos hlt] at hE; simp at hE
                  · rw [if_neg hlt] at hE
                    simp only [Prod.mk.injEq, true_and] at hE
                    obtain ⟨rfl, rfl⟩ := hE
                    unfold lenR at hL
                    split at hL
                    · rename_i h1
                      split at hL
                      · simp only [Prod.mk.injEq, true_and] at hL
                        obtain ⟨e5, rfl⟩ := hL
                        have hlen : bs.length = 7 := by omega
                        match bs, hlen with
                        | [x0, x1, x2, x3, x4, x5, x6], _ =>
                          simp only [List.getElem_cons_zero, List.getElem_cons_succ, List.drop_succ_cons, List.drop_zero, List.take_succ_cons, List.take_zero] at ht e5 h5 ⊢
                          have b2 := x2.toNat_lt; have b3 := x3.toNat_lt; have b4 := x4.toNat_lt; have b5 := x5.toNat_lt; have b6 := x6.toNat_lt
                          simp only [beN, List.foldl_cons, List.foldl_nil] at h5 ⊢
                          have hz : x2.toNat = 0 := by omega
                          rw [hz]
                          have a0 : x0 = 3 := UInt8.toNat_inj.1 (by rw [show (3 : UInt8).toNat = 3 by decide]; omega)
                          have a1 : x1 = 5 := UInt8.toNat_inj.1 (by rw [show (5 : UInt8).toNat = 5 by decide]; omega)
                          have a2 : x2 = 0 := UInt8.toNat_inj.1 (by rw [show (0 : UInt8).toNat = 0 by decide]; omega)
                          subst a0 a1 a2
                          rw [encB_eq]
                          have e3 : (((((0 * 256 + 0) * 256 + x3.toNat) * 256 + x4.toNat) * 256 + x5.toNat) * 256 + x6.toNat) / 16777216 % 256 = x3.toNat := by omega
                          have e4 : (((((0 * 256 + 0) * 256 + x3.toNat) * 256 + x4.toNat) * 256 + x5.toNat) * 256 + x6.toNat) / 65536 % 256 = x4.toNat := by omega
                          have e5' : (((((0 * 256 + 0) * 256 + x3.toNat) * 256 + x4.toNat) * 256 + x5.toNat) * 256 + x6.toNat) / 256 % 256 = x5.toNat := by omega
                          have e6 : (((((0 * 256 + 0) * 256 + x3.toNat) * 256 + x4.toNat) * 256 + x5.toNat) * 256 + x6.toNat) % 256 = x6.toNat := by omega
                          rw [e3, e4, e5', e6]
                          simp
                      · split at hL
                        · simp at hL
                        · split at hL
                          · simp at hL
                          · split at hL
                            · simp at hL
                            · rename_i hx
                              simp only [Prod.mk.injEq, true_and] at hL
                              omega
                    · simp at hL
                · rw [if_neg he] at hE; simp only [Prod.mk.injEq] at hE; exact absurd hE.1 he
              · rw [if_neg ht] at hE; simp at hE
            · rw [dif_neg hp] at hE; simp at hE
          · rw [if_neg h5] at hb; simp at hb
        · rw [if_neg he] at hb; simp only [Prod.mk.injEq] at hb; exact absurd hb.1 he
      · rw [if_neg hn] at hr; simp at hr
    · rw [if_neg he] at hr; simp only [Prod.mk.injEq] at hr; exact absurd hr.1 he
  · rw [if_neg he] at h; simp only [Prod.mk.injEq] at h; exact absurd h.1 he
end Go.Proofs.YtbgiciijiopklaaDoor
