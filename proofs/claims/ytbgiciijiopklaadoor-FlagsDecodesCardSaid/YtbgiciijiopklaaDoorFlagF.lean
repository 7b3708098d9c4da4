/- Contracts of package flags: Text. -/
import Derived.Test.YtbgiciijiopklaaDoorFlagE
import Derived.Test.YtbgiciijiopklaaDoorShelf
import Derived.RangeFuncBox
namespace Go.Proofs.YtbgiciijiopklaaDoor
open Go.RowKit Go.Shelf
attribute [local go_sem] Oper.semAt_some
theorem Step.row {B : Nat} {K : Nat → Prop} {W W' : World} {base size n : Nat} {e : TypeId} {v : Value} {xs : List Value} (h : Step B K W W') (hr : W.ownsRow base e size v n xs) (hK : ∀ k, K k → k < base) : W'.ownsRow base e size v n xs := by
  refine ⟨hr.1, ?_⟩
  rcases hr.2 with hn | ⟨g, cap, cur, rfl, hb, hg, rest⟩
  · exact .inl hn
  · exact .inr ⟨g, cap, cur, rfl, hb, h.same g _ hg (fun hk => by have := hK g hk; omega) (.inr rfl), rest⟩
theorem Step.cell {B : Nat} {K : Nat → Prop} {W W' : World} (h : Step B K W W') {b o : Nat} {v : Value} (hc : W.cell? ⟨b, o, none⟩ = some v) (hK : ¬ K b) (hb : b < B) : W'.cell? ⟨b, o, none⟩ = some v := by
  have hlt := World.block_lt_of_cell? W ⟨b, o, none⟩ hc
  have hs := h.same b _ (Array.getElem?_eq_getElem hlt) hK (.inl hb)
  rw [World.cell?_of_block (a := ⟨b, o, none⟩) (hs.trans (Array.getElem?_eq_getElem hlt).symm)]
  exact hc
theorem info_str : (Tryd.prog.info? 9).map (fun i => (i.zero, i.size, i.bytes)) = some (some (.string ⟨#[]⟩), 1, 16) := by kernel_rfl
/-- The string of flags. -/
def textB (f : Nat) : ByteArray := if eachL f = [] then ⟨#[45]⟩ else ⟨(Lib.join ((eachL f).map fun i => (nameOf i).data.toList) [44]).toArray⟩
def textR (f : Nat) : ByteArray × Int := if namedB f then (textB f, 0) else (⟨#[]⟩, 2)
def nameVs (l : List Nat) : List Value := l.map fun i => .string (nameOf i)
theorem nameVs_snoc (l : List Nat) (i : Nat) : nameVs (l ++ [i]) = nameVs l ++ [.string (nameOf i)] := by simp [nameVs]
/-- A function with one loop over a function leaves by a return. -/
theorem leave_mark {P : Program} {fn : Func} {tmps : Array Value} {v : Value} {R : Ending → World → Prop} {D : Nat} {W : World} (hK : W.heap[D]? = some (.deferred (some []))) (hres : ∀ w, (results fn tmps).run P w = .ok v w) (hR : R (.returned v) (W.putObj D (.deferred none))) :
    bodyPostM Fence.wide 0 P fn R .ret { tmps := tmps, defers := [{ target := .collected D, args := #[] }] } W :=
  ⟨by simp, .inl ⟨_, _, rfl, run_takeDeferred hK, _, hres _, hR⟩⟩
theorem ext_put {w W : World} {D : Nat} (h : Ext w W) (hD : w.heap.size ≤ D) (o o' : Obj) (hK : W.heap[D]? = some o) (ho : o.isCells = false) : Ext w (W.putObj D o') :=
  (Step.put (K := fun _ => False) o' hD hK ho).ext h (Nat.le_refl _) (fun _ h => h.elim)
theorem row_cells {W : World} {base n : Nat} {e : TypeId} {g cap : Nat} {xs : List Value} (h : W.ownsRow base e 1 (.slice (some ⟨g, 0, none⟩) n cap) n xs) : (∀ (j : Nat) x, xs[j]? = some x → W.cell? ⟨g, 0 + j, none⟩ = some x) ∧ g < W.heap.size ∧ n ≤ cap := by
  rcases h.2 with ⟨h0, _⟩ | ⟨g', cap', cur, heq, hb, hg, hle, hcap, hs, ht⟩
  · cases h0
  · cases heq
    refine ⟨fun j x hx => ?_, lt_of_get hg, hle⟩
    rw [← ht, List.getElem?_take] at hx
    by_cases hj : j < n * 1
    · rw [if_pos hj] at hx
      simpa [World.cell?, hg] using hx
    · rw [if_neg hj] at hx; cases hx
def TextPost (f : Nat) (w : World) (e : Ending) (w' : World) : Prop := e = .returned (.tuple #[.string (textR f).1, .int .i64 (textR f).2]) ∧ Ext w w'
theorem text_no (f : Nat) (hf : f < 4294967296) (hn : namedB f = false) (w : World) : Calls Tryd.prog 17 #[.int .u32 (f : Int)] w (TextPost f w) := by
  have ht : textR f = (⟨#[]⟩, 2) := by unfold textR; rw [hn]; rfl
  have HT := Lib.hid ht
  clear ht
  go_enter Tryd.func17, Tryd.ntmps17
  go_wp2_with (first | (go_at_call 39; refine (named_any f hf _).mono ?_; rintro e w1 ⟨rfl, hx1⟩; rw [hn]))
  go_ret2
  unfold TextPost
  rw [HT.out]
  exact ⟨rfl, hx1⟩
theorem tab_lt {w : World} (h : TabAt 0 Lib.deBruijn32tab w) : 0 < w.heap.size := World.block_lt_of_cell? w ⟨0, 0, none⟩ (h 0 (by decide))
theorem textL_len (l : List Nat) : (l.map fun i => (nameOf i).data.toList).length = l.length := by simp
theorem eachL_len (f : Nat) : (eachL f).length ≤ 32 := by
  have := List.length_filter_le (eachP f) (List.range 32)
  simpa [eachL, eachK] using this
theorem nameOf_le (i : Nat) : (nameOf i).data.toList.length ≤ 16 := by
  unfold nameOf nameO
  cases h : nameT.find? (fun p => p.1 == (i : Int)) with
  | none => simp
  | some p =>
    have hm := List.mem_of_find?_eq_some h
    have : ∀ p ∈ nameT, p.2.data.toList.length ≤ 16 := by decide
    simpa using this p hm
theorem join_len : ∀ (l : List (List UInt8)), (∀ x ∈ l, x.length ≤ 16) → (Lib.join l [44]).length ≤ 17 * l.length := by
  intro l
  induction l with
  | nil => intro _; simp [Lib.join]
  | cons x l ih =>
    intro h
    have h1 := h x (by simp)
    have h2 := ih (fun y hy => h y (by simp [hy]))
    cases l with
    | nil => simp [Lib.join]; omega
    | cons y l => simp [Lib.join] at h2 ⊢; omega
set_option maxRecDepth 100000 in
set_option maxHeartbeats 3200000 in
theorem text_yes (f : Nat) (hf : f < 4294967296) (hn : namedB f = true) (w : World) (hT : TabAt 0 Lib.deBruijn32tab w) : Calls Tryd.prog 17 #[.int .u32 (f : Int)] w (TextPost f w) := by
  have ht : textR f = (textB f, 0) := by unfold textR; rw [hn]; rfl
  have HTX := Lib.hid ht
  have HT := Lib.hid hT
  clear ht hT
  obtain ⟨i0, hi, hz0, hz1, hz2⟩ := info_parts info_str
  refine (callsIn_wide (n := 0)).1 (callsIn_of_wp_marks Tryd.func17 rfl trivial ?_ rfl)
  simp only [Tryd.ntmps17, List.size_toArray, List.length_cons, List.length_nil, Nat.reduceAdd, Nat.reduceSub, Array.replicate_succ, Array.replicate_zero, List.push_toArray, List.append_toArray, List.nil_append, List.cons_append]
  refine wpIn_wide.2 ?_
  go_wp2_with (first | (go_at_call 39; refine (named_any f hf _).mono ?_; rintro e w1 ⟨rfl, hx1⟩; rw [hn]) | (go_at_call 22; refine (each_any f _).mono ?_; rintro e w2 ⟨rfl, rfl⟩))
  have bO := (Boxed.new w1 70 (.slice none 0 0)).alloc (.cells #[.int .u32 (f : Int)] 24)
  have bF := (Boxed.new (w1.alloc (.cells #[.slice none 0 0] 70)) 24 (.int .u32 (f : Int))).cell
  rw [World.size_alloc] at bF
  have hx2 := ((hx1.alloc (.cells #[.slice none 0 0] 70)).alloc (.cells #[.int .u32 (f : Int)] 24))
  have hsz : ((w1.alloc (.cells #[.slice none 0 0] 70)).alloc (.cells #[.int .u32 (f : Int)] 24)).heap.size = w1.heap.size + 2 := by simp
  have hw1 := hx1.sz
  generalize (w1.alloc (.cells #[.slice none 0 0] 70)).alloc (.cells #[.int .u32 (f : Int)] 24) = W0 at *
  have hT0 := TabAt.ext HT.out hx2
  have hd := tab_lt HT.out
  refine wp_range (gf := 43) (lb := #[.pointer (some ⟨w1.heap.size + 1, 0, none⟩)]) rfl (enters_of Tryd.func43 (by kernel_rfl) rfl) (each_seq f hf W0 (w1.heap.size + 1) bF hT0) (fun _ => rfl) (fun _ h => h.elim) (fun k hk => by subst hk; have := hx2.sz; omega)
    (fun pre W => (∃ v, Boxed W w1.heap.size 70 v ∧ W.ownsRow w1.heap.size 9 1 v pre.length (nameVs pre) ∧ (v = .slice none 0 0 ↔ pre = [])) ∧ Ext w W)
    (fun _ _ _ => False)
    (fun s W W' h ⟨⟨v, h1, h2, h3⟩, h4⟩ => ⟨⟨v, h.boxed h1 (fun h => h), h.row h2 (fun _ h => h.elim), h3⟩, h.ext h4 (by omega) (fun _ h => h.elim)⟩)
    (fun _ _ _ _ _ h => h)
    ⟨⟨_, bO, World.ownsRow_nil _ _ _ _, by simp⟩, hx2⟩
    (fun x a' _ => a' = { tmps := #[.int .u32 (f : Int), undef, .string ⟨#[]⟩, .int .i64 0, .pointer (some ⟨w1.heap.size, 0, none⟩), undef, .string (nameOf x), .int .u32 (f : Int), .bool true, .bool false, .int .u32 (f : Int), .func (.func 43) #[] #[.pointer (some ⟨w1.heap.size + 1, 0, none⟩)], .int .u32 ((2 ^ x : Nat) : Int), .string (nameOf x), undef, undef, undef, undef, undef, undef, undef, undef, undef], defers := [] })
    (fun _ _ _ _ _ h => h) ?assign ?body ?done ?stop
  case assign =>
    intro l pre x W K hI hK
    unfold encF
    gi_wp2
    exact hK _ _ (RoundKeeps.refl _ _ _) hI rfl
  case body =>
    rintro l pre x a' W hl hr ⟨⟨v, hv, hrow, hnil⟩, hB⟩ rfl hpre
    have hc := hv.cell
    have hlt := hv.lt
    have hplen : pre.length ≤ 32 := by have := hpre.length_le; have := eachL_len f; simp at *; omega
    gi_wp2_with (gi_at_builtin; refine wpListIn_append_own _ rfl _ _ 70 rfl w1.heap.size 9 i0 (.string ⟨#[]⟩) 1 16 Tryd.underlying70 hi hz0 hz1 hz2 rfl (by decide) _ _ _ rfl (hrow.alloc _) ⟨W.heap.size, 0, none⟩ 1 1 [.string (nameOf x)] rfl rfl (cell_one_new _ _ _) (by simp [Value.oneCell']) (by unfold maxLen; omega) (by omega) (by simp; omega) ?_; intro v' w3 hown' hgrow _; obtain ⟨g', cap', rfl⟩ := ownsRow_succ hown'; obtain ⟨hv1, hv2, hr2, hk2, hb2⟩ := hv.appended (by decide) hrow (by omega) (Nat.le_refl _) hown' hgrow; have hc1 := hv1.cell; have hf1 := hv1.frozen)
    exact ⟨⟨fun k o hk _ ho => hk2.same k o hk ho, fun k hk => by subst hk; exact hb2.block _ (by omega)⟩, ⟨_, hv2, by rw [nameVs_snoc]; simpa using hr2, by simp⟩, Below.trans hB (hb2.mono hw1)⟩
  case done =>
    rintro D W hD ⟨⟨v, hv, hrow, hnil⟩, hB⟩ hK
    have hc := hv.cell
    by_cases he : eachL f = []
    · have hv0 := hnil.2 he
      subst hv0
      go_wp2
      refine leave_mark hK (fun w => results_tmp2 rfl _ _ w) ?_
      unfold TextPost
      rw [HTX.out, textB, if_pos he]
      exact ⟨rfl, ext_put hB (by omega) _ _ hK rfl⟩
    · obtain ⟨n, hn1⟩ : ∃ n, (eachL f).length = n + 1 := ⟨(eachL f).length - 1, by have := List.length_pos_iff.2 he; omega⟩
      rw [hn1] at hrow
      obtain ⟨g', cap', rfl⟩ := ownsRow_succ hrow
      have hlen2 : ((((n + 1 : Nat) : Int)) == 0) = false := by simp; omega
      obtain ⟨hcells, hbk, hcap⟩ := row_cells hrow
      have hj := Tryd.strings_Join g' 0 cap' ((eachL f).map nameOf) ⟨#[44]⟩ W (fun j x hx => hcells j _ (by rw [nameVs, List.getElem?_map]; rw [List.getElem?_map] at hx; cases h : (eachL f)[j]? with | none => rw [h] at hx; simp at hx | some y => rw [h] at hx; simp at hx; simp [hx])) hbk
        (by rw [List.length_map]; have := eachL_len f; omega) (by rw [List.length_map, hn1]; exact hcap)
        (Nat.le_trans (join_len _ (by intro x hx; rw [List.mem_map] at hx; obtain ⟨y, hy, rfl⟩ := hx; rw [List.mem_map] at hy; obtain ⟨i, _, rfl⟩ := hy; exact nameOf_le i)) (by rw [List.length_map, List.length_map]; have := eachL_len f; omega))
      rw [List.length_map, hn1] at hj
      have HJ := Lib.hid hj
      clear hj hcells
      go_wp2_with (go_at_call 40; (with_reducible refine HJ.out.mono ?_); rintro e w4 ⟨rfl, hx4⟩)
      refine leave_mark ((hx4.block D (lt_of_get hK)).trans hK) (fun w => results_tmp2 rfl _ _ w) ?_
      unfold TextPost
      rw [HTX.out, textB, if_neg he]
      refine ⟨by simp [Function.comp_def], ext_put (Ext.trans hB hx4) (by omega) _ _ ((hx4.block D (lt_of_get hK)).trans hK) rfl⟩
  case stop =>
    rintro D c pre W _ _ h _
    exact h.elim
theorem text_any (f : Nat) (hf : f < 4294967296) (w : World) (hT : TabAt 0 Lib.deBruijn32tab w) : Calls Tryd.prog 17 #[.int .u32 (f : Int)] w (TextPost f w) := by
  cases hn : namedB f
  · exact text_no f hf hn w
  · exact text_yes f hf hn w hT
end Go.Proofs.YtbgiciijiopklaaDoor
