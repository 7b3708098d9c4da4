/- What the rows' list gives: the table of the lowest bits. A world for the witness. Structs of ints by value, opened and shut. -/
import Derived.Test.YtbgiciijiopklaaDoorCards
import Derived.Test.YtbgiciijiopklaaDoorTie
import Derived.Test.YtbgiciijiopklaaDoorLib
import Derived.Shelf.Spec.TrailingZeros
import Derived.WalkKit
import Derived.ProofKit
import Derived.OpenShut
import Derived.Deep.DeepHandedRow
import Derived.Lib.LaidTab
import Derived.Lib.SmallJoins
import Derived.Lib.ItoaLen
import Derived.Stop.LaidErr
namespace Go.Proofs.YtbgiciijiopklaaDoor
open Go.Shelf Go.Joins Go.Deep Go.ChangeShapes Go.WideShapes Go.ChangeAt Go.RowKit
theorem own : ownKnob Tryd.prog.godebug = none := by kernel_rfl
theorem d32_gT : Tryd.prog.globalNamed "math/bits.deBruijn32tab" = some 0 := by kernel_rfl
theorem d32_tyT : (Tryd.prog.globals[0]?).map (·.type) = some 106 := by kernel_rfl
theorem cells_a32T : Tryd.prog.cellsOf 106 = 32 := by kernel_rfl
theorem cells_u8T' : Tryd.prog.cellsOf 5 = 1 := by kernel_rfl
theorem table_of {W : World} {rest : List (String × DataW Unit)} (h : laidMet Tryd.prog (("math/bits.deBruijn32tab", Rows.laid_math_bits_deBruijn32tab) :: rest) W) : TabAt 0 Lib.deBruijn32tab W := by
  have ht : Lib.TabIs Tryd.prog W "math/bits.deBruijn32tab" .u8 (Lib.deBruijn32tab.map fun n => ((n : Nat) : Int)) := Lib.tabIs_of_head (rest := rest) d32_gT d32_tyT Tryd.underlying106 Tryd.underlying5 cells_u8T' cells_a32T h
  intro j hj
  rw [Lib.TabIs.cell ht d32_gT j (by rw [List.length_map]; exact hj)]
  rw [List.getD_eq_getElem?_getD, List.getElem?_map, List.getElem?_eq_getElem hj, List.getD_eq_getElem?_getD, List.getElem?_eq_getElem hj]
  rfl
theorem u32_of_wf {z : Int} (h : (Lit.int .u32 z).wf = true) : ∃ f : Nat, z = f ∧ f < 4294967296 := by
  have h1 : IntKind.u32.min ≤ z ∧ z ≤ IntKind.u32.max := by simpa [Lit.wf] using h
  have h2 : (0 : Int) ≤ z ∧ z ≤ 4294967295 := h1
  exact ⟨z.toNat, by omega, by omega⟩
/-- The settled world, the tables holding what their initialisers lay. -/
noncomputable def laidWorld (os : Os) : World :=
  { World.holding Tryd.prog os ⟨#[], #[], []⟩ with heap := ((((World.holding Tryd.prog os ⟨#[], #[], []⟩).heap.modify 0 (fun
      | .cells _ t frozen => .cells #[.int .u8 0, .int .u8 1, .int .u8 28, .int .u8 2, .int .u8 29, .int .u8 14, .int .u8 24, .int .u8 3, .int .u8 30, .int .u8 22, .int .u8 20, .int .u8 15, .int .u8 25, .int .u8 17, .int .u8 4, .int .u8 8, .int .u8 31, .int .u8 27, .int .u8 13, .int .u8 23, .int .u8 21, .int .u8 19, .int .u8 16, .int .u8 7, .int .u8 26, .int .u8 12, .int .u8 18, .int .u8 6, .int .u8 11, .int .u8 5, .int .u8 10, .int .u8 9] t frozen
      | o => o)).modify 3 (fun
      | .cells _ t frozen => .cells #[.int .u8 128, .int .u8 191, .int .u8 160, .int .u8 191, .int .u8 128, .int .u8 159, .int .u8 144, .int .u8 191, .int .u8 128, .int .u8 143, .int .u8 0, .int .u8 0, .int .u8 0, .int .u8 0, .int .u8 0, .int .u8 0, .int .u8 0, .int .u8 0, .int .u8 0, .int .u8 0, .int .u8 0, .int .u8 0, .int .u8 0, .int .u8 0, .int .u8 0, .int .u8 0, .int .u8 0, .int .u8 0, .int .u8 0, .int .u8 0, .int .u8 0, .int .u8 0] t frozen
      | o => o)).modify 2 (fun
      | .cells _ t frozen => .cells (Go.Pinned.utf8FirstZ.map fun (n : Nat) => Value.int .u8 n).toArray t frozen
      | o => o)) }
theorem ext_frozen {w w' : World} (h : Ext w w') : ∀ p, p.block < w.heap.size → w'.frozen? p = w.frozen? p := fun _ hp => Below.frozen h hp
/-- What the row asks behind a call that only makes new memory. -/
theorem post_of_ext {H : Type} {enc : TypeId × Value → H} {P : Program} {f : Func} {s : ChangeSpec} {apart fresh handsOn again : Bool} {W W' : World} {args : Array Value} {v : Value} {ds gs : List (DataW H)} {before pa pv : List MemPlace}
    (hW : DataW.Whole enc P f.params.toList s.vars apart W args.toList ds gs before)
    (hres : ∀ (b : Nat) (sp : Nat → Bool) (hd : Bool), DataW.TrodAll enc P W' b sp hd f.resultTypes.toList (v.resultList f.resultTypes.size) (s.fn H (ds ++ gs)).results [])
    (hargs : ∀ sp : Nat → Bool, (∀ p ∈ before, sp p.block = true) → DataW.TrodAll enc P W' 0 sp true f.params.toList args.toList (s.fn H (ds ++ gs)).args pa)
    (hvars : ∀ sp : Nat → Bool, (∀ p ∈ before, sp p.block = true) → DataW.TrodVars enc P W' sp s.vars (s.fn H (ds ++ gs)).vars pv)
    (hps : before = pa ++ pv) (hg : Ext W W')
    (hok : ∀ (j : Nat) (t : TypeId) (r : Value), f.resultTypes[j]? = some t → (v.resultList f.resultTypes.size)[j]? = some r → Value.okWide P W' .any 0 t r) :
    s.post enc P f apart fresh handsOn again W args v W' := by
  have hold : ∀ p ∈ before, (fun b => decide (b < W.heap.size)) p.block = true := fun p hp => by simpa using hW.lt p hp
  refine ⟨ds, gs, before, [], pa, pv, hW, hres _ _ _, hargs _ hold, hvars _ hold, World.keptBut_mono (fun p hp => ⟨hp, ?_⟩) (Below.frame hg (· ∈ before)), fun _ => ?_⟩
  · rw [hps, List.mem_append] at hp
    exact Or.inr hp
  · have hlt := hW.lt
    obtain ⟨_, _, _, _, _, hz, hn⟩ := hW
    refine ⟨hok, _, _, ([] ++ pa) ++ pv, ⟨[] ++ pa, pv, trodAll_append (hargs _ (fun _ _ => rfl)) (hres _ _ _), hvars _ (fun _ _ => rfl), rfl, ?_, ?_⟩, ?_⟩
    · intro b off hp
      have hp' : MemPlace.cell b off ∈ before := by rw [hps]; simpa using hp
      rw [ext_frozen hg _ (hlt _ hp')]
      exact hz b off hp'
    · intro ha
      have := hn ha
      rw [hps] at this
      simpa using this
    · intro p hp _
      rw [hps]
      simpa using hp
section
variable {P : Program} {w : World} {H : Type} {enc : TypeId × Value → H} {base : Nat} {spare : Nat → Bool} {held : Bool}
theorem trod_i64 {n t : Nat} {v : Value} {y : DataW H × List MemPlace} (ht : P.underlying t = some (.int .i64)) (h : DataW.trod enc P w base spare held n t [v] = some y) : ∃ z, v = .int .i64 z ∧ y = (.lit (.int .i64 z), []) ∧ (Lit.int .i64 z).wf = true := by
  obtain ⟨z, h0, h1, h2⟩ := DataW.trod_int ht h
  exact ⟨z, by simpa using h0, h1, h2⟩
theorem trod_i64_mk {t : Nat} {z : Int} (ht : P.underlying t = some (.int .i64)) (h : (Lit.int .i64 z).wf = true) : ∃ n, DataW.trod enc P w base spare held n t [.int .i64 z] = some (.lit (.int .i64 z), []) :=
  shut_int ht h
theorem open_i2 {r : Reach} {b0 t : Nat} {f0 f1 : Field} {v : Value} {d : DataW H} {p : List MemPlace} (hs : P.underlying t = some (.struct #[f0, f1])) (hone : oneCellFields P #[f0, f1] = true) (hC : P.cellsOf t = 2) (u0 : P.underlying f0.type = some (.int .i64)) (u1 : P.underlying f1.type = some (.int .i64)) (hv : Value.okWide P w r b0 t v) (h : DataW.Trod enc P w base spare held t v d p) :
    ∃ z0 z1 : Int, v = .agg #[.int .i64 z0, .int .i64 z1] ∧ d = .agg [.lit (.int .i64 z0), .lit (.int .i64 z1)] ∧ p = [] ∧ (Lit.int .i64 z0).wf = true ∧ (Lit.int .i64 z1).wf = true := by
  obtain ⟨v0, v1, y0, y1, n, rfl, rfl, rfl, t0, t1⟩ := open_agg2 hs hone hC hv h
  obtain ⟨z0, rfl, rfl, w0⟩ := trod_i64 u0 t0
  obtain ⟨z1, rfl, rfl, w1⟩ := trod_i64 u1 t1
  exact ⟨z0, z1, rfl, rfl, rfl, w0, w1⟩
theorem shut_i2 {t : Nat} {f0 f1 : Field} {z0 z1 : Int} (hs : P.underlying t = some (.struct #[f0, f1])) (hone : oneCellFields P #[f0, f1] = true) (hC : P.cellsOf t = 2) (u0 : P.underlying f0.type = some (.int .i64)) (u1 : P.underlying f1.type = some (.int .i64)) (w0 : (Lit.int .i64 z0).wf = true) (w1 : (Lit.int .i64 z1).wf = true) : DataW.Trod enc P w base spare held t (.agg #[.int .i64 z0, .int .i64 z1]) (.agg [.lit (.int .i64 z0), .lit (.int .i64 z1)]) [] :=
  shut_agg2 hs hone hC (trod_i64_mk u0 w0) (trod_i64_mk u1 w1)
theorem open_i3 {r : Reach} {b0 t : Nat} {f0 f1 f2 : Field} {v : Value} {d : DataW H} {p : List MemPlace} (hs : P.underlying t = some (.struct #[f0, f1, f2])) (hone : oneCellFields P #[f0, f1, f2] = true) (hC : P.cellsOf t = 3) (u0 : P.underlying f0.type = some (.int .i64)) (u1 : P.underlying f1.type = some (.int .i64)) (u2 : P.underlying f2.type = some (.int .i64)) (hv : Value.okWide P w r b0 t v) (h : DataW.Trod enc P w base spare held t v d p) :
    ∃ z0 z1 z2 : Int, v = .agg #[.int .i64 z0, .int .i64 z1, .int .i64 z2] ∧ d = .agg [.lit (.int .i64 z0), .lit (.int .i64 z1), .lit (.int .i64 z2)] ∧ p = [] ∧ (Lit.int .i64 z0).wf = true ∧ (Lit.int .i64 z1).wf = true ∧ (Lit.int .i64 z2).wf = true := by
  obtain ⟨v0, v1, v2, y0, y1, y2, n, rfl, rfl, rfl, t0, t1, t2⟩ := open_agg3 hs hone hC hv h
  obtain ⟨z0, rfl, rfl, w0⟩ := trod_i64 u0 t0
  obtain ⟨z1, rfl, rfl, w1⟩ := trod_i64 u1 t1
  obtain ⟨z2, rfl, rfl, w2⟩ := trod_i64 u2 t2
  exact ⟨z0, z1, z2, rfl, rfl, rfl, w0, w1, w2⟩
theorem shut_i3 {t : Nat} {f0 f1 f2 : Field} {z0 z1 z2 : Int} (hs : P.underlying t = some (.struct #[f0, f1, f2])) (hone : oneCellFields P #[f0, f1, f2] = true) (hC : P.cellsOf t = 3) (u0 : P.underlying f0.type = some (.int .i64)) (u1 : P.underlying f1.type = some (.int .i64)) (u2 : P.underlying f2.type = some (.int .i64)) (w0 : (Lit.int .i64 z0).wf = true) (w1 : (Lit.int .i64 z1).wf = true) (w2 : (Lit.int .i64 z2).wf = true) : DataW.Trod enc P w base spare held t (.agg #[.int .i64 z0, .int .i64 z1, .int .i64 z2]) (.agg [.lit (.int .i64 z0), .lit (.int .i64 z1), .lit (.int .i64 z2)]) [] :=
  shut_agg3 hs hone hC (trod_i64_mk u0 w0) (trod_i64_mk u1 w1) (trod_i64_mk u2 w2)
theorem open_i4 {r : Reach} {b0 t : Nat} {f0 f1 f2 f3 : Field} {v : Value} {d : DataW H} {p : List MemPlace} (hs : P.underlying t = some (.struct #[f0, f1, f2, f3])) (hone : oneCellFields P #[f0, f1, f2, f3] = true) (hC : P.cellsOf t = 4) (u0 : P.underlying f0.type = some (.int .i64)) (u1 : P.underlying f1.type = some (.int .i64)) (u2 : P.underlying f2.type = some (.int .i64)) (u3 : P.underlying f3.type = some (.int .i64)) (hv : Value.okWide P w r b0 t v) (h : DataW.Trod enc P w base spare held t v d p) :
    ∃ z0 z1 z2 z3 : Int, v = .agg #[.int .i64 z0, .int .i64 z1, .int .i64 z2, .int .i64 z3] ∧ d = .agg [.lit (.int .i64 z0), .lit (.int .i64 z1), .lit (.int .i64 z2), .lit (.int .i64 z3)] ∧ p = [] ∧ (Lit.int .i64 z0).wf = true ∧ (Lit.int .i64 z1).wf = true ∧ (Lit.int .i64 z2).wf = true ∧ (Lit.int .i64 z3).wf = true := by
  obtain ⟨v0, v1, v2, v3, y0, y1, y2, y3, n, rfl, rfl, rfl, t0, t1, t2, t3⟩ := open_agg4 hs hone hC hv h
  obtain ⟨z0, rfl, rfl, w0⟩ := trod_i64 u0 t0
  obtain ⟨z1, rfl, rfl, w1⟩ := trod_i64 u1 t1
  obtain ⟨z2, rfl, rfl, w2⟩ := trod_i64 u2 t2
  obtain ⟨z3, rfl, rfl, w3⟩ := trod_i64 u3 t3
  exact ⟨z0, z1, z2, z3, rfl, rfl, rfl, w0, w1, w2, w3⟩
theorem shut_i4 {t : Nat} {f0 f1 f2 f3 : Field} {z0 z1 z2 z3 : Int} (hs : P.underlying t = some (.struct #[f0, f1, f2, f3])) (hone : oneCellFields P #[f0, f1, f2, f3] = true) (hC : P.cellsOf t = 4) (u0 : P.underlying f0.type = some (.int .i64)) (u1 : P.underlying f1.type = some (.int .i64)) (u2 : P.underlying f2.type = some (.int .i64)) (u3 : P.underlying f3.type = some (.int .i64)) (w0 : (Lit.int .i64 z0).wf = true) (w1 : (Lit.int .i64 z1).wf = true) (w2 : (Lit.int .i64 z2).wf = true) (w3 : (Lit.int .i64 z3).wf = true) : DataW.Trod enc P w base spare held t (.agg #[.int .i64 z0, .int .i64 z1, .int .i64 z2, .int .i64 z3]) (.agg [.lit (.int .i64 z0), .lit (.int .i64 z1), .lit (.int .i64 z2), .lit (.int .i64 z3)]) [] :=
  shut_agg4 hs hone hC (trod_i64_mk u0 w0) (trod_i64_mk u1 w1) (trod_i64_mk u2 w2) (trod_i64_mk u3 w3)
end
end Go.Proofs.YtbgiciijiopklaaDoor
