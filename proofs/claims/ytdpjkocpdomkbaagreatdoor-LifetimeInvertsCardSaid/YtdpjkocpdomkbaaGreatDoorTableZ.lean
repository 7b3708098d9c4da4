/- What the rows' list gives: the table of powers of ten, the library's variables. The witness starts in a world where the list is laid. Structs of ints by value, opened and shut. -/
import Derived.Test.YtdpjkocpdomkbaaGreatDoorCards
import Derived.Test.YtdpjkocpdomkbaaGreatDoorTie
import Derived.Test.YtdpjkocpdomkbaaGreatDoorLib
import Derived.Test.YtdpjkocpdomkbaaGreatDoorParse13
import Derived.WalkKit
import Derived.ProofKit
import Derived.OpenShut
import Derived.Deep.DeepHandedRow
import Derived.Deep.DeepWitnessRowRef
import Derived.Lib.LaidTab
import Derived.Lib.SmallJoins
import Derived.Lib.ItoaLen
import Derived.Stop.LaidErr
import Derived.Lay
import Derived.Shelf.Vars
namespace Go.Proofs.YtdpjkocpdomkbaaGreatDoor
open Go.Joins Go.Deep Go.ChangeShapes Go.WideShapes Go.ChangeAt Go.RowKit
theorem own : ownKnob Tryz.prog.godebug = none := by kernel_rfl
theorem pow10_gT : Tryz.prog.globalNamed "internal/strconv.uint64pow10" = some 2 := by kernel_rfl
theorem pow10_tyT : (Tryz.prog.globals[2]?).map (·.type) = some 149 := by kernel_rfl
theorem cells_a20T : Tryz.prog.cellsOf 149 = 20 := by kernel_rfl
theorem cells_u64T : Tryz.prog.cellsOf 123 = 1 := by kernel_rfl
theorem syn_g : Tryz.prog.globalNamed "strconv.ErrSyntax" = some 0 := by kernel_rfl
theorem syn_ty : (Tryz.prog.globals[0]?).map (·.type) = some 65 := by kernel_rfl
theorem rng_g : Tryz.prog.globalNamed "strconv.ErrRange" = some 1 := by kernel_rfl
theorem rng_ty : (Tryz.prog.globals[1]?).map (·.type) = some 65 := by kernel_rfl
theorem cells_errs : Tryz.prog.cellsOf 157 = 1 := by kernel_rfl
theorem cells_str : Tryz.prog.cellsOf 9 = 1 := by kernel_rfl
theorem star : "*" ++ "errors.errorString" = "*errors.errorString" := by decide
theorem row_perr (u : TypeId) (h : Tryz.prog.typeName? 3 u = some "*errors.errorString") : u = 155 :=
  typeName_ptr_named (nm := "errors.errorString") (by rw [star]; kernel_rfl) (by kernel_rfl) (by decide) u (by rw [star]; exact h)
theorem table_of {W : World} (h : laidMet Tryz.prog Rows.lifetimeTextsRow.laid W) : Lib.TabIs Tryz.prog W "internal/strconv.uint64pow10" .u64 Lib.pow10Tab :=
  Lib.tabIs_of_head pow10_gT pow10_tyT Tryz.underlying149 Tryz.underlying123 cells_u64T cells_a20T (laidMet.tail (laidMet.tail h))
theorem vars_of {W : World} (h : laidMet Tryz.prog Rows.lifetimeTextsRow.laid W) (hS : W.ShapedOpen Tryz.prog) : VarsAt W := by
  have h4 := laidMet.tail (laidMet.tail (laidMet.tail (laidMet.tail h)))
  obtain ⟨a0, s0, hv0, _⟩ := laid_sentinel h4 rng_g rng_ty Tryz.underlying65 row_perr Tryz.underlying155 Tryz.underlying157 rfl rfl Tryz.underlying9 cells_errs cells_str
  obtain ⟨a1, s1, hv1, _⟩ := laid_sentinel (laidMet.tail h4) syn_g syn_ty Tryz.underlying65 row_perr Tryz.underlying155 Tryz.underlying157 rfl rfl Tryz.underlying9 cells_errs cells_str
  obtain ⟨m, hm⟩ := cell_of_shapedOpen_int (P := Tryz.prog) (g := 3) (t := 3) (zero := #[.int .i64 0]) hS (of_decide_eq_true (by kernel_rfl)) (by kernel_rfl) rfl (by kernel_rfl) (by kernel_rfl) Tryz.underlying3
  refine ⟨⟨_, (World.var?_cell syn_g hv1 0).trans rfl, .inr ⟨_, _, rfl⟩⟩, ⟨_, (World.var?_cell rng_g hv0 0).trans rfl, .inr ⟨_, _, rfl⟩⟩, m, hm⟩
noncomputable abbrev laidWorld (os : Os) : World := World.laidAll Tryz.prog os Rows.lifetimeTextsRow.laid
theorem ext_frozen {w w' : World} (h : Ext w w') : ∀ p, p.block < w.heap.size → w'.frozen? p = w.frozen? p := fun _ hp => Below.frozen h hp
/-- What the row asks behind a call that only makes new memory. -/
theorem post_of_ext {H : Type} {enc : TypeId × Value → H} {P : Program} {f : Func} {s : ChangeSpec} {apart fresh handsOn again : Bool} {W W' : World} {args : Array Value} {v : Value} {ds gs : List (DataW H)} {before pa pv : List MemPlace}
    (hW : DataW.Whole enc P f.params.toList s.vars apart W args.toList ds gs before)
    (hres : ∀ (b : Nat) (sp : Nat → Bool) (hd : Bool), DataW.TrodAll enc P W' b sp hd f.resultTypes.toList (v.resultList f.resultTypes.size) (s.fn H (ds ++ gs)).results [])
    (hargs : ∀ sp : Nat → Bool, (∀ p ∈ before, sp p.block = true) → DataW.TrodAll enc P W' 0 sp true f.params.toList args.toList (s.fn H (ds ++ gs)).args pa)
    (hvars : ∀ sp : Nat → Bool, (∀ p ∈ before, sp p.block = true) → DataW.TrodVars enc P W' sp s.vars (s.fn H (ds ++ gs)).vars pv)
    (hps : before = pa ++ pv) (hg : Ext W W')
    (hok : ∀ (j : Nat) (t : TypeId) (r : Value), f.resultTypes[j]? = some t → (v.resultList f.resultTypes.size)[j]? = some r → Value.okWide P W' .any 0 t r) :
    s.post enc P f apart fresh handsOn again W args v W' := by
  have hold : ∀ p ∈ before, (fun b => decide (b < W.heap.size)) p.block = true := fun p hp => by simpa using hW.lt p hp
  refine ⟨ds, gs, before, [], pa, pv, hW, hres _ _ _, hargs _ hold, hvars _ hold, World.keptBut_mono (fun p hp => ⟨hp, ?_⟩) (Below.frame hg (· ∈ before)), fun _ => ?_⟩
  · rw [hps, List.mem_append] at hp
    exact Or.inr hp
  · have hlt := hW.lt
    obtain ⟨_, _, _, _, _, hz, hn⟩ := hW
    refine ⟨hok, _, _, ([] ++ pa) ++ pv, ⟨[] ++ pa, pv, trodAll_append (hargs _ (fun _ _ => rfl)) (hres _ _ _), hvars _ (fun _ _ => rfl), rfl, ?_, ?_⟩, ?_⟩
    · intro b off hp
      have hp' : MemPlace.cell b off ∈ before := by rw [hps]; simpa using hp
      rw [ext_frozen hg _ (hlt _ hp')]
      exact hz b off hp'
    · intro ha
      have := hn ha
      rw [hps] at this
      simpa using this
    · intro p hp _
      rw [hps]
      simpa using hp
section
variable {P : Program} {w : World} {H : Type} {enc : TypeId × Value → H} {base : Nat} {spare : Nat → Bool} {held : Bool}
theorem trod_i64 {n t : Nat} {v : Value} {y : DataW H × List MemPlace} (ht : P.underlying t = some (.int .i64)) (h : DataW.trod enc P w base spare held n t [v] = some y) : ∃ z, v = .int .i64 z ∧ y = (.lit (.int .i64 z), []) ∧ (Lit.int .i64 z).wf = true := by
  obtain ⟨z, h0, h1, h2⟩ := DataW.trod_int ht h
  exact ⟨z, by simpa using h0, h1, h2⟩
theorem trod_i64_mk {t : Nat} {z : Int} (ht : P.underlying t = some (.int .i64)) (h : (Lit.int .i64 z).wf = true) : ∃ n, DataW.trod enc P w base spare held n t [.int .i64 z] = some (.lit (.int .i64 z), []) :=
  shut_int ht h
theorem open_i2 {r : Reach} {b0 t : Nat} {f0 f1 : Field} {v : Value} {d : DataW H} {p : List MemPlace} (hs : P.underlying t = some (.struct #[f0, f1])) (hone : oneCellFields P #[f0, f1] = true) (hC : P.cellsOf t = 2) (u0 : P.underlying f0.type = some (.int .i64)) (u1 : P.underlying f1.type = some (.int .i64)) (hv : Value.okWide P w r b0 t v) (h : DataW.Trod enc P w base spare held t v d p) :
    ∃ z0 z1 : Int, v = .agg #[.int .i64 z0, .int .i64 z1] ∧ d = .agg [.lit (.int .i64 z0), .lit (.int .i64 z1)] ∧ p = [] ∧ (Lit.int .i64 z0).wf = true ∧ (Lit.int .i64 z1).wf = true := by
  obtain ⟨v0, v1, y0, y1, n, rfl, rfl, rfl, t0, t1⟩ := open_agg2 hs hone hC hv h
  obtain ⟨z0, rfl, rfl, w0⟩ := trod_i64 u0 t0
  obtain ⟨z1, rfl, rfl, w1⟩ := trod_i64 u1 t1
  exact ⟨z0, z1, rfl, rfl, rfl, w0, w1⟩
theorem shut_i2 {t : Nat} {f0 f1 : Field} {z0 z1 : Int} (hs : P.underlying t = some (.struct #[f0, f1])) (hone : oneCellFields P #[f0, f1] = true) (hC : P.cellsOf t = 2) (u0 : P.underlying f0.type = some (.int .i64)) (u1 : P.underlying f1.type = some (.int .i64)) (w0 : (Lit.int .i64 z0).wf = true) (w1 : (Lit.int .i64 z1).wf = true) : DataW.Trod enc P w base spare held t (.agg #[.int .i64 z0, .int .i64 z1]) (.agg [.lit (.int .i64 z0), .lit (.int .i64 z1)]) [] :=
  shut_agg2 hs hone hC (trod_i64_mk u0 w0) (trod_i64_mk u1 w1)
theorem open_i3 {r : Reach} {b0 t : Nat} {f0 f1 f2 : Field} {v : Value} {d : DataW H} {p : List MemPlace} (hs : P.underlying t = some (.struct #[f0, f1, f2])) (hone : oneCellFields P #[f0, f1, f2] = true) (hC : P.cellsOf t = 3) (u0 : P.underlying f0.type = some (.int .i64)) (u1 : P.underlying f1.type = some (.int .i64)) (u2 : P.underlying f2.type = some (.int .i64)) (hv : Value.okWide P w r b0 t v) (h : DataW.Trod enc P w base spare held t v d p) :
    ∃ z0 z1 z2 : Int, v = .agg #[.int .i64 z0, .int .i64 z1, .int .i64 z2] ∧ d = .agg [.lit (.int .i64 z0), .lit (.int .i64 z1), .lit (.int .i64 z2)] ∧ p = [] ∧ (Lit.int .i64 z0).wf = true ∧ (Lit.int .i64 z1).wf = true ∧ (Lit.int .i64 z2).wf = true := by
  obtain ⟨v0, v1, v2, y0, y1, y2, n, rfl, rfl, rfl, t0, t1, t2⟩ := open_agg3 hs hone hC hv h
  obtain ⟨z0, rfl, rfl, w0⟩ := trod_i64 u0 t0
  obtain ⟨z1, rfl, rfl, w1⟩ := trod_i64 u1 t1
  obtain ⟨z2, rfl, rfl, w2⟩ := trod_i64 u2 t2
  exact ⟨z0, z1, z2, rfl, rfl, rfl, w0, w1, w2⟩
theorem shut_i3 {t : Nat} {f0 f1 f2 : Field} {z0 z1 z2 : Int} (hs : P.underlying t = some (.struct #[f0, f1, f2])) (hone : oneCellFields P #[f0, f1, f2] = true) (hC : P.cellsOf t = 3) (u0 : P.underlying f0.type = some (.int .i64)) (u1 : P.underlying f1.type = some (.int .i64)) (u2 : P.underlying f2.type = some (.int .i64)) (w0 : (Lit.int .i64 z0).wf = true) (w1 : (Lit.int .i64 z1).wf = true) (w2 : (Lit.int .i64 z2).wf = true) : DataW.Trod enc P w base spare held t (.agg #[.int .i64 z0, .int .i64 z1, .int .i64 z2]) (.agg [.lit (.int .i64 z0), .lit (.int .i64 z1), .lit (.int .i64 z2)]) [] :=
  shut_agg3 hs hone hC (trod_i64_mk u0 w0) (trod_i64_mk u1 w1) (trod_i64_mk u2 w2)
theorem open_i4 {r : Reach} {b0 t : Nat} {f0 f1 f2 f3 : Field} {v : Value} {d : DataW H} {p : List MemPlace} (hs : P.underlying t = some (.struct #[f0, f1, f2, f3])) (hone : oneCellFields P #[f0, f1, f2, f3] = true) (hC : P.cellsOf t = 4) (u0 : P.underlying f0.type = some (.int .i64)) (u1 : P.underlying f1.type = some (.int .i64)) (u2 : P.underlying f2.type = some (.int .i64)) (u3 : P.underlying f3.type = some (.int .i64)) (hv : Value.okWide P w r b0 t v) (h : DataW.Trod enc P w base spare held t v d p) :
    ∃ z0 z1 z2 z3 : Int, v = .agg #[.int .i64 z0, .int .i64 z1, .int .i64 z2, .int .i64 z3] ∧ d = .agg [.lit (.int .i64 z0), .lit (.int .i64 z1), .lit (.int .i64 z2), .lit (.int .i64 z3)] ∧ p = [] ∧ (Lit.int .i64 z0).wf = true ∧ (Lit.int .i64 z1).wf = true ∧ (Lit.int .i64 z2).wf = true ∧ (Lit.int .i64 z3).wf = true := by
  obtain ⟨v0, v1, v2, v3, y0, y1, y2, y3, n, rfl, rfl, rfl, t0, t1, t2, t3⟩ := open_agg4 hs hone hC hv h
  obtain ⟨z0, rfl, rfl, w0⟩ := trod_i64 u0 t0
  obtain ⟨z1, rfl, rfl, w1⟩ := trod_i64 u1 t1
  obtain ⟨z2, rfl, rfl, w2⟩ := trod_i64 u2 t2
  obtain ⟨z3, rfl, rfl, w3⟩ := trod_i64 u3 t3
  exact ⟨z0, z1, z2, z3, rfl, rfl, rfl, w0, w1, w2, w3⟩
theorem shut_i4 {t : Nat} {f0 f1 f2 f3 : Field} {z0 z1 z2 z3 : Int} (hs : P.underlying t = some (.struct #[f0, f1, f2, f3])) (hone : oneCellFields P #[f0, f1, f2, f3] = true) (hC : P.cellsOf t = 4) (u0 : P.underlying f0.type = some (.int .i64)) (u1 : P.underlying f1.type = some (.int .i64)) (u2 : P.underlying f2.type = some (.int .i64)) (u3 : P.underlying f3.type = some (.int .i64)) (w0 : (Lit.int .i64 z0).wf = true) (w1 : (Lit.int .i64 z1).wf = true) (w2 : (Lit.int .i64 z2).wf = true) (w3 : (Lit.int .i64 z3).wf = true) : DataW.Trod enc P w base spare held t (.agg #[.int .i64 z0, .int .i64 z1, .int .i64 z2, .int .i64 z3]) (.agg [.lit (.int .i64 z0), .lit (.int .i64 z1), .lit (.int .i64 z2), .lit (.int .i64 z3)]) [] :=
  shut_agg4 hs hone hC (trod_i64_mk u0 w0) (trod_i64_mk u1 w1) (trod_i64_mk u2 w2) (trod_i64_mk u3 w3)
end
end Go.Proofs.YtdpjkocpdomkbaaGreatDoor
