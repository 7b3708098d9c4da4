/- Maps of ints that a function makes by a list of stores; a look-up. -/
import Derived.Test.YtbgiciijiopklaaDoorLib
import Derived.MapKept
import Derived.Carry
import Derived.WalkKit
import Derived.Maps.Own
import Derived.RangeFuncNested
namespace Go.Proofs.YtbgiciijiopklaaDoor
open Go.RowKit
def entsL (l : List (Int × Value)) (i : Nat) : List MapEntry := match l with | [] => [] | p :: l => { key := .int .i64 p.1, val := p.2, born := i } :: entsL l (i + 1)
theorem entsL_snoc (l : List (Int × Value)) (p : Int × Value) : ∀ i, entsL (l ++ [p]) i = entsL l i ++ [{ key := .int .i64 p.1, val := p.2, born := i + l.length }] := by
  induction l with
  | nil => intro i; simp [entsL]
  | cons q l ih => intro i; simp [entsL, ih]; omega
def mapObj (l : List (Int × Value)) : Obj := .map (entsL l 0).toArray l.length
theorem entsL_isEmpty (l : List (Int × Value)) (i : Nat) : (entsL l i).isEmpty = l.isEmpty := by cases l <;> rfl
theorem find_miss {k : Int} : ∀ (l : List (Int × Value)) (i j : Nat), (∀ p ∈ l, p.1 ≠ k) → Instr.findNow (.int .i64) (.int .i64 k) (entsL l i) j = some none := by
  intro l
  induction l with
  | nil => intro i j _; rfl
  | cons p l ih =>
    intro i j h
    have h1 : (k == p.1) = false := by have := h p (by simp); simp; omega
    simp only [entsL, Instr.findNow, Instr.sameNow, h1]
    exact ih _ _ (fun q hq => h q (by simp [hq]))
theorem find_hit {k : Int} {v : Value} : ∀ (l : List (Int × Value)) (i j : Nat), (l.find? (fun p => p.1 == k)).map (·.2) = some v → ∃ n, Instr.findNow (.int .i64) (.int .i64 k) (entsL l i) j = some (some (n, v)) := by
  intro l
  induction l with
  | nil => intro i j h; simp at h
  | cons p l ih =>
    intro i j h
    by_cases h1 : p.1 = k
    · subst h1
      simp at h
      subst h
      exact ⟨j, by simp [entsL, Instr.findNow, Instr.sameNow]⟩
    · have h2 : (k == p.1) = false := by simp; omega
      have h3 : (p.1 == k) = false := by simp; omega
      rw [List.find?_cons_of_neg (by simp [h3])] at h
      obtain ⟨n, hn⟩ := ih (i + 1) (j + 1) h
      exact ⟨n, by simp only [entsL, Instr.findNow, Instr.sameNow, h2]; exact hn⟩
theorem find_none {k : Int} (l : List (Int × Value)) (h : (l.find? (fun p => p.1 == k)).map (·.2) = none) : ∀ p ∈ l, p.1 ≠ k := by
  intro p hp e
  rw [Option.map_eq_none_iff, List.find?_eq_none] at h
  exact h p hp (by simp [e])
theorem run_upd {P : Program} {t kt et : TypeId} (ht : P.underlying t = some (.map kt et)) (hk : P.underlying kt = some (.int .i64)) (w : World) (l : List (Int × Value)) (k : Int) (s : Value) (hn : ∀ p ∈ l, p.1 ≠ k) :
    (Instr.mapUpdate t (.map (some w.heap.size)) (.int .i64 k) s).run P (w.alloc (mapObj l)) = .ok () (w.alloc (mapObj (l ++ [(k, s)]))) := by
  have hb : (w.alloc (mapObj l)).heap[w.heap.size]? = some (.map (entsL l 0).toArray l.length) := World.alloc_heap_new w _
  have hu : (underlying t).run P (w.alloc (mapObj l)) = .ok (.map kt et) (w.alloc (mapObj l)) := run_underlying ht _
  have hkk : MapKept.IsKey (.int .i64) (.int .i64 k) := rfl
  have hc := MapKept.run_checkKey (P := P) (w := w.alloc (mapObj l)) hk hkk false 9999
  have hf := MapKept.run_findKey (P := P) (w := w.alloc (mapObj l)) hk (find_miss l 0 0 hn)
  have hset : ({ (w.alloc (mapObj l)) with heap := (w.alloc (mapObj l)).heap.setIfInBounds w.heap.size (mapObj (l ++ [(k, s)])) } : World) = w.alloc (mapObj (l ++ [(k, s)])) := by
    have ha : (w.heap.push (mapObj l)).setIfInBounds w.heap.size (mapObj (l ++ [(k, s)])) = w.heap.push (mapObj (l ++ [(k, s)])) := by
      apply Array.ext_getElem?
      intro i
      rw [Array.getElem?_setIfInBounds, Array.getElem?_push, Array.getElem?_push]
      by_cases h : w.heap.size = i
      · subst h; simp
      · rw [if_neg h, if_neg (fun e => h e.symm), if_neg (fun e => h e.symm)]
    exact congrArg (fun h => ({ w with heap := h } : World)) ha
  unfold Instr.mapUpdate
  simp only [Sem.run_bind, hu, Result.andThen, MapKept.run_getObj_map hb, hc, hf, MapKept.run_setObj_map _ hb]
  rw [← hset]
  simp [mapObj, entsL_snoc]
theorem run_look {P : Program} {t kt et : TypeId} (ht : P.underlying t = some (.map kt et)) (hk : P.underlying kt = some (.int .i64)) (w : World) (b : Nat) (l : List (Int × Value)) (hb : w.heap[b]? = some (mapObj l)) (k : Int) (z : Value) (hz : (zeroValue et).run P w = .ok z w) :
    (Instr.lookup t (.map (some b)) (.int .i64 k) true).run P w = .ok (.tuple #[((l.find? (fun p => p.1 == k)).map (·.2)).getD z, .bool ((l.find? (fun p => p.1 == k)).map (·.2)).isSome]) w := by
  have hb' : w.heap[b]? = some (.map (entsL l 0).toArray l.length) := hb
  have hu : (underlying t).run P w = .ok (.map kt et) w := run_underlying ht _
  have hkk : MapKept.IsKey (.int .i64) (.int .i64 k) := rfl
  have hc := MapKept.run_checkKey (P := P) (w := w) hk hkk (entsL l 0).toArray.isEmpty 9999
  unfold Instr.lookup
  cases h : (l.find? (fun p => p.1 == k)).map (·.2) with
  | none =>
    have hf := MapKept.run_findKey (P := P) (w := w) hk (find_miss l 0 0 (find_none l h))
    simp only [Sem.run_bind, hu, Result.andThen, MapKept.run_getObj_map hb', hc, hf, hz, Sem.run_pure]
    simp
  | some v =>
    obtain ⟨n, hn⟩ := find_hit l 0 0 h
    have hf := MapKept.run_findKey (P := P) (w := w) hk hn
    simp only [Sem.run_bind, hu, Result.andThen, MapKept.run_getObj_map hb', hc, hf, Sem.run_pure]
    simp
theorem wpList_upd {P : Program} (w : World) {ops : Array Oper} {rest : List Oper} {o : Oper} {a : Act} {Q : Exit → Act → World → Prop}
    (hg : o.guard = none) (m x v : Operand) (t : TypeId) (hop : o.op = Op.mapUpdate t m x v) (kt et : TypeId) (ht : P.underlying t = some (.map kt et)) (hk : P.underlying kt = some (.int .i64)) (l : List (Int × Value)) (k : Int) (s : Value)
    (hm : a.eval m = .map (some w.heap.size)) (hx : a.eval x = .int .i64 k) (hv : a.eval v = s) (hn : ∀ p ∈ l, p.1 ≠ k)
    (hK : wpList P ops Q rest (a.put o.dst undef) (w.alloc (mapObj (l ++ [(k, s)])))) : wpList P ops Q (o :: rest) a (w.alloc (mapObj l)) := by
  refine wpList_plain hg fun K' hK' => ?_
  have hrun := run_upd ht hk w l k s hn
  unfold Oper.wp
  simp [execOp, hop, hm, hx, hv, hrun, Result.andThen]
  exact hK' _ _ hK
end Go.Proofs.YtbgiciijiopklaaDoor
