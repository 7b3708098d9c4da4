/- Small laws on slices of the call's own, used by the walks of this seat. No condition. -/
import Derived.Test.YtdpjkocpdomkbaaGreatDoorLib
import Derived.Lib.LaidTab
import Derived.Lib.SmallJoins
namespace Go.Proofs.YtdpjkocpdomkbaaGreatDoor
open Go.RowKit
theorem own_ext {w w' : World} {B e size n : Nat} {v : Value} {xs : List Value} (h : w.ownsRow B e size v n xs) (hb : Ext w w') : w'.ownsRow B e size v n xs := by
  refine ⟨h.1, ?_⟩
  rcases h.2 with hn | ⟨g, cap, cur, rfl, hg, hgg, rest⟩
  · exact .inl hn
  · exact .inr ⟨g, cap, cur, rfl, hg, by rw [Below.block hb g (Array.getElem?_eq_some_iff.1 hgg).1]; exact hgg, rest⟩
/-- An append to a slice of the call's own leaves the world before as it was. -/
theorem Ext.grown {a b c : World} {B e size n : Nat} {v : Value} {xs : List Value} (h : Ext a b) (hB : a.heap.size ≤ B) (ho : b.ownsRow B e size v n xs) (hg : b.grownBy c v.ownBlock) : Ext a c :=
  Below.grown h hg (Ext.sz h) (fun k hk => Nat.le_trans hB (ho.lt k hk).1)
/-- A table of the program's stays what it is. -/
theorem Ext.tab {a b : World} {P : Program} {g : Nat} {n : String} {k : IntKind} {zs : List Int} (h : Ext a b) (hg : P.globalNamed n = some g) (ht : Lib.TabIs P a n k zs) : Lib.TabIs P b n k zs :=
  Joins.tab_stays hg ht h (Nat.le_refl _)
theorem ownsRow_some {w : World} {B e size n : Nat} {v : Value} {xs : List Value} (h : w.ownsRow B e size v n xs) (hn : 0 < n) :
    ∃ g cap, v = .slice (some ⟨g, 0, none⟩) n cap ∧ g < w.heap.size ∧ B ≤ g ∧ n ≤ cap ∧ cap ≤ maxLen := by
  rcases h.2 with ⟨_, hz⟩ | ⟨g, cap, cur, rfl, hg, hgg, hc, hm, rest⟩
  · omega
  · exact ⟨g, cap, rfl, (Array.getElem?_eq_some_iff.1 hgg).1, hg, hc, hm⟩
end Go.Proofs.YtdpjkocpdomkbaaGreatDoor
