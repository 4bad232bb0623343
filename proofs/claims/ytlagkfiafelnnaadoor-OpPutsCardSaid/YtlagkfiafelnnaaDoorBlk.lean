/- A whole block loaded, a whole block stored: arrays by value. -/
import Derived.Test.YtlagkfiafelnnaaDoorFr
import Derived.Test.YtlagkfiafelnnaaDoorProg
import Derived.WalkKit
import Derived.KernelRfl
import Derived.RowKit3
import Derived.Deep.LoopGhost
import Derived.Deep.QuietTactic
import Derived.BigQuiet
import Derived.WideLaws
import Derived.Deep.RegionHeld3
import Derived.Deep.AppendLies
import Derived.Deep.MidRow
import Derived.Deep.DeepCutAuto
import Derived.RegionTactic
import Derived.BigRegion
import Derived.WalkSpells
import Derived.Outline
import Derived.Lib.Hide
import Derived.Laws.Rows
set_option linter.unusedVariables false
set_option linter.unusedSimpArgs false
namespace Go.Proofs.YtlagkfiafelnnaaDoor
open Go.RowKit Go.Proofs.YtlagkfiafelnnaaDoorW.PrintWords

theorem blk_store {w : World} {g : Nat} {cs cells : Array Value} {t : TypeId} (hg : w.heap[g]? = some (.cells cs t (0, 0))) (hs : cs.size = cells.size) :
    (w.setCells g 0 cells.toList).heap[g]? = some (.cells cells t (0, 0)) ∧ Fr (fun k => k = g) w (w.setCells g 0 cells.toList) := by
  obtain ⟨cur', h3, h4, h5⟩ := setCells_row cells.toList 0 w cs hg (by simp; omega)
  obtain ⟨s1, s2, s3, s4⟩ := setCells_same g cells.toList 0 w
  refine ⟨?_, ⟨s1, s2, s3, by rw [s4]; exact Nat.le_refl _, fun k _ hk => setCells_far _ _ k (fun e => hk (by simpa using e))⟩⟩
  rw [h3]
  congr 2
  apply Array.ext'
  rw [h5]
  simp [List.drop_eq_nil_of_le, hs]

section
variable {P : Program} {w : World} {ops : Array Oper} {rest : List Oper} {o : Oper} {a : Act} {Q : Exit → Act → World → Prop}
theorem wpList_store_blk (hgd : o.guard = none) (ty : TypeId) (x y : Operand) (ho : o.op = .store ty x y) (g : Nat) (cs cells : Array Value) (t : TypeId) (hx : a.eval x = .pointer (some ⟨g, 0, none⟩)) (hy : a.eval y = .agg cells)
    (hg : w.heap[g]? = some (.cells cs t (0, 0))) (hs : cs.size = cells.size) (hi : (P.info? ty).map (·.size) = some cells.size) (h1 : cells.all (·.oneCell') = true)
    (h : ∀ w', w'.heap[g]? = some (.cells cells t (0, 0)) → Fr (fun k => k = g) w w' → wpList P ops Q rest (a.put o.dst undef) w') : wpList P ops Q (o :: rest) a w := by
  refine wpList_store_mid hgd ty x y ho g 0 cells hx hy (fun j hj => ⟨?_, ?_⟩) hi h1 ?_
  · rw [Nat.zero_add, blk_cell hg j, Array.getElem?_eq_getElem (by omega)]
    rfl
  · rw [Nat.zero_add]
    exact blk_frozen hg j
  · obtain ⟨h2, h3⟩ := blk_store hg hs
    exact h _ h2 h3
end

end Go.Proofs.YtlagkfiafelnnaaDoor
