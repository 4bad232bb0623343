/- A variable of many cells that is made and stored into at once. -/
import Derived.Test.YtlagkfiafelnnaaDoorReg
import Derived.Laws.NewBlocks
set_option linter.unusedVariables false
set_option linter.unusedSimpArgs false
namespace Go.Proofs.YtlagkfiafelnnaaDoor
open Go.RowKit Go.Proofs.YtlagkfiafelnnaaDoorW.PrintWords

def setMany (C : Array Value) : Nat → List Value → Array Value
  | _, [] => C
  | o, v :: vs => setMany (C.setIfInBounds o v) (o + 1) vs
theorem setMany_size : ∀ (vs : List Value) (o : Nat) (C : Array Value), (setMany C o vs).size = C.size
  | [], _, _ => rfl
  | v :: vs, o, C => by unfold setMany; rw [setMany_size vs]; simp
theorem setMany_at : ∀ (vs : List Value) (o : Nat) (C : Array Value) (i : Nat), o + vs.length ≤ C.size → (setMany C o vs)[i]? = if o ≤ i ∧ i < o + vs.length then vs[i - o]? else C[i]?
  | [], o, C, i, _ => by unfold setMany; rw [if_neg (by simp)]
  | v :: vs, o, C, i, h => by
    unfold setMany
    rw [setMany_at vs (o + 1) _ i (by simp at h ⊢; omega)]
    simp only [List.length_cons] at h ⊢
    by_cases h1 : o = i
    · subst h1
      rw [if_neg (by omega), if_pos (by omega), Array.getElem?_setIfInBounds_self_of_lt (by omega)]
      simp
    · rw [Array.getElem?_setIfInBounds_ne h1]
      by_cases h2 : o + 1 ≤ i ∧ i < o + 1 + vs.length
      · rw [if_pos h2, if_pos (by omega), show i - o = (i - (o + 1)) + 1 from by omega]
        simp
      · rw [if_neg h2, if_neg (by omega)]
theorem setMany_all {C cs : Array Value} (h : C.size = cs.size) : setMany C 0 cs.toList = cs := by
  apply Array.ext_getElem?
  intro i
  rw [setMany_at _ _ _ _ (by simp; omega)]
  split
  · simp
  · rename_i hn
    rw [Array.getElem?_eq_none (by simp at hn; omega), Array.getElem?_eq_none (by simp at hn; omega)]
theorem alloc_setCells (w : World) (t : TypeId) : ∀ (vs : List Value) (o : Nat) (C : Array Value), (w.alloc (.cells C t)).setCells w.heap.size o vs = w.alloc (.cells (setMany C o vs) t)
  | [], o, C => rfl
  | v :: vs, o, C => by
    unfold World.setCells setMany
    rw [World.setCell_alloc_at _ _ _ _ _ rfl]
    exact alloc_setCells w t vs (o + 1) _

section
variable {P : Program} {w : World} {ops : Array Oper} {rest : List Oper} {o o2 : Oper} {a : Act} {Q : Exit → Act → World → Prop}
theorem wpList_alloc_new (hgd : o.guard = none) (ty : TypeId) (ho : o.op = .alloc ty) (Z : Value) (hz : (P.info? ty).map (·.zero) = some (some Z))
    (h : wpList P ops Q rest (a.put o.dst (.pointer (some ⟨w.heap.size, 0, none⟩))) (w.alloc (.cells Z.cells ty))) : wpList P ops Q (o :: rest) a w := by
  obtain ⟨i, hi, hz'⟩ := Option.map_eq_some_iff.1 hz
  refine wpList_plain hgd fun K hK => ?_
  unfold Oper.wp execOp
  simp only [ho, Instr.alloc, zeroValue, typeInfo, newVar, newRow]
  simp [hi, hz', Result.andThen, Oper.upon]
  exact hK _ _ h
/-- 'alloc, store': the new variable holds what was stored. -/
theorem wpList_alloc_store (hgd : o.guard = none) (hgd2 : o2.guard = none) (ty : TypeId) (ho : o.op = .alloc ty) (d : Tmp) (hd : o.dst = some d) (y : Operand) (ho2 : o2.op = .store ty (.tmp d) y) (hd2 : o2.dst = none)
    (n : Nat) (hz : (P.info? ty).map (fun i => (i.zero.map (·.cells.size), i.size)) = some (some n, n)) (cs : Array Value) (hn : cs.size = n) (hx : (a.put (some d) (.pointer (some ⟨w.heap.size, 0, none⟩))).eval (.tmp d) = .pointer (some ⟨w.heap.size, 0, none⟩)) (hy : (a.put (some d) (.pointer (some ⟨w.heap.size, 0, none⟩))).eval y = .agg cs) (h1 : cs.all (·.oneCell') = true)
    (h : wpList P ops Q rest (a.put (some d) (.pointer (some ⟨w.heap.size, 0, none⟩))) (w.alloc (.cells cs ty))) : wpList P ops Q (o :: o2 :: rest) a w := by
  obtain ⟨i, hi, hz'⟩ := Option.map_eq_some_iff.1 hz
  simp only [Prod.mk.injEq] at hz'
  obtain ⟨hz1, hz2⟩ := hz'
  obtain ⟨Z, hZ, hZs⟩ := Option.map_eq_some_iff.1 hz1
  refine wpList_alloc_new hgd ty ho Z (by rw [hi]; simp [hZ]) ?_
  rw [hd]
  refine wpList_store_mid hgd2 ty (.tmp d) y ho2 w.heap.size 0 cs hx hy (fun j hj => ⟨?_, ?_⟩) (by rw [hi]; simp [hz2, hn]) h1 ?_
  · rw [Nat.zero_add, blk_cell (heap_alloc_new w _) j, Array.getElem?_eq_getElem (by omega)]
    rfl
  · rw [Nat.zero_add]
    exact blk_frozen (heap_alloc_new w _) j
  · rw [alloc_setCells, setMany_all (by omega), hd2]
    exact h
theorem wp_lookup_run {K : Act → World → Prop} (t : TypeId) (m k : Operand) (c : Bool) (ho : o.op = .lookup t m k c) (mv kv v : Value) (hm : a.eval m = mv) (hk : a.eval k = kv) (hr : (Instr.lookup t mv kv c).run P w = .ok v w) (h : K (a.put o.dst v) w) : Oper.wp P o a w K Q := by
  unfold Oper.wp execOp
  simp only [ho, hm, hk]
  simp [hr, Result.andThen, Oper.upon]
  exact h
theorem wpList_lookup_run (hgd : o.guard = none) (t : TypeId) (m k : Operand) (c : Bool) (ho : o.op = .lookup t m k c) (mv kv v : Value) (hm : a.eval m = mv) (hk : a.eval k = kv) (hr : (Instr.lookup t mv kv c).run P w = .ok v w) (h : wpList P ops Q rest (a.put o.dst v) w) : wpList P ops Q (o :: rest) a w :=
  wpList_plain hgd fun _ hK => wp_lookup_run t m k c ho mv kv v hm hk hr (hK _ _ h)
theorem wp_mapEntry_run {K : Act → World → Prop} {w' : World} (t : TypeId) (m k : Operand) (ho : o.op = .mapEntry t m k) (mv kv v : Value) (hm : a.eval m = mv) (hk : a.eval k = kv) (hr : (Instr.mapEntry t mv kv).run P w = .ok v w') (h : K (a.put o.dst v) w') : Oper.wp P o a w K Q := by
  unfold Oper.wp execOp
  simp only [ho, hm, hk]
  simp [hr, Result.andThen, Oper.upon]
  exact h
theorem wp_entryStore_run {K : Act → World → Prop} {w' : World} (t : TypeId) (m k x : Operand) (ho : o.op = .entryStore t m k x) (mv kv xv : Value) (hm : a.eval m = mv) (hk : a.eval k = kv) (hx : a.eval x = xv) (hr : (Instr.entryStore t mv kv xv).run P w = .ok () w') (h : K (a.put o.dst undef) w') : Oper.wp P o a w K Q := by
  unfold Oper.wp execOp
  simp only [ho, hm, hk, hx]
  simp [hr, Result.andThen, Oper.upon]
  exact h
/-- An operation whose guard holds is as one without a guard. -/
theorem wpList_unguard {d : Option Tmp} {op : Op} {t : TypeId} {pos : String} {af : Array Edge} {g : Option (Nat × Bool)}
    (hw : Region.wanted ⟨d, op, t, pos, af, g⟩ (yielded ops a.tmps) = true) (h : wpList P ops Q (⟨d, op, t, pos, af, none⟩ :: rest) a w) : wpList P ops Q (⟨d, op, t, pos, af, g⟩ :: rest) a w := by
  have h' : Oper.wp P ⟨d, op, t, pos, af, none⟩ a w (wpList P ops Q rest) Q ∨ (Oper.asks P ⟨d, op, t, pos, af, none⟩ a w ∧ LetsOut Q) := by
    have : Region.wanted ⟨d, op, t, pos, af, none⟩ (yielded ops a.tmps) = true := by simp [Region.wanted]
    simpa only [wpList, this, if_true] using h
  simp only [wpList, hw, if_true]
  exact h'
end
end Go.Proofs.YtlagkfiafelnnaaDoor
