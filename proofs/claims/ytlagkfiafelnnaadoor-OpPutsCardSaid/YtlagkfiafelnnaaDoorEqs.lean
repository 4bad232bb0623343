/- Equality of keys, of fresh records, of puts. -/
import Derived.Test.YtlagkfiafelnnaaDoorMap
import Derived.Test.YtlagkfiafelnnaaDoorWEqStruct
import Derived.Deep.MidRow
import Derived.KernelRfl
set_option linter.unusedVariables false
set_option linter.unusedSimpArgs false
namespace Go.Proofs.YtlagkfiafelnnaaDoor
open Go.RowKit Go.Maps Go.Proofs.YtlagkfiafelnnaaDoorW.PrintWords

theorem lits60 {k : List Int} (h : KeyOk k) (m : Nat) : Tryd.prog.keyLits (m + 2) 60 (k.map (Value.int .u8)) = some (k.map fun x => Lit.int .u8 x) := by
  have hl : (k.map (Value.int .u8)).length = 32 := by rw [List.length_map, h.1]
  have key : (List.range 32).mapM (fun i => Tryd.prog.keyLits (m + 1) 5 (((k.map (Value.int .u8)).drop (i * 1)).take 1)) = some ((List.range 32).map fun i => [Lit.int .u8 (k.getD i 0)]) := by
    refine mapM_some _ fun i hi => ?_
    have hi' : i < 32 := List.mem_range.1 hi
    have hx : k[i]'(by rw [h.1]; exact hi') = k.getD i 0 := by rw [List.getD_eq_getElem?_getD, List.getElem?_eq_getElem (by rw [h.1]; exact hi')]; rfl
    have hb := h.2 (k[i]'(by rw [h.1]; exact hi')) (List.getElem_mem _)
    rw [Nat.mul_one, List.drop_eq_getElem_cons (by rw [hl]; exact hi'), List.take_succ_cons, List.take_zero, List.getElem_map]
    unfold Program.keyLits
    simp only [Tryd.underlying5]
    have hw := wf_byte hb.1 hb.2
    simp only [hw, and_self, if_true]
    rw [hx]
  unfold Program.keyLits
  simp only [arrK.hu]
  rw [if_pos (by rw [arrK.size]; exact hl), arrK.one]
  rw [key]
  have e : ((List.range 32).map fun i => Lit.int .u8 (k.getD i 0)) = k.map fun x => Lit.int .u8 x := by
    apply List.ext_getElem
    · simp [h.1]
    · intro i h1 h2
      simp [List.getD_eq_getElem?_getD, List.getElem?_eq_getElem (show i < k.length by simpa using h2)]
  rw [Option.map_some, flat_one, e]
theorem lits3 {n : Int} (h : I64 n) (m : Nat) : Tryd.prog.keyLits (m + 1) 3 [.int .i64 n] = some [Lit.int .i64 n] := by
  unfold Program.keyLits
  simp only [Tryd.underlying3]
  have hw : (Lit.int .i64 n).wf = true := WalkArith.wf_i64 h
  simp only [hw, and_self, if_true]
theorem cells60 : Tryd.prog.cellsOf 60 = 32 := by kernel_rfl
theorem cells3 : Tryd.prog.cellsOf 3 = 1 := by kernel_rfl
theorem cells64 : Tryd.prog.cellsOf 64 = 36 := by kernel_rfl
theorem cells72 : Tryd.prog.cellsOf 72 = 35 := by kernel_rfl
theorem cells62 : Tryd.prog.cellsOf 62 = 4 := by kernel_rfl
theorem cells70 : Tryd.prog.cellsOf 70 = 34 := by kernel_rfl
theorem lits62 {a b c d : Int} (ha : I64 a) (hb : I64 b) (hc : I64 c) (hd : I64 d) (m : Nat) : ∃ la, Tryd.prog.keyLits (m + 2) 62 [.int .i64 a, .int .i64 b, .int .i64 c, .int .i64 d] = some la := by
  unfold Program.keyLits
  simp only [Tryd.underlying62]
  rw [if_pos ⟨by rw [cells62]; rfl, by kernel_rfl⟩]
  simp only [List.mapM_cons, List.mapM_nil, cells3, List.drop_zero, List.drop_succ_cons, List.take_succ_cons, List.take_zero, lits3 ha, lits3 hb, lits3 hc, lits3 hd]
  exact ⟨_, rfl⟩
theorem lits70 {k : List Int} {a b : Int} (hk : KeyOk k) (ha : I64 a) (hb : I64 b) (m : Nat) : ∃ la, Tryd.prog.keyLits (m + 3) 70 (k.map (Value.int .u8) ++ [.int .i64 a, .int .i64 b]) = some la := by
  have hl : (k.map (Value.int .u8)).length = 32 := by rw [List.length_map, hk.1]
  unfold Program.keyLits
  simp only [Tryd.underlying70]
  rw [if_pos ⟨by rw [cells70, List.length_append, hl]; rfl, by kernel_rfl⟩]
  have e0 : ((k.map (Value.int .u8) ++ [Value.int .i64 a, Value.int .i64 b]).drop 0).take 32 = k.map (Value.int .u8) := by rw [List.drop_zero, List.take_append_of_le_length (by omega), List.take_of_length_le (by omega)]
  have e1 : ((k.map (Value.int .u8) ++ [Value.int .i64 a, Value.int .i64 b]).drop 32).take 1 = [.int .i64 a] := by rw [show 32 = (k.map (Value.int .u8)).length by omega, List.drop_left]; rfl
  have e2 : ((k.map (Value.int .u8) ++ [Value.int .i64 a, Value.int .i64 b]).drop 33).take 1 = [.int .i64 b] := by rw [show 33 = (k.map (Value.int .u8)).length + 1 by omega, ← List.drop_drop, List.drop_left]; rfl
  simp only [List.mapM_cons, List.mapM_nil, cells3, cells60, e0, e1, e2, lits3 ha, lits3 hb, lits60 hk]
  exact ⟨_, rfl⟩
theorem lits64 {f : Fre} (h : f.wf) (m : Nat) : ∃ la, Tryd.prog.keyLits (m + 3) 64 f.cells = some la := by
  have hl : (f.key.map (Value.int .u8)).length = 32 := by rw [List.length_map, h.1.1]
  unfold Program.keyLits
  simp only [Tryd.underlying64]
  rw [if_pos ⟨by rw [cells64, h.len], by kernel_rfl⟩]
  have e0 : (f.cells.drop 0).take 32 = f.key.map (Value.int .u8) := by unfold Fre.cells; rw [List.drop_zero, List.take_append_of_le_length (by omega), List.take_of_length_le (by omega)]
  have e1 : (f.cells.drop 32).take 4 = [.int .i64 f.at_, .int .i64 f.sectors, .int .i64 f.units, .int .i64 f.refs] := by unfold Fre.cells; rw [show 32 = (f.key.map (Value.int .u8)).length by omega, List.drop_left]; rfl
  obtain ⟨la, h62⟩ := lits62 h.2.1 h.2.2.1 h.2.2.2.1 h.2.2.2.2 m
  simp only [List.mapM_cons, List.mapM_nil, cells62, cells60, e0, e1, lits60 h.1, h62]
  exact ⟨_, rfl⟩
theorem lits72 {p : Pu} (h : p.wf) (m : Nat) : ∃ la, Tryd.prog.keyLits (m + 4) 72 p.cells = some la := by
  unfold Program.keyLits
  simp only [Tryd.underlying72]
  rw [if_pos ⟨by rw [cells72, h.len], by kernel_rfl⟩]
  have hl : (p.key.map (Value.int .u8)).length = 32 := by rw [List.length_map, h.2.1.1]
  have e0 : (p.cells.drop 0).take 1 = [.int .i64 p.unit] := rfl
  have e1 : (p.cells.drop 1).take 34 = p.key.map (Value.int .u8) ++ [.int .i64 p.off, .int .i64 p.mask] := by
    unfold Pu.cells
    rw [List.drop_succ_cons, List.drop_zero, List.take_of_length_le (by simp [h.2.1.1])]
  obtain ⟨la, h70⟩ := lits70 h.2.1 h.2.2.1 h.2.2.2 m
  simp only [List.mapM_cons, List.mapM_nil, cells70, cells3, e0, e1, lits3 h.1, h70]
  exact ⟨_, rfl⟩
theorem lit_inj {k k' : List Int} (h : (k.map fun x => Lit.int .u8 x) = k'.map fun x => Lit.int .u8 x) : k = k' := by
  apply List.ext_getElem?
  intro i
  have := congrArg (fun l => l[i]?) h
  simp only [List.getElem?_map] at this
  cases ha : k[i]? <;> cases hb : k'[i]? <;> simp_all
theorem eq60 {k k' : List Int} (h : KeyOk k) (h' : KeyOk k') (w : World) : (Op.equalIn 10000 60 (keyV k) (keyV k')).run Tryd.prog w = .ok (decide (k = k')) w := by
  obtain ⟨r, h1, h2⟩ := run_equalIn_deep (P := Tryd.prog) 9998 2 60 (by kernel_rfl) w 2 2 (keyV k) (keyV k') _ _ (by simp [keyV, Value.formed, arrK.hu, arrK.size, h.1]) (by simp [keyV, Value.formed, arrK.hu, arrK.size, h'.1]) (lits60 h 0) (lits60 h' 0)
  have : r = decide (k = k') := by
    rw [Bool.eq_iff_iff, h2, decide_eq_true_iff]
    exact ⟨lit_inj, fun e => by rw [e]⟩
  rw [← this]
  exact h1
theorem eq64 {f : Fre} (h : f.wf) (w : World) : (Op.equalIn 10000 64 (.agg f.cells.toArray) (.agg f.cells.toArray)).run Tryd.prog w = .ok true w := by
  obtain ⟨la, hl⟩ := lits64 h 0
  have hf : (Value.agg f.cells.toArray).formed Tryd.prog 64 = true := by simp [Value.formed, Tryd.underlying64, cells64, h.len]
  obtain ⟨r, h1, h2⟩ := run_equalIn_deep (P := Tryd.prog) 9997 3 64 (by kernel_rfl) w 3 3 (.agg f.cells.toArray) (.agg f.cells.toArray) la la hf hf hl hl
  rw [h2.2 rfl] at h1
  exact h1
theorem eq72 {f : Pu} (h : f.wf) (w : World) : (Op.equalIn 10000 72 (.agg f.cells.toArray) (.agg f.cells.toArray)).run Tryd.prog w = .ok true w := by
  obtain ⟨la, hl⟩ := lits72 h 0
  have hf : (Value.agg f.cells.toArray).formed Tryd.prog 72 = true := by simp [Value.formed, Tryd.underlying72, cells72, h.len]
  obtain ⟨r, h1, h2⟩ := run_equalIn_deep (P := Tryd.prog) 9996 4 72 (by kernel_rfl) w 4 4 (.agg f.cells.toArray) (.agg f.cells.toArray) la la hf hf hl hl
  rw [h2.2 rfl] at h1
  exact h1

section
variable {P : Program} {ops : Array Oper} {S : World → Prop} {op : Oper} {a : Act}
theorem yieldsIf_neq_agg (hw : Region.wanted op (yielded ops a.tmps) = true) (t u : TypeId) (x y : Operand) (ho : op.op = .binOp .neq t x y u) (xs ys : Array Value) (hx : a.eval x = .agg xs) (hy : a.eval y = .agg ys)
    (hg : P.eqGuardType P.depth t = false) (r : Bool) (he : ∀ w, (Op.equalIn 10000 t (.agg xs) (.agg ys)).run P w = .ok r w) : YieldsIf P ops S op (.bool (!r)) a :=
  .inl ⟨hw, fun w _ => by
    unfold execOp
    simp only [ho, hx, hy, Sem.run_bind, run_eqGuard_agg w _ _ _ _ _ _ hg, run_neq_struct, he, Result.andThen_ok, Sem.run_pure]⟩
end
end Go.Proofs.YtlagkfiafelnnaaDoor
