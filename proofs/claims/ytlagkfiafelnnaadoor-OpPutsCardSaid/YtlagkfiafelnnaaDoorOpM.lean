/- Ops in memory: rows of elements of many cells, read. Plain lemmas on worlds. -/
import Derived.Test.YtlagkfiafelnnaaDoorOpP
import Derived.Test.YtlagkfiafelnnaaDoorBlk
set_option linter.unusedVariables false
set_option linter.unusedSimpArgs false
namespace Go.Proofs.YtlagkfiafelnnaaDoor
open Go.RowKit Go.Proofs.YtlagkfiafelnnaaDoorW.PrintWords

def Fre.cells (f : Fre) : List Value := f.key.map (Value.int .u8) ++ [.int .i64 f.at_, .int .i64 f.sectors, .int .i64 f.units, .int .i64 f.refs]
def Pu.cells (p : Pu) : List Value := .int .i64 p.unit :: (p.key.map (Value.int .u8) ++ [.int .i64 p.off, .int .i64 p.mask])
def I64 (n : Int) : Prop := -9223372036854775808 ≤ n ∧ n ≤ 9223372036854775807
def Fre.wf (f : Fre) : Prop := KeyOk f.key ∧ I64 f.at_ ∧ I64 f.sectors ∧ I64 f.units ∧ I64 f.refs
def Pu.wf (p : Pu) : Prop := I64 p.unit ∧ KeyOk p.key ∧ I64 p.off ∧ I64 p.mask
def OpV.wf (o : OpV) : Prop := (0 ≤ o.kind ∧ o.kind < 256) ∧ I64 o.at_ ∧ I64 o.n ∧ I64 o.snap ∧ (∀ f ∈ o.news, f.wf) ∧ ∀ p ∈ o.puts, p.wf
theorem OpV.wf.ok {o : OpV} (h : o.wf) : OkV o := ⟨fun f hf => (h.2.2.2.2.1 f hf).1, fun p hp => (h.2.2.2.2.2 p hp).2.1⟩
theorem Fre.wf.len {f : Fre} (h : f.wf) : f.cells.length = 36 := by simp [Fre.cells, h.1.1]
theorem Pu.wf.len {p : Pu} (h : p.wf) : p.cells.length = 35 := by simp [Pu.cells, h.2.1.1]

/-- A slice of n elements of k cells that is read. -/
def RdsN (W : World) (k : Nat) (v : Value) (n : Nat) (cs : List Value) : Prop :=
  ∃ A c, v = .slice A n c ∧ n ≤ c ∧ c ≤ 9223372036854775807 ∧ (A = none → c = 0) ∧ cs.length = n * k ∧ (0 < n → ∃ b off, A = some ⟨b, off, none⟩ ∧ b < W.heap.size ∧ W.rangeAt b off cs)
theorem RdsN.nil (W : World) (k : Nat) : RdsN W k (.slice none 0 0) 0 [] := ⟨none, 0, rfl, by omega, by omega, fun _ => rfl, by simp, fun h => by omega⟩
theorem RdsN.below {W W1 : World} {k : Nat} {v : Value} {n : Nat} {cs : List Value} (h : RdsN W k v n cs) (hb : Below W.heap.size W W1) : RdsN W1 k v n cs := by
  obtain ⟨A, c, e, h1, h2, h3, h4, h5⟩ := h
  refine ⟨A, c, e, h1, h2, h3, h4, fun hp => ?_⟩
  obtain ⟨b, off, e1, hl, hr⟩ := h5 hp
  exact ⟨b, off, e1, Nat.lt_of_lt_of_le hl hb.size, fun j v hj => pw_cell_below hb (hr j v hj)⟩
theorem RdsN.fr {S : Nat → Prop} {W W1 : World} {k : Nat} {v : Value} {n : Nat} {cs : List Value} (h : RdsN W k v n cs) (hf : Fr S W W1) (hn : ∀ A n c, v = .slice (some A) n c → ¬ S A.block) : RdsN W1 k v n cs := by
  obtain ⟨A, c, e, h1, h2, h3, h4, h5⟩ := h
  refine ⟨A, c, e, h1, h2, h3, h4, fun hp => ?_⟩
  obtain ⟨b, off, e1, hl, hr⟩ := h5 hp
  subst e1
  exact ⟨b, off, rfl, Nat.lt_of_lt_of_le hl hf.size, fun j v hj => hf.cell (hr j v hj) (hn ⟨b, off, none⟩ _ _ e)⟩
theorem own_rdsN {W : World} {base n k : Nat} {e : TypeId} {v : Value} {cs : List Value} (h : W.ownsRow base e k v n cs) : RdsN W k v n cs := by
  have hl := own_lt h
  have hlen := h.1
  rcases h.2 with ⟨rfl, rfl⟩ | ⟨g, cap, cur, rfl, _, hh, hnc, hcm, hcs, ht⟩
  · simp at hlen
    subst hlen
    exact RdsN.nil W k
  · refine ⟨_, cap, rfl, hnc, by simpa [maxLen] using hcm, fun h => by simp at h, hlen, fun _ => ⟨g, 0, rfl, hl g rfl, fun j v hj => ?_⟩⟩
    rw [Nat.zero_add, h.cellAt j (by have := (List.getElem?_eq_some_iff.1 hj).1; omega)]
    exact hj
/-- One element of such a slice. -/
theorem flat_elem {α : Type} {f : α → List Value} {k : Nat} (l : List α) (hk : ∀ x ∈ l, (f x).length = k) {i j : Nat} (hi : i < l.length) (hj : j < k) : (l.flatMap f)[i * k + j]? = (f l[i])[j]? := by
  induction l generalizing i with
  | nil => simp at hi
  | cons x l ih =>
    rw [List.flatMap_cons]
    have hx := hk x (by simp)
    cases i with
    | zero =>
      rw [Nat.zero_mul, Nat.zero_add, List.getElem?_append_left (by omega)]
      rfl
    | succ i =>
      rw [List.getElem?_append_right (by rw [hx, Nat.add_mul]; omega), hx, show (i + 1) * k + j - k = i * k + j by rw [Nat.add_mul]; omega]
      simpa using ih (fun y hy => hk y (by simp [hy])) (by simpa using hi)
theorem flat_lenV {α : Type} {f : α → List Value} {k : Nat} (l : List α) (hk : ∀ x ∈ l, (f x).length = k) : (l.flatMap f).length = l.length * k := by
  induction l with
  | nil => simp
  | cons x l ih =>
    rw [List.flatMap_cons, List.length_append, hk x (by simp), ih (fun y hy => hk y (by simp [hy])), List.length_cons, Nat.add_mul]
    omega
def RdsF (W : World) (v : Value) (fs : List Fre) : Prop := RdsN W 36 v fs.length (fs.flatMap Fre.cells) ∧ ∀ f ∈ fs, f.wf
def RdsP (W : World) (v : Value) (ps : List Pu) : Prop := RdsN W 35 v ps.length (ps.flatMap Pu.cells) ∧ ∀ p ∈ ps, p.wf
theorem RdsF.below {W W1 : World} {v : Value} {fs : List Fre} (h : RdsF W v fs) (hb : Below W.heap.size W W1) : RdsF W1 v fs := ⟨h.1.below hb, h.2⟩
theorem RdsP.below {W W1 : World} {v : Value} {fs : List Pu} (h : RdsP W v fs) (hb : Below W.heap.size W W1) : RdsP W1 v fs := ⟨h.1.below hb, h.2⟩
theorem RdsF.form {W : World} {v : Value} {fs : List Fre} (h : RdsF W v fs) : ∃ A c, v = .slice A fs.length c ∧ fs.length ≤ c ∧ c ≤ 9223372036854775807 := by
  obtain ⟨⟨A, c, e, h1, h2, _⟩, _⟩ := h
  exact ⟨A, c, e, h1, h2⟩
theorem RdsP.form {W : World} {v : Value} {fs : List Pu} (h : RdsP W v fs) : ∃ A c, v = .slice A fs.length c ∧ fs.length ≤ c ∧ c ≤ 9223372036854775807 := by
  obtain ⟨⟨A, c, e, h1, h2, _⟩, _⟩ := h
  exact ⟨A, c, e, h1, h2⟩
theorem RdsF.at_ {W : World} {A : Option Addr} {n c : Nat} {fs : List Fre} (h : RdsF W (.slice A n c) fs) (hp : 0 < fs.length) :
    ∃ b off, A = some ⟨b, off, none⟩ ∧ b < W.heap.size ∧ ∀ i (hi : i < fs.length), W.rangeAt b (off + i * 36) fs[i].cells := by
  obtain ⟨⟨A', c', e, h1, h2, h3, h4, h5⟩, hw⟩ := h
  injection e with e1 e2 e3
  subst e1
  obtain ⟨b, off, e1, hl, hr⟩ := h5 hp
  refine ⟨b, off, e1, hl, fun i hi j v hj => ?_⟩
  have hj36 : j < 36 := by have := (List.getElem?_eq_some_iff.1 hj).1; rw [(hw _ (List.getElem_mem hi)).len] at this; exact this
  have := hr (i * 36 + j) v (by rw [flat_elem fs (fun x hx => (hw x hx).len) hi hj36]; exact hj)
  rwa [← Nat.add_assoc] at this
theorem RdsP.at_ {W : World} {A : Option Addr} {n c : Nat} {fs : List Pu} (h : RdsP W (.slice A n c) fs) (hp : 0 < fs.length) :
    ∃ b off, A = some ⟨b, off, none⟩ ∧ b < W.heap.size ∧ ∀ i (hi : i < fs.length), W.rangeAt b (off + i * 35) fs[i].cells := by
  obtain ⟨⟨A', c', e, h1, h2, h3, h4, h5⟩, hw⟩ := h
  injection e with e1 e2 e3
  subst e1
  obtain ⟨b, off, e1, hl, hr⟩ := h5 hp
  refine ⟨b, off, e1, hl, fun i hi j v hj => ?_⟩
  have hj36 : j < 35 := by have := (List.getElem?_eq_some_iff.1 hj).1; rw [(hw _ (List.getElem_mem hi)).len] at this; exact this
  have := hr (i * 35 + j) v (by rw [flat_elem fs (fun x hx => (hw x hx).len) hi hj36]; exact hj)
  rwa [← Nat.add_assoc] at this

/-- An op's value. -/
def opVal (o : OpV) (vN vP : Value) : Value := .agg #[.int .u8 o.kind, .int .i64 o.at_, .int .i64 o.n, .int .i64 o.snap, vN, vP]
/-- A value that is read as an op. -/
def IsOp (W : World) (V : Value) (o : OpV) : Prop := ∃ vN vP, V = opVal o vN vP ∧ RdsF W vN o.news ∧ RdsP W vP o.puts ∧ o.wf
theorem IsOp.below {W W1 : World} {V : Value} {o : OpV} (h : IsOp W V o) (hb : Below W.heap.size W W1) : IsOp W1 V o := by
  obtain ⟨vN, vP, e, h1, h2, h3⟩ := h
  exact ⟨vN, vP, e, h1.below hb, h2.below hb, h3⟩

end Go.Proofs.YtlagkfiafelnnaaDoor
