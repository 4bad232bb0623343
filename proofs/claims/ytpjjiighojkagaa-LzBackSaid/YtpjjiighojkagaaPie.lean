/- Pieces (api.Piece) that came in: a slice of structs (a byte, a length, a distance), opened to what it reads as. The lemma 'open_slice_fields' is the guide's own, turned to this text. -/
import Derived.Test.YtpjjiighojkagaaFr
import Derived.Test.YtpjjiighojkagaaProg
import Derived.Deep.Slices
import Derived.Deep.Fields
import Derived.ChangeSame
import Derived.OpenShut
import Derived.KernelRfl
set_option linter.unusedVariables false
set_option linter.unusedSimpArgs false
namespace Go.Proofs.Ytpjjiighojkagaa
open Go.ChangeShapes Go.WideShapes Go.Deep Go.RowKit Go.Proofs.YtpjjiighojkagaaW.PrintWords

section
variable {H : Type} {enc : TypeId × Value → H} {P : Program} {w : World} {base : Nat} {spare : Nat → Bool} {held : Bool}
theorem open_slice_fields {t e : TypeId} {fs : Array Field} {fuel : Nat} {cs : List Value} {x : DataW H × List MemPlace} (ht : P.underlying t = some (.slice e)) (he : P.underlying e = some (.struct fs))
    (hone : oneCellFields P fs = true) (hC : P.cellsOf e = fs.size) (h : DataW.trod enc P w base spare held fuel t cs = some x) :
    (cs = [.slice none 0 0] ∧ x = (.nil, [])) ∨
    ∃ (a : Addr) (len cap m : Nat) (D : Nat → DataW H) (Pl : Nat → List MemPlace), cs = [.slice (some a) len cap] ∧ base ≤ a.block ∧ len ≤ cap ∧ cap ≤ maxLen ∧ m = (if spare a.block then cap else len) ∧
      x = (.slice ((List.range len).map D) ((List.range (m - len)).map fun j => D (len + j)), MemPlace.row a (m * fs.size) ++ (List.range m).flatMap Pl) ∧
      ∀ i, i < m → ∃ (ys : List (DataW H × List MemPlace)) (n : Nat), D i = .agg (ys.map (·.1)) ∧ Pl i = ys.flatMap (·.2) ∧ ys.length = fs.size ∧
        ∀ (j : Nat) (f : Field), fs[j]? = some f → ∃ (v : Value) (y : DataW H × List MemPlace), w.cell? (a.add (i * fs.size + j)) = some v ∧ ys[j]? = some y ∧ DataW.trod enc P w base spare held n f.type [v] = some y := by
  rcases open_slice ht h with h0 | ⟨a, len, cap, m, n, D, Pl, hcs, hb, hl, hm, hmm, hx, hi⟩
  · exact .inl h0
  · refine .inr ⟨a, len, cap, m, D, Pl, hcs, hb, hl, hm, hmm, by rw [hC] at hx; exact hx, fun i him => ?_⟩
    obtain ⟨cs', hc, ht'⟩ := hi i him
    rw [hC] at hc
    obtain ⟨ys, n', hn', hy, hlen, hyl, hf⟩ := DataW.trod_struct he ht'
    obtain ⟨_, hcl, hat⟩ := World.cells?_some hc
    simp only [Prod.mk.injEq] at hy
    refine ⟨ys, n', hy.1, hy.2, hyl, fun j f hj => ?_⟩
    obtain ⟨ho, hk⟩ := hone_of hone j f hj
    have hjl : j < fs.size := (Array.getElem?_eq_some_iff.1 hj).1
    have hcell := hat j hjl
    have hv : cs'[j]? = some (cs'[j]'(by omega)) := List.getElem?_eq_getElem (by omega)
    have h1 := hf j f hj
    rw [ho, hk] at h1
    have hone' : (cs'.drop j).take 1 = [cs'[j]'(by omega)] := by
      rw [List.drop_eq_getElem_cons (by omega)]
      rfl
    rw [hone'] at h1
    have hys : ys[j]? = some (ys[j]'(by omega)) := List.getElem?_eq_getElem (by omega)
    refine ⟨_, _, ?_, hys, h1.trans hys⟩
    rw [← Go.Deep.add_add, hcell, hv]
end

/-- A piece, as a plain value. -/
structure Pie where
  b : Int
  len : Int
  dist : Int
  deriving DecidableEq

def Pie.ok (p : Pie) : Prop := (0 ≤ p.b ∧ p.b < 256) ∧ (-9223372036854775808 ≤ p.len ∧ p.len ≤ 9223372036854775807) ∧ -9223372036854775808 ≤ p.dist ∧ p.dist ≤ 9223372036854775807

/-- A slice of pieces that is read. -/
def RdsQ (W : World) (v : Value) (ps : List Pie) : Prop :=
  ∃ A c, v = .slice A ps.length c ∧ ps.length ≤ c ∧ (A = none → c = 0) ∧ c ≤ 9223372036854775807 ∧ (∀ p ∈ ps, p.ok) ∧
    (0 < ps.length → ∃ ad, A = some ad ∧ ∀ j (h : j < ps.length), W.cell? (ad.add (j * 3)) = some (.int .u8 ps[j].b) ∧ W.cell? (ad.add (j * 3 + 1)) = some (.int .i64 ps[j].len) ∧ W.cell? (ad.add (j * 3 + 2)) = some (.int .i64 ps[j].dist))

theorem RdsQ.below {W W1 : World} {v : Value} {ps : List Pie} (h : RdsQ W v ps) (hb : Below W.heap.size W W1) : RdsQ W1 v ps := by
  obtain ⟨A, c, e, h1, h2, h3, h4, h5⟩ := h
  refine ⟨A, c, e, h1, h2, h3, h4, fun hp => ?_⟩
  obtain ⟨ad, e1, hc⟩ := h5 hp
  exact ⟨ad, e1, fun j hj => ⟨pw_cell_below hb (hc j hj).1, pw_cell_below hb (hc j hj).2.1, pw_cell_below hb (hc j hj).2.2⟩⟩

theorem RdsQ.old {W : World} {A : Option Addr} {n c : Nat} {ps : List Pie} (h : RdsQ W (.slice A n c) ps) (hp : 0 < ps.length) : ∃ b off, A = some ⟨b, off, none⟩ ∧ b < W.heap.size ∧ ∀ j (h : j < ps.length), W.cell? ⟨b, off + j * 3, none⟩ = some (.int .u8 ps[j].b) ∧ W.cell? ⟨b, off + j * 3 + 1, none⟩ = some (.int .i64 ps[j].len) ∧ W.cell? ⟨b, off + j * 3 + 2, none⟩ = some (.int .i64 ps[j].dist) := by
  obtain ⟨A', c', e, _, _, _, _, h5⟩ := h
  injection e with e1 e2 e3
  subst e1
  obtain ⟨ad, rfl, hc⟩ := h5 hp
  obtain ⟨b, off, spot⟩ := ad
  have hspot : spot = none := by simpa [Addr.add] using World.cell?_spot (hc 0 hp).1
  subst hspot
  refine ⟨b, off, rfl, ?_, fun j hj => ?_⟩
  · have := World.block_lt_of_cell? W _ (hc 0 hp).1
    rwa [Go.WideShapes.add_plain] at this
  · have := hc j hj
    rw [Go.WideShapes.add_plain, Go.WideShapes.add_plain, Go.WideShapes.add_plain] at this
    exact this

theorem RdsQ.take {W : World} {A : Option Addr} {c m : Nat} {ps : List Pie} (h : RdsQ W (.slice A ps.length c) ps) (hm : m ≤ ps.length) : RdsQ W (.slice A m c) (ps.take m) := by
  obtain ⟨A', c', e, h1, h2, h3, h4, h5⟩ := h
  injection e with e1 e2 e3
  subst e1
  subst e3
  have hl : (ps.take m).length = m := by rw [List.length_take]; omega
  refine ⟨A, c, by rw [hl], by omega, h2, h3, fun p hp => h4 p (List.mem_of_mem_take hp), fun hp => ?_⟩
  obtain ⟨ad, e, hc⟩ := h5 (by omega)
  refine ⟨ad, e, fun j hj => ?_⟩
  have hj' : j < ps.length := by omega
  simpa using hc j hj'

theorem open_pies {H : Type} {enc : TypeId × Value → H} {w : World} {base : Nat} {spare : Nat → Bool} {held : Bool} {fuel : Nat} {v : Value} {x : DataW H × List MemPlace}
    (h : DataW.trod enc Try.prog w base spare held fuel 22 v.cells.toList = some x) (hv : ∃ A n c, v = .slice A n c) : ∃ ps, RdsQ w v ps := by
  obtain ⟨A, n, c, rfl⟩ := hv
  rcases open_slice_fields Try.underlying22 Try.underlying35 (by kernel_rfl) (by kernel_rfl) h with ⟨e, _⟩ | ⟨a, len, cap, m, D, Pl, e, _, hl, hm, hmm, _, hi⟩
  · simp [Value.cells] at e
    obtain ⟨rfl, rfl, rfl⟩ := e
    exact ⟨[], none, 0, rfl, Nat.le_refl _, fun _ => rfl, by simp, by simp, fun h => absurd h (by simp)⟩
  · simp [Value.cells] at e
    obtain ⟨rfl, rfl, rfl⟩ := e
    have hlm : n ≤ m := by rw [hmm]; split <;> omega
    have key : ∀ i, i < n → ∃ p : Pie, p.ok ∧ w.cell? (a.add (i * 3)) = some (.int .u8 p.b) ∧ w.cell? (a.add (i * 3 + 1)) = some (.int .i64 p.len) ∧ w.cell? (a.add (i * 3 + 2)) = some (.int .i64 p.dist) := by
      intro i hi'
      obtain ⟨ys, n', _, _, _, hf⟩ := hi i (by omega)
      obtain ⟨v0, y0, c0, _, t0⟩ := hf 0 _ rfl
      obtain ⟨v1, y1, c1, _, t1⟩ := hf 1 _ rfl
      obtain ⟨v2, y2, c2, _, t2⟩ := hf 2 _ rfl
      obtain ⟨x0, e0, _, w0⟩ := DataW.trod_int Try.underlying5 t0
      obtain ⟨x1, e1, _, w1⟩ := DataW.trod_int Try.underlying3 t1
      obtain ⟨x2, e2, _, w2⟩ := DataW.trod_int Try.underlying3 t2
      have b0 := bounds_u8 w0
      have b1 := bounds_i64 w1
      have b2 := bounds_i64 w2
      obtain rfl : v0 = .int .u8 x0 := by simpa using e0
      obtain rfl : v1 = .int .i64 x1 := by simpa using e1
      obtain rfl : v2 = .int .i64 x2 := by simpa using e2
      exact ⟨⟨x0, x1, x2⟩, ⟨⟨b0.1, by show x0 < _; omega⟩, b1, b2⟩, c0, c1, c2⟩
    let f : Nat → Pie := fun i => if h : i < n then Classical.choose (key i h) else ⟨0, 0, 0⟩
    have hf : ∀ i (h : i < n), (f i).ok ∧ w.cell? (a.add (i * 3)) = some (.int .u8 (f i).b) ∧ w.cell? (a.add (i * 3 + 1)) = some (.int .i64 (f i).len) ∧ w.cell? (a.add (i * 3 + 2)) = some (.int .i64 (f i).dist) := by
      intro i hi'
      have := Classical.choose_spec (key i hi')
      simpa [f, hi'] using this
    refine ⟨(List.range n).map f, some a, c, by simp, by simpa using hl, fun h => by simp at h, by simp only [maxLen] at hm; omega, ?_, fun _ => ⟨a, rfl, fun j hj => ?_⟩⟩
    · intro p hp
      obtain ⟨i, hi', rfl⟩ := List.mem_map.1 hp
      exact (hf i (List.mem_range.1 hi')).1
    · have hj' : j < n := by simpa using hj
      have := (hf j hj').2
      simpa using this

end Go.Proofs.Ytpjjiighojkagaa
