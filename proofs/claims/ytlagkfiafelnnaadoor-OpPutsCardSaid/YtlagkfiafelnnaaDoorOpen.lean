/- An op that came in, opened to what it reads as. -/
import Derived.Test.YtlagkfiafelnnaaDoorOpM
import Derived.Test.YtlagkfiafelnnaaDoorProg
import Derived.Deep.Slices
import Derived.Deep.Fields
import Derived.ChangeSame
import Derived.OpenShut
import Derived.SizedLaws
import Derived.KernelRfl
set_option linter.unusedVariables false
set_option linter.unusedSimpArgs false
namespace Go.Proofs.YtlagkfiafelnnaaDoor
open Go.ChangeShapes Go.WideShapes Go.Deep Go.RowKit Go.Proofs.YtlagkfiafelnnaaDoorW.PrintWords

section
variable {H : Type} {enc : TypeId × Value → H} {w : World} {base : Nat} {spare : Nat → Bool} {held : Bool} {fuel : Nat} {cs : List Value} {x : DataW H × List MemPlace}
theorem trod3 (h : DataW.trod enc Tryd.prog w base spare held fuel 3 cs = some x) : ∃ n, cs = [.int .i64 n] ∧ I64 n := by
  obtain ⟨n, e, _, hw⟩ := DataW.trod_int Tryd.underlying3 h
  exact ⟨n, e, bounds_i64 hw⟩
theorem trod60 (h : DataW.trod enc Tryd.prog w base spare held fuel 60 cs = some x) : ∃ k, cs = k.map (Value.int .u8) ∧ KeyOk k := by
  obtain ⟨xs, m, _, _, hl, hn, he⟩ := DataW.trod_array Tryd.underlying60 h
  have c60 : Tryd.prog.cellsOf 60 = 32 := by kernel_rfl
  have c5 : Tryd.prog.cellsOf 5 = 1 := by kernel_rfl
  rw [c60] at hl
  have key : ∀ i, i < 32 → ∃ n, cs[i]? = some (Value.int .u8 n) ∧ 0 ≤ n ∧ n < 256 := by
    intro i hi
    have h1 := he i hi
    rw [c5, Nat.mul_one, List.getElem?_eq_getElem (show i < xs.length by omega)] at h1
    obtain ⟨n, e, _, hw⟩ := DataW.trod_int Tryd.underlying5 h1
    have hb := bounds_u8 hw
    refine ⟨n, ?_, hb.1, by omega⟩
    have := congrArg (fun l => l[0]?) e
    simpa [List.getElem?_take, List.getElem?_drop] using this
  let f : Nat → Int := fun i => if hi : i < 32 then Classical.choose (key i hi) else 0
  have hf : ∀ i (hi : i < 32), cs[i]? = some (Value.int .u8 (f i)) ∧ 0 ≤ f i ∧ f i < 256 := by
    intro i hi
    have := Classical.choose_spec (key i hi)
    simpa [f, hi] using this
  refine ⟨(List.range 32).map f, ?_, by simp, ?_⟩
  · apply List.ext_getElem?
    intro i
    by_cases hi : i < 32
    · rw [(hf i hi).1]
      simp [hi]
    · rw [List.getElem?_eq_none (by omega), List.getElem?_eq_none (by simp; omega)]
  · intro n hn
    obtain ⟨i, hi, rfl⟩ := List.mem_map.1 hn
    exact (hf i (List.mem_range.1 hi)).2
theorem split_at (n : Nat) (l : List Value) {a b : List Value} (h1 : (l.drop 0).take n = a) (h2 : l.drop n = b) : l = a ++ b := by
  rw [← h1, ← h2, List.drop_zero, List.take_append_drop]
theorem trod62 (h : DataW.trod enc Tryd.prog w base spare held fuel 62 cs = some x) : ∃ a b c d, cs = [.int .i64 a, .int .i64 b, .int .i64 c, .int .i64 d] ∧ I64 a ∧ I64 b ∧ I64 c ∧ I64 d := by
  obtain ⟨xs, m, _, _, hl, hn, he⟩ := DataW.trod_struct Tryd.underlying62 h
  have c62 : Tryd.prog.cellsOf 62 = 4 := by kernel_rfl
  have c3 : Tryd.prog.cellsOf 3 = 1 := by kernel_rfl
  rw [c62] at hl
  have hn' : xs.length = 4 := hn
  have f0 : DataW.trod enc Tryd.prog w base spare held m 3 ((cs.drop 0).take (Tryd.prog.cellsOf 3)) = xs[0]? := he 0 _ rfl
  have f1 : DataW.trod enc Tryd.prog w base spare held m 3 ((cs.drop 1).take (Tryd.prog.cellsOf 3)) = xs[1]? := he 1 _ rfl
  have f2 : DataW.trod enc Tryd.prog w base spare held m 3 ((cs.drop 2).take (Tryd.prog.cellsOf 3)) = xs[2]? := he 2 _ rfl
  have f3 : DataW.trod enc Tryd.prog w base spare held m 3 ((cs.drop 3).take (Tryd.prog.cellsOf 3)) = xs[3]? := he 3 _ rfl
  rw [c3, List.getElem?_eq_getElem (by omega)] at f0 f1 f2 f3
  obtain ⟨a, e0, b0⟩ := trod3 f0
  obtain ⟨b, e1, b1⟩ := trod3 f1
  obtain ⟨c, e2, b2⟩ := trod3 f2
  obtain ⟨d, e3, b3⟩ := trod3 f3
  refine ⟨a, b, c, d, ?_, b0, b1, b2, b3⟩
  clear f0 f1 f2 f3 he
  match cs, hl with
  | [v0, v1, v2, v3], _ =>
    simp at e0 e1 e2 e3
    rw [e0, e1, e2, e3]
theorem trod64 (h : DataW.trod enc Tryd.prog w base spare held fuel 64 cs = some x) : ∃ f : Fre, cs = f.cells ∧ f.wf := by
  obtain ⟨xs, m, _, _, hl, hn, he⟩ := DataW.trod_struct Tryd.underlying64 h
  have c64 : Tryd.prog.cellsOf 64 = 36 := by kernel_rfl
  have c62 : Tryd.prog.cellsOf 62 = 4 := by kernel_rfl
  have c60 : Tryd.prog.cellsOf 60 = 32 := by kernel_rfl
  rw [c64] at hl
  have hn' : xs.length = 2 := hn
  have f0 : DataW.trod enc Tryd.prog w base spare held m 60 ((cs.drop 0).take (Tryd.prog.cellsOf 60)) = xs[0]? := he 0 _ rfl
  have f1 : DataW.trod enc Tryd.prog w base spare held m 62 ((cs.drop 32).take (Tryd.prog.cellsOf 62)) = xs[1]? := he 1 _ rfl
  rw [c60] at f0
  rw [c62] at f1
  rw [List.getElem?_eq_getElem (by omega)] at f0 f1
  obtain ⟨k, e0, hk⟩ := trod60 f0
  obtain ⟨a, b, c, d, e1, b0, b1, b2, b3⟩ := trod62 f1
  rw [List.take_of_length_le (by rw [List.length_drop]; omega)] at e1
  exact ⟨⟨k, a, b, c, d⟩, split_at 32 cs e0 e1, hk, b0, b1, b2, b3⟩
theorem trod70 (h : DataW.trod enc Tryd.prog w base spare held fuel 70 cs = some x) : ∃ k a b, cs = k.map (Value.int .u8) ++ [.int .i64 a, .int .i64 b] ∧ KeyOk k ∧ I64 a ∧ I64 b := by
  obtain ⟨xs, m, _, _, hl, hn, he⟩ := DataW.trod_struct Tryd.underlying70 h
  have c70 : Tryd.prog.cellsOf 70 = 34 := by kernel_rfl
  have c3 : Tryd.prog.cellsOf 3 = 1 := by kernel_rfl
  have c60 : Tryd.prog.cellsOf 60 = 32 := by kernel_rfl
  rw [c70] at hl
  have hn' : xs.length = 3 := hn
  have f0 : DataW.trod enc Tryd.prog w base spare held m 60 ((cs.drop 0).take (Tryd.prog.cellsOf 60)) = xs[0]? := he 0 _ rfl
  have f1 : DataW.trod enc Tryd.prog w base spare held m 3 ((cs.drop 32).take (Tryd.prog.cellsOf 3)) = xs[1]? := he 1 _ rfl
  have f2 : DataW.trod enc Tryd.prog w base spare held m 3 ((cs.drop 33).take (Tryd.prog.cellsOf 3)) = xs[2]? := he 2 _ rfl
  rw [c60] at f0
  rw [c3] at f1 f2
  rw [List.getElem?_eq_getElem (by omega)] at f0 f1 f2
  obtain ⟨k, e0, hk⟩ := trod60 f0
  obtain ⟨a, e1, b1⟩ := trod3 f1
  obtain ⟨b, e2, b2⟩ := trod3 f2
  refine ⟨k, a, b, split_at 32 cs e0 ?_, hk, b1, b2⟩
  have hd : (cs.drop 32).length = 2 := by rw [List.length_drop]; omega
  rw [show (33 : Nat) = 32 + 1 from rfl, ← List.drop_drop] at e2
  match hq : cs.drop 32, hd with
  | [u0, u1], _ =>
    rw [hq] at e1 e2
    simp at e1 e2
    rw [e1, e2]
theorem trod72 (h : DataW.trod enc Tryd.prog w base spare held fuel 72 cs = some x) : ∃ p : Pu, cs = p.cells ∧ p.wf := by
  obtain ⟨xs, m, _, _, hl, hn, he⟩ := DataW.trod_struct Tryd.underlying72 h
  have c72 : Tryd.prog.cellsOf 72 = 35 := by kernel_rfl
  have c70 : Tryd.prog.cellsOf 70 = 34 := by kernel_rfl
  have c3 : Tryd.prog.cellsOf 3 = 1 := by kernel_rfl
  rw [c72] at hl
  have hn' : xs.length = 2 := hn
  have f0 : DataW.trod enc Tryd.prog w base spare held m 3 ((cs.drop 0).take (Tryd.prog.cellsOf 3)) = xs[0]? := he 0 _ rfl
  have f1 : DataW.trod enc Tryd.prog w base spare held m 70 ((cs.drop 1).take (Tryd.prog.cellsOf 70)) = xs[1]? := he 1 _ rfl
  rw [c3] at f0
  rw [c70] at f1
  rw [List.getElem?_eq_getElem (by omega)] at f0 f1
  obtain ⟨u, e0, b0⟩ := trod3 f0
  obtain ⟨k, a, b, e1, hk, b1, b2⟩ := trod70 f1
  rw [List.take_of_length_le (by rw [List.length_drop]; omega)] at e1
  exact ⟨⟨u, k, a, b⟩, split_at 1 cs e0 e1, b0, hk, b1, b2⟩

/-- A slice of elements of k cells, opened. -/
theorem open_rows {α : Type} {f : α → List Value} {ok : α → Prop} {t e k : Nat} (ht : Tryd.prog.underlying t = some (.slice e)) (hk : Tryd.prog.cellsOf e = k) (hk0 : 0 < k) (hlen : ∀ x, ok x → (f x).length = k) (dflt : α)
    (hel : ∀ {n cs y}, DataW.trod enc Tryd.prog w base spare held n e cs = some y → ∃ x, cs = f x ∧ ok x)
    (h : DataW.trod enc Tryd.prog w base spare held fuel t cs = some x) :
    ∃ (l : List α) (v : Value), cs = [v] ∧ RdsN w k v l.length (l.flatMap f) ∧ (∀ x ∈ l, ok x) ∧ (x.1 = .nil ∧ l = [] ∨ ∃ el sp, x.1 = .slice el sp ∧ el.length = l.length) := by
  rcases open_slice ht h with ⟨rfl, rfl⟩ | ⟨a, len, cap, m, n, D, Pl, rfl, hb, hl, hm, hmm, rfl, hi⟩
  · exact ⟨[], _, rfl, RdsN.nil w k, by simp, .inl ⟨rfl, rfl⟩⟩
  · rw [hk] at hi
    have hlm : len ≤ m := by rw [hmm]; split <;> omega
    have key : ∀ i, i < len → ∃ x, ok x ∧ w.cells? base (a.add (i * k)) k = some (f x) := by
      intro i hi'
      obtain ⟨cs', hc, ht'⟩ := hi i (by omega)
      obtain ⟨x, rfl, hx⟩ := hel ht'
      exact ⟨x, hx, hc⟩
    let g : Nat → α := fun i => if h : i < len then Classical.choose (key i h) else dflt
    have hg : ∀ i (h : i < len), ok (g i) ∧ w.cells? base (a.add (i * k)) k = some (f (g i)) := by
      intro i hi'
      have := Classical.choose_spec (key i hi')
      simpa [g, hi'] using this
    have hok : ∀ x ∈ (List.range len).map g, ok x := by
      intro x hx
      obtain ⟨i, hi', rfl⟩ := List.mem_map.1 hx
      exact (hg i (List.mem_range.1 hi')).1
    have hll : ((List.range len).map g).length = len := by simp
    refine ⟨(List.range len).map g, _, rfl, ⟨some a, cap, by rw [hll], by rw [hll]; exact hl, by simpa [maxLen] using hm, fun h => by simp at h, flat_lenV _ (fun x hx => hlen x (hok x hx)), fun hp => ?_⟩, hok, .inr ⟨_, _, rfl, by simp⟩⟩
    rw [hll] at hp
    have c0 := (World.cells?_some (hg 0 hp).2).2.2 0 (by omega)
    rw [List.getElem?_eq_getElem (by rw [hlen _ (hg 0 hp).1]; omega)] at c0
    obtain ⟨b, off, spot⟩ := a
    have hspot : spot = none := by simpa [Addr.add] using World.cell?_spot c0
    subst hspot
    refine ⟨b, off, rfl, ?_, fun j v hj => ?_⟩
    · have := World.block_lt_of_cell? w _ c0
      simpa [Addr.add] using this
    · have hjl : j < len * k := by
        have := (List.getElem?_eq_some_iff.1 hj).1
        rwa [flat_lenV _ (fun x hx => hlen x (hok x hx)), hll] at this
      have hkp : 0 < k := by omega
      have hq : j / k < len := Nat.div_lt_of_lt_mul (by rwa [Nat.mul_comm] at hjl)
      have hr : j % k < k := Nat.mod_lt _ hkp
      have hjj : j / k * k + j % k = j := by rw [Nat.mul_comm]; exact Nat.div_add_mod j k
      rw [← hjj, flat_elem _ (fun x hx => hlen x (hok x hx)) (by rw [hll]; exact hq) hr] at hj
      have hc := (World.cells?_some (hg (j / k) hq).2).2.2 (j % k) hr
      rw [Go.WideShapes.add_plain, Go.WideShapes.add_plain] at hc
      rw [← hjj, ← Nat.add_assoc]
      rw [hc]
      simpa using hj
theorem trod5 (h : DataW.trod enc Tryd.prog w base spare held fuel 22 cs = some x) : ∃ n, cs = [.int .u8 n] ∧ 0 ≤ n ∧ n < 256 := by
  obtain ⟨n, e, _, hw⟩ := DataW.trod_int Tryd.underlying22 h
  have hb := bounds_u8 hw
  exact ⟨n, e, hb.1, by omega⟩
theorem slice_weight {t e : TypeId} (ht : Tryd.prog.underlying t = some (.slice e)) (hb : 0 < Tryd.prog.bytesOf e) {y : DataW H} {n : Nat} (h : y = .nil ∧ n = 0 ∨ ∃ el sp, y = .slice el sp ∧ el.length = n) (hs : ∀ m ∈ y.weights Tryd.prog t, m ≤ reachBytes) : n ≤ 140737488355328 := by
  rcases h with ⟨_, rfl⟩ | ⟨el, sp, rfl, rfl⟩
  · omega
  · have h1 := hs ((el.length + sp.length) * Tryd.prog.bytesOf e) (by simp [DataW.weights, ht])
    have h2 : reachBytes ≤ 140737488355328 := Nat.le_of_lt_succ (Nat.lt_of_lt_of_le reachBytes_lt (by decide))
    have h3 : (el.length + sp.length) ≤ (el.length + sp.length) * Tryd.prog.bytesOf e := Nat.le_mul_of_pos_right _ hb
    omega
set_option maxRecDepth 100000 in
theorem open_op {r : Reach} {b0 : Nat} {v : Value} {d : DataW H} {p : List MemPlace} (hv : Value.okWide Tryd.prog w r b0 26 v) (h : DataW.Trod enc Tryd.prog w base spare held 26 v d p) :
    ∃ o, IsOp w v o ∧ ((∀ n ∈ d.weights Tryd.prog 26, n ≤ reachBytes) → o.news.length ≤ 140737488355328 ∧ o.puts.length ≤ 140737488355328) := by
  obtain ⟨cs, rfl, hsz⟩ := okWide_struct Tryd.underlying26 hv
  obtain ⟨fuel, hf⟩ := h
  obtain ⟨xs, m, _, hx, hl, hn, he⟩ := DataW.trod_struct Tryd.underlying26 hf
  have c26 : Tryd.prog.cellsOf 26 = 6 := by kernel_rfl
  have c3 : Tryd.prog.cellsOf 3 = 1 := by kernel_rfl
  have c5 : Tryd.prog.cellsOf 22 = 1 := by kernel_rfl
  have c23 : Tryd.prog.cellsOf 23 = 1 := by kernel_rfl
  have c24 : Tryd.prog.cellsOf 24 = 1 := by kernel_rfl
  obtain ⟨l⟩ := cs
  rw [c26] at hl hsz
  have hl' : l.length = 6 := hl
  have hn' : xs.length = 6 := hn
  have f0 : DataW.trod enc Tryd.prog w base spare held m 22 ((l.drop 0).take (Tryd.prog.cellsOf 22)) = xs[0]? := he 0 _ rfl
  have f1 : DataW.trod enc Tryd.prog w base spare held m 3 ((l.drop 1).take (Tryd.prog.cellsOf 3)) = xs[1]? := he 1 _ rfl
  have f2 : DataW.trod enc Tryd.prog w base spare held m 3 ((l.drop 2).take (Tryd.prog.cellsOf 3)) = xs[2]? := he 2 _ rfl
  have f3 : DataW.trod enc Tryd.prog w base spare held m 3 ((l.drop 3).take (Tryd.prog.cellsOf 3)) = xs[3]? := he 3 _ rfl
  have f4 : DataW.trod enc Tryd.prog w base spare held m 23 ((l.drop 4).take (Tryd.prog.cellsOf 23)) = xs[4]? := he 4 _ rfl
  have f5 : DataW.trod enc Tryd.prog w base spare held m 24 ((l.drop 5).take (Tryd.prog.cellsOf 24)) = xs[5]? := he 5 _ rfl
  clear he hf
  match l, hl' with
  | [v0, v1, v2, v3, v4, v5], _ =>
    match xs, hn' with
    | [y0, y1, y2, y3, y4, y5], _ =>
      rw [c5] at f0
      rw [c3] at f1 f2 f3
      rw [c23] at f4
      rw [c24] at f5
      obtain ⟨k, e0, b0, b0'⟩ := trod5 f0
      obtain ⟨a1, e1, b1⟩ := trod3 f1
      obtain ⟨a2, e2, b2⟩ := trod3 f2
      obtain ⟨a3, e3, b3⟩ := trod3 f3
      obtain ⟨N, vN, e4, hN, wN, sN⟩ := open_rows (k := 36) (f := Fre.cells) (ok := Fre.wf) Tryd.underlying23 (by kernel_rfl) (by omega) (fun x hx => hx.len) ⟨[], 0, 0, 0, 0⟩ trod64 f4
      obtain ⟨Pp, vP, e5, hP, wP, sP⟩ := open_rows (k := 35) (f := Pu.cells) (ok := Pu.wf) Tryd.underlying24 (by kernel_rfl) (by omega) (fun x hx => hx.len) ⟨0, [], 0, 0⟩ trod72 f5
      simp at e0 e1 e2 e3 e4 e5
      subst e0 e1 e2 e3 e4 e5
      refine ⟨⟨k, a1, a2, a3, N, Pp⟩, ⟨_, _, rfl, ⟨hN, wN⟩, ⟨hP, wP⟩, ⟨b0, b0'⟩, b1, b2, b3, wN, wP⟩, fun hs => ?_⟩
      simp only [Prod.mk.injEq] at hx
      obtain ⟨rfl, _⟩ := hx
      have hw : ∀ (j : Nat) t (d : DataW H), ([22, 3, 3, 3, 23, 24] : List TypeId)[j]? = some t → ([y0.1, y1.1, y2.1, y3.1, y4.1, y5.1] : List (DataW H))[j]? = some d → ∀ n ∈ d.weights Tryd.prog t, n ≤ reachBytes := by
        intro j t d ht hd n hn2
        refine hs n ?_
        have := DataW.weights_mem_each (P := Tryd.prog) ht hd n hn2
        simpa [DataW.weights, Tryd.underlying26] using this
      exact ⟨slice_weight Tryd.underlying23 (of_decide_eq_true (by kernel_rfl)) (n := N.length) (sN.imp (fun ⟨h1, h2⟩ => ⟨h1, by rw [h2]; rfl⟩) id) (hw 4 23 y4.1 rfl rfl),
        slice_weight Tryd.underlying24 (of_decide_eq_true (by kernel_rfl)) (n := Pp.length) (sP.imp (fun ⟨h1, h2⟩ => ⟨h1, by rw [h2]; rfl⟩) id) (hw 5 24 y5.1 rfl rfl)⟩
end
end Go.Proofs.YtlagkfiafelnnaaDoor
